/- Texts of the proof, joined: The walk of LedgerPlays: one call. -/
import Derived.Test.YtmhojaiajhdlcaaGreatMp19
import Derived.Test.YtmhojaiajhdlcaaGreatMp20
namespace Go.Proofs.YtmhojaiajhdlcaaGreat
open Go.RowKit
set_option linter.unusedSimpArgs false
set_option linter.unusedVariables false
noncomputable def reg10 : Code := regIn 10 Tryz.f5.body
noncomputable def rest10 : Code := restIn 10 Tryz.f5.body
set_option maxRecDepth 100000 in
set_option maxHeartbeats 8000000 in
theorem lp10 {w W : World} {gd gl gr gk k lb loff cap1 : Nat} {l : List Ask25} {rl : List Rec} {s : DS} {x1 x2 x9 x10 x11 x12 x13 x14 x15 x16 x17 x18 x19 x20 x21 x22 x23 x24 x25 x26 x27 x28 x29 x30 x31 x32 x33 x34 x35 x36 x37 x38 x39 x40 x41 x42 x43 x44 x45 x46 x47 x48 x49 x50 x51 x52 x53 x54 x55 x56 x57 x58 x59 x60 x61 x62 x63 x64 x65 x66 x67 x68 x69 x70 x71 x72 x73 x74 x75 x76 x77 x78 x79 x80 x81 x82 x83 x84 x85 x86 x87 x88 x89 x90 x91 x92 x93 x94 x95 x96 x97 x98 x99 x100 x101 x102 x103 x104 x105 x106 x107 x108 x109 x110 x111 x112 x113 x114 x115 x116 x117 x118 x119 x120 x121 x122 x123 x124 x125 x126 x127 x128 x129 x130 x131 x132 x133 x134 x135 x136 x137 x138 x139 x140 x141 x142 x143 x144 x145 x146 x147 x148 x149 x150 x151 x152 x153 x154 x155 x156 x157 x158 x159 x160 x161 x162 x163 x164 x165 x166 x167 x168 x169 x170 x171 x172 x173 x174 x175 x176 x177 x178 x179 x180 x181 x182 x183 x184 x185 x186 x187 x188 x189 x190 x191 x192 x193 x194 x195 x196 x197 : Value} {Q : Exit → Act → World → Prop} (hs0 : LP w W gd gr (2 * k) gl gk rl s) (hca : ∀ j, j < l.length → ∀ i, i < 17 → w.cell? ⟨lb, loff + (j * 17 + i), none⟩ = (ask25Cells (nth l j))[i]?) (HG : Hid (∀ x ∈ l, Ask25Good x)) (hlt : k < l.length) (h40 : k < 60) (q1 : (k : Int) < l.length) (q3 : (0 : Int) ≤ k)
    (hQ : ∀ (y2 y9 y10 y11 y12 y13 y14 y15 y16 y17 y18 y45 y46 y47 y48 y49 y50 y51 y52 y53 y54 y55 y56 y57 y58 y59 y60 y61 y62 y63 y64 y65 y66 y67 y68 y69 y70 y71 y72 y73 y74 y75 y76 y77 y78 y79 y80 y81 y82 y83 y84 y85 y86 y87 y88 y89 y90 y91 y92 y93 y94 y95 y96 y97 y98 y99 y100 y101 y102 y103 y104 y105 y106 y107 y108 y109 y110 y111 y112 y113 y114 y115 y116 y117 y118 y119 y120 y121 y122 y123 y124 y125 y126 y127 y128 y129 y130 y131 y132 y133 y134 y135 y136 y137 y138 y139 y140 y141 y142 y143 y144 y145 y146 y147 y148 y149 y150 y151 y152 y153 y154 y155 y156 y157 y158 y159 y160 y161 y162 y163 y164 y165 y166 y167 y168 y169 y170 y171 y172 y173 y174 y175 y176 y177 y178 y179 y180 y181 y182 y183 y184 y185 y186 y187 : Value) (rl9 : List Rec) (s9 : DS) (gl9 gk9 : Nat) (w' : World), L2 w w' [] w' gd gl9 gr gk9 rl9 s9 rl9 s9 ∧ PJ (2 * (k + 1)) rl9 s9 → Q .normal ⟨#[.slice (some ⟨lb, loff, none⟩) l.length cap1, x1, y2, .pointer (some ⟨gd, 0, none⟩), .pointer (some ⟨gr, 0, none⟩), .pointer (some ⟨gl9, 0, none⟩), .int .i64 0, .pointer (some ⟨gk9, 0, none⟩), .int .i64 (k : Int), y9, y10, y11, y12, y13, y14, y15, y16, y17, y18, x19, x20, x21, x22, x23, x24, x25, x26, x27, x28, x29, x30, x31, x32, x33, x34, x35, x36, x37, x38, x39, x40, x41, x42, x43, x44, y45, y46, y47, y48, y49, y50, y51, y52, y53, y54, y55, y56, y57, y58, y59, y60, y61, y62, y63, y64, y65, y66, y67, y68, y69, y70, y71, y72, y73, y74, y75, y76, y77, y78, y79, y80, y81, y82, y83, y84, y85, y86, y87, y88, y89, y90, y91, y92, y93, y94, y95, y96, y97, y98, y99, y100, y101, y102, y103, y104, y105, y106, y107, y108, y109, y110, y111, y112, y113, y114, y115, y116, y117, y118, y119, y120, y121, y122, y123, y124, y125, y126, y127, y128, y129, y130, y131, y132, y133, y134, y135, y136, y137, y138, y139, y140, y141, y142, y143, y144, y145, y146, y147, y148, y149, y150, y151, y152, y153, y154, y155, y156, y157, y158, y159, y160, y161, y162, y163, y164, y165, y166, y167, y168, y169, y170, y171, y172, y173, y174, y175, y176, y177, y178, y179, y180, y181, y182, y183, y184, y185, y186, y187, x188, x189, x190, x191, x192, x193, x194, x195, x196, x197], []⟩ w') {K : Act → World → Prop} (hK : ∀ a w, Code.wp Tryz.prog rest10 Q a w → K a w) : Code.wp Tryz.prog reg10 (Exit.then K Q) ⟨#[.slice (some ⟨lb, loff, none⟩) l.length cap1, x1, x2, .pointer (some ⟨gd, 0, none⟩), .pointer (some ⟨gr, 0, none⟩), .pointer (some ⟨gl, 0, none⟩), .int .i64 0, .pointer (some ⟨gk, 0, none⟩), .int .i64 (k : Int), x9, x10, x11, x12, x13, x14, x15, x16, x17, x18, x19, x20, x21, x22, x23, x24, x25, x26, x27, x28, x29, x30, x31, x32, x33, x34, x35, x36, x37, x38, x39, x40, x41, x42, x43, x44, x45, x46, x47, x48, x49, x50, x51, x52, x53, x54, x55, x56, x57, x58, x59, x60, x61, x62, x63, x64, x65, x66, x67, x68, x69, x70, x71, x72, x73, x74, x75, x76, x77, x78, x79, x80, x81, x82, x83, x84, x85, x86, x87, x88, x89, x90, x91, x92, x93, x94, x95, x96, x97, x98, x99, x100, x101, x102, x103, x104, x105, x106, x107, x108, x109, x110, x111, x112, x113, x114, x115, x116, x117, x118, x119, x120, x121, x122, x123, x124, x125, x126, x127, x128, x129, x130, x131, x132, x133, x134, x135, x136, x137, x138, x139, x140, x141, x142, x143, x144, x145, x146, x147, x148, x149, x150, x151, x152, x153, x154, x155, x156, x157, x158, x159, x160, x161, x162, x163, x164, x165, x166, x167, x168, x169, x170, x171, x172, x173, x174, x175, x176, x177, x178, x179, x180, x181, x182, x183, x184, x185, x186, x187, x188, x189, x190, x191, x192, x193, x194, x195, x196, x197], []⟩ W := by
  conv => arg 2; whnf
  change ∀ a w, Code.wp _ (Code.seq _ _) Q a w → K a w at hK
  have HQ := Lib.hid hQ
  clear hQ
  have hs := Lib.hid hs0
  clear hs0
  have hcb : ∀ i, i < 17 → w.cell? ⟨lb, loff + (k * 17 + i), none⟩ = (ask25Cells (nth l k))[i]? := hca k hlt
  have hgx := HG.out (nth l k) (by rw [nth_get _ _ hlt]; exact List.getElem_mem _)
  generalize nth l k = x at hcb hgx
  obtain ⟨kd, n0, r⟩ := x
  obtain ⟨hgk, hgn, hgr, hgz⟩ := hgx
  obtain ⟨ino, gen, at_, rule, kind, c0, c1, c2, c3, c4, c5, c6, c7, c8, c9, rfl⟩ := rec_mk r
  have HNI : Hid (I64 n0) := hgn
  have HK : Hid (Key64 ⟨ino, gen, at_, rule⟩) := ⟨hgr.ino, hgr.gen, hgr.at_, hgz⟩
  have hold := hs.out.two.old
  have hca : ∀ i, i < 17 → W.cell? ⟨lb, loff + (k * 17 + i), none⟩ = (ask25Cells ⟨kd, n0, mkRec ino gen at_ rule kind c0 c1 c2 c3 c4 c5 c6 c7 c8 c9⟩)[i]? := fun i hi => by
    have h1 := hcb i hi
    have h2 : i < (ask25Cells ⟨kd, n0, mkRec ino gen at_ rule kind c0 c1 c2 c3 c4 c5 c6 c7 c8 c9⟩).length := by rw [ask25Cells_len]; exact hi
    rw [List.getElem?_eq_getElem h2] at h1 ⊢
    exact hold.cell h1 (by simp)
  have a0 : W.cell? ⟨lb, loff + k * 17, none⟩ = some (.int .i64 kd) := hca 0 (by omega)
  have a1 : W.cell? ⟨lb, loff + k * 17 + 1, none⟩ = some (.int .i64 n0) := hca 1 (by omega)
  have a2 : W.cell? ⟨lb, loff + k * 17 + 2, none⟩ = some (.int .i64 ino) := hca 2 (by omega)
  have a3 : W.cell? ⟨lb, loff + k * 17 + 3, none⟩ = some (.int .i64 gen) := hca 3 (by omega)
  have a4 : W.cell? ⟨lb, loff + k * 17 + 4, none⟩ = some (.int .i64 at_) := hca 4 (by omega)
  have a5 : W.cell? ⟨lb, loff + k * 17 + 5, none⟩ = some (.string rule) := hca 5 (by omega)
  have a6 : W.cell? ⟨lb, loff + k * 17 + 6, none⟩ = some (.int .i64 kind) := hca 6 (by omega)
  have a7 : W.cell? ⟨lb, loff + k * 17 + 7, none⟩ = some (.int .i64 c0) := hca 7 (by omega)
  have a8 : W.cell? ⟨lb, loff + k * 17 + 8, none⟩ = some (.int .i64 c1) := hca 8 (by omega)
  have a9 : W.cell? ⟨lb, loff + k * 17 + 9, none⟩ = some (.int .i64 c2) := hca 9 (by omega)
  have a10 : W.cell? ⟨lb, loff + k * 17 + 10, none⟩ = some (.int .i64 c3) := hca 10 (by omega)
  have a11 : W.cell? ⟨lb, loff + k * 17 + 11, none⟩ = some (.int .i64 c4) := hca 11 (by omega)
  have a12 : W.cell? ⟨lb, loff + k * 17 + 12, none⟩ = some (.int .i64 c5) := hca 12 (by omega)
  have a13 : W.cell? ⟨lb, loff + k * 17 + 13, none⟩ = some (.int .i64 c6) := hca 13 (by omega)
  have a14 : W.cell? ⟨lb, loff + k * 17 + 14, none⟩ = some (.int .i64 c7) := hca 14 (by omega)
  have a15 : W.cell? ⟨lb, loff + k * 17 + 15, none⟩ = some (.int .i64 c8) := hca 15 (by omega)
  have a16 : W.cell? ⟨lb, loff + k * 17 + 16, none⟩ = some (.int .i64 c9) := hca 16 (by omega)
  have HB2 := Lib.hid (hs.out.two.box (.cells #[.int .i64 kd, .int .i64 n0, .int .i64 ino, .int .i64 gen, .int .i64 at_, .string rule, .int .i64 kind, .int .i64 c0, .int .i64 c1, .int .i64 c2, .int .i64 c3, .int .i64 c4, .int .i64 c5, .int .i64 c6, .int .i64 c7, .int .i64 c8, .int .i64 c9] 64))
  have HBX : Hid (Blk (W.alloc (.cells #[.int .i64 kd, .int .i64 n0, .int .i64 ino, .int .i64 gen, .int .i64 at_, .string rule, .int .i64 kind, .int .i64 c0, .int .i64 c1, .int .i64 c2, .int .i64 c3, .int .i64 c4, .int .i64 c5, .int .i64 c6, .int .i64 c7, .int .i64 c8, .int .i64 c9] 64)) W.heap.size 64 [.int .i64 kd, .int .i64 n0, .int .i64 ino, .int .i64 gen, .int .i64 at_, .string rule, .int .i64 kind, .int .i64 c0, .int .i64 c1, .int .i64 c2, .int .i64 c3, .int .i64 c4, .int .i64 c5, .int .i64 c6, .int .i64 c7, .int .i64 c8, .int .i64 c9]) := Blk.new W _ [.int .i64 kd, .int .i64 n0, .int .i64 ino, .int .i64 gen, .int .i64 at_, .string rule, .int .i64 kind, .int .i64 c0, .int .i64 c1, .int .i64 c2, .int .i64 c3, .int .i64 c4, .int .i64 c5, .int .i64 c6, .int .i64 c7, .int .i64 c8, .int .i64 c9]
  have HPI := Lib.hid (hs.out.inv)
  have HZ := Lib.hid (hs.out.inv.now (by omega))
  have HKB : Hid (2 * k ≤ 240 ∧ 2 * k + 1 ≤ 240) := by unfold Hid; omega
  clear hca hcb hgk hgn hgr hgz hold hs
  have b0 := HBX.out.cell 0
  simp only [List.getElem?_cons_zero] at b0
  go_upto_block 2 with fail
  generalize W.alloc (.cells #[.int .i64 kd, .int .i64 n0, .int .i64 ino, .int .i64 gen, .int .i64 at_, .string rule, .int .i64 kind, .int .i64 c0, .int .i64 c1, .int .i64 c2, .int .i64 c3, .int .i64 c4, .int .i64 c5, .int .i64 c6, .int .i64 c7, .int .i64 c8, .int .i64 c9] 64) = w1 at *
  obtain ⟨gx, hgx⟩ : ∃ gx, W.heap.size = gx := ⟨_, rfl⟩
  rw [hgx] at HB2 HBX
  simp only [hgx] at *
  clear a0 a1 a2 a3 a4 a5 a6 a7 a8 a9 a10 a11 a12 a13 a14 a15 a16 hgx
  go_cut [5, 6, 7, 10, 11, 12, 13, 14] from 51 to 153 (fun v5 v6 v7 v10 v11 v12 v13 v14 wx => ∃ (gl gk : Nat) (rl : List Rec) (s : DS), v5 = .pointer (some ⟨gl, 0, none⟩) ∧ v6 = .int .i64 0 ∧ v7 = .pointer (some ⟨gk, 0, none⟩) ∧ Hid (L2 w wx [] wx gd gl gr gk rl s rl s) ∧ Hid (PJ (2 * (k + 1)) rl s))
  case first =>
    by_cases k1 : kd = 1
    · subst k1
      go_upto_region 13 with fail
      refine lp13 ino gen at_ rule kind c0 c1 c2 c3 c4 c5 c6 c7 c8 c9 HB2.out HBX.out HPI.out HKB.out.1 (fun _ _ _ _ _ _ _ _ _ _ _ _ _ _ _ _ _ _ _ _ _ _ _ _ _ _ _ _ _ _ _ _ _ _ _ rl9 s9 w9 h => ?_) (by assumption)
      go_wp2_with fail
      go_meet
      exact ⟨_, _, _, _, rfl, rfl, rfl, h.1, h.2⟩
    · have t1 : (kd == 1) = false := by rw [beq_eq_false_iff_ne]; exact k1
      by_cases k2 : kd = 2
      · subst k2
        go_upto_region 18 with fail
        refine lp18 ino gen at_ rule kind c0 c1 c2 c3 c4 c5 c6 c7 c8 c9 HB2.out HBX.out HPI.out HKB.out.1 HK.out (fun _ _ _ _ _ _ _ _ _ _ _ rl9 s9 w9 h => ?_) (by assumption)
        go_wp2_with fail
        go_meet
        exact ⟨_, _, _, _, rfl, rfl, rfl, h.1, h.2⟩
      · have t2 : (kd == 2) = false := by rw [beq_eq_false_iff_ne]; exact k2
        by_cases k3 : kd = 3
        · subst k3
          obtain ⟨ra, rk, gc1, hrr, hrk, hrk2⟩ := HB2.out.rows
          have d1 := HBX.out.cell 1
          simp only [List.getElem?_cons_zero, List.getElem?_cons_succ] at d1
          clear hrr
          by_cases y1 : n0 < 0
          · have y3 : ¬ (rl.length : Int) < 0 := by omega
            go_upto_region 26 with fail
            refine lp26 ino gen at_ rule kind c0 c1 c2 c3 c4 c5 c6 c7 c8 c9 HB2.out HBX.out HPI.out HKB.out.1 (m := 0) (by omega) (.inl ⟨y1, rfl⟩) rfl (fun _ _ _ _ _ _ _ _ _ _ _ _ rl9 s9 w9 h => ?_) (by assumption)
            go_wp2_with fail
            go_meet
            exact ⟨_, _, _, _, rfl, rfl, rfl, h.1, h.2⟩
          · by_cases y2 : (rl.length : Int) < n0
            · go_upto_region 26 with fail
              refine lp26 ino gen at_ rule kind c0 c1 c2 c3 c4 c5 c6 c7 c8 c9 HB2.out HBX.out HPI.out HKB.out.1 (m := rl.length) (by omega) (.inr (.inr ⟨y2, rfl⟩)) rfl (fun _ _ _ _ _ _ _ _ _ _ _ _ rl9 s9 w9 h => ?_) (by assumption)
              go_wp2_with fail
              go_meet
              exact ⟨_, _, _, _, rfl, rfl, rfl, h.1, h.2⟩
            · obtain ⟨m, rfl⟩ := Int.eq_ofNat_of_zero_le (show 0 ≤ n0 by omega)
              go_upto_region 26 with fail
              refine lp26 ino gen at_ rule kind c0 c1 c2 c3 c4 c5 c6 c7 c8 c9 HB2.out HBX.out HPI.out HKB.out.1 (m := m) (by omega) (.inr (.inl rfl)) rfl (fun _ _ _ _ _ _ _ _ _ _ _ _ rl9 s9 w9 h => ?_) (by assumption)
              go_wp2_with fail
              go_meet
              exact ⟨_, _, _, _, rfl, rfl, rfl, h.1, h.2⟩
        · have t3 : (kd == 3) = false := by rw [beq_eq_false_iff_ne]; exact k3
          by_cases k4 : kd = 4
          · subst k4
            have d0 := HBX.out.cell 0
            simp only [List.getElem?_cons_zero] at d0
            go_upto_region 33 with fail
            refine lp33 HB2.out HPI.out.up HKB.out.1 (fun _ _ _ _ _ _ _ _ _ _ _ _ _ rl9 s9 gl9 gk9 w9 h => ?_) (by assumption)
            go_wp2_with fail
            go_meet
            exact ⟨_, _, _, _, rfl, rfl, rfl, h.1, h.2⟩
          · have t4 : (kd == 4) = false := by rw [beq_eq_false_iff_ne]; exact k4
            by_cases k5 : kd = 5
            · subst k5
              obtain ⟨s9, hs9⟩ : ∃ s9, dBack s n0 = s9 := ⟨_, rfl⟩
              have HS9 := Lib.hid hs9
              have HPB : Hid (PJ (2 * k + 1) rl s9) := by rw [← hs9]; exact HPI.out.back n0
              have d0 := HBX.out.cell 0
              have d1 := HBX.out.cell 1
              simp only [List.getElem?_cons_zero, List.getElem?_cons_succ] at d0 d1
              clear hs9
              go_wp2_with fail
              (with_reducible refine (l2Back HB2.out n0 HNI.out HZ.out HS9.out).mono ?_)
              rintro e w8 ⟨rfl, h8⟩
              have H8 := Lib.hid h8
              have d1 := (H8.out.kept (List.mem_cons_self) HBX.out).cell 1
              simp only [List.getElem?_cons_zero, List.getElem?_cons_succ] at d1
              clear h8
              go_wp2_with fail
              (with_reducible refine (l2BackR H8.out n0 HNI.out HZ.out HS9.out).mono ?_)
              rintro e w9 ⟨rfl, h9⟩
              have HB9 := Lib.hid h9
              clear h9 H8
              go_upto_region 33 with fail
              refine lp33 HB9.out HPB.out HKB.out.1 (fun _ _ _ _ _ _ _ _ _ _ _ _ _ rl9 s9 gl9 gk9 w9 h => ?_) (by assumption)
              go_wp2_with fail
              go_meet
              exact ⟨_, _, _, _, rfl, rfl, rfl, h.1, h.2⟩
            · have t5 : (kd == 5) = false := by rw [beq_eq_false_iff_ne]; exact k5
              have HP2 : Hid (PJ (2 * (k + 1)) rl s) := HPI.out.up.up
              have HF := Lib.hid (HB2.out.free)
              go_wp2_with fail
              go_meet
              exact ⟨_, _, _, _, rfl, rfl, rfl, HF, HP2⟩
  case rest =>
    obtain ⟨gl, gk, rl, s, rfl, rfl, rfl, hs, hp⟩ := hcut
    clear HB2 HBX HPI HK HNI b0
    go_upto_region 37 with fail
    refine lp37 hs.out (hp.out.now (by omega)) (fun _ _ _ _ _ _ _ _ _ _ _ _ _ _ _ _ _ _ _ _ _ _ _ _ _ _ _ _ _ _ _ _ _ _ _ _ _ _ w9 h => ?_) (by assumption)
    have HF := Lib.hid h
    clear h
    go_wp2_with fail
    exact HQ.out _ _ _ _ _ _ _ _ _ _ _ _ _ _ _ _ _ _ _ _ _ _ _ _ _ _ _ _ _ _ _ _ _ _ _ _ _ _ _ _ _ _ _ _ _ _ _ _ _ _ _ _ _ _ _ _ _ _ _ _ _ _ _ _ _ _ _ _ _ _ _ _ _ _ _ _ _ _ _ _ _ _ _ _ _ _ _ _ _ _ _ _ _ _ _ _ _ _ _ _ _ _ _ _ _ _ _ _ _ _ _ _ _ _ _ _ _ _ _ _ _ _ _ _ _ _ _ _ _ _ _ _ _ _ _ _ _ _ _ _ _ _ _ _ _ _ _ _ _ _ _ _ _ _ _ _ _ _ _ ⟨HF.out, hp.out⟩
end Go.Proofs.YtmhojaiajhdlcaaGreat
