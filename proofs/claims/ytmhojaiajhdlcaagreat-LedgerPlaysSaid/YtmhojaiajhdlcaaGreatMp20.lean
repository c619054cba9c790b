/- Texts of the proof, joined: The walk of LedgerPlays: is a key there. The walk of LedgerPlays: the records from a number on. The walk of LedgerPlays: both are opened. The walk of LedgerPlays: both are alike. -/
import Derived.Test.YtmhojaiajhdlcaaGreatMp18
namespace Go.Proofs.YtmhojaiajhdlcaaGreat
open Go.RowKit
set_option linter.unusedSimpArgs false
set_option linter.unusedVariables false
noncomputable def reg18 : Code := regIn 18 Tryz.f5.body
noncomputable def rest18 : Code := restIn 18 Tryz.f5.body
set_option maxRecDepth 100000 in
set_option maxHeartbeats 8000000 in
theorem lp18 {w W U : World} {gd gl gr gk gx k : Nat} {rl : List Rec} {s : DS} (ino gen at_ : Int) (rule : ByteArray) (kind c0 c1 c2 c3 c4 c5 c6 c7 c8 c9 : Int) {kd n0 : Int} {x0 x1 x2 x3 x4 x6 x8 x10 x11 x12 x13 x14 x15 x16 x17 x18 x19 x20 x21 x22 x23 x24 x25 x26 x27 x28 x29 x30 x31 x32 x33 x34 x35 x36 x37 x38 x39 x40 x41 x42 x43 x44 x45 x46 x47 x48 x49 x50 x51 x52 x53 x54 x55 x56 x57 x58 x59 x60 x61 x62 x63 x64 x65 x66 x67 x68 x69 x70 x71 x72 x73 x74 x75 x76 x77 x78 x79 x80 x81 x82 x83 x84 x85 x86 x87 x88 x89 x90 x91 x92 x93 x94 x95 x96 x97 x98 x99 x100 x101 x102 x103 x104 x105 x106 x107 x108 x109 x110 x111 x112 x113 x114 x115 x116 x117 x118 x119 x120 x121 x122 x123 x124 x125 x126 x127 x128 x129 x130 x131 x132 x133 x134 x135 x136 x137 x138 x139 x140 x141 x142 x143 x144 x145 x146 x147 x148 x149 x150 x151 x152 x153 x154 x155 x156 x157 x158 x159 x160 x161 x162 x163 x164 x165 x166 x167 x168 x169 x170 x171 x172 x173 x174 x175 x176 x177 x178 x179 x180 x181 x182 x183 x184 x185 x186 x187 x188 x189 x190 x191 x192 x193 x194 x195 x196 x197 : Value} {Q : Exit → Act → World → Prop} (hB2 : L2 w W [gx] U gd gl gr gk rl s rl s) (hBX : Blk U gx 64 [.int .i64 kd, .int .i64 n0, .int .i64 ino, .int .i64 gen, .int .i64 at_, .string rule, .int .i64 kind, .int .i64 c0, .int .i64 c1, .int .i64 c2, .int .i64 c3, .int .i64 c4, .int .i64 c5, .int .i64 c6, .int .i64 c7, .int .i64 c8, .int .i64 c9]) (hPI : PJ (2 * k) rl s) (hk : 2 * k ≤ 240) (hK1 : Key64 ⟨ino, gen, at_, rule⟩)
    (hQ : ∀ (y86 y87 y88 y89 y90 y91 y92 y93 y94 y95 y96 : Value) (rl9 : List Rec) (s9 : DS) (w' : World), L2 w w' [] w' gd gl gr gk rl9 s9 rl9 s9 ∧ PJ (2 * (k + 1)) rl9 s9 → Q .normal ⟨#[x0, x1, x2, x3, x4, .pointer (some ⟨gl, 0, none⟩), x6, .pointer (some ⟨gk, 0, none⟩), x8, .pointer (some ⟨gx, 0, none⟩), x10, x11, x12, x13, x14, x15, x16, x17, x18, x19, x20, x21, x22, x23, x24, x25, x26, x27, x28, x29, x30, x31, x32, x33, x34, x35, x36, x37, x38, x39, x40, x41, x42, x43, x44, x45, x46, x47, x48, x49, x50, x51, x52, x53, x54, x55, x56, x57, x58, x59, x60, x61, x62, x63, x64, x65, x66, x67, x68, x69, x70, x71, x72, x73, x74, x75, x76, x77, x78, x79, x80, x81, x82, x83, x84, x85, y86, y87, y88, y89, y90, y91, y92, y93, y94, y95, y96, x97, x98, x99, x100, x101, x102, x103, x104, x105, x106, x107, x108, x109, x110, x111, x112, x113, x114, x115, x116, x117, x118, x119, x120, x121, x122, x123, x124, x125, x126, x127, x128, x129, x130, x131, x132, x133, x134, x135, x136, x137, x138, x139, x140, x141, x142, x143, x144, x145, x146, x147, x148, x149, x150, x151, x152, x153, x154, x155, x156, x157, x158, x159, x160, x161, x162, x163, x164, x165, x166, x167, x168, x169, x170, x171, x172, x173, x174, x175, x176, x177, x178, x179, x180, x181, x182, x183, x184, x185, x186, x187, x188, x189, x190, x191, x192, x193, x194, x195, x196, x197], []⟩ w') {K : Act → World → Prop} (hK : ∀ a w, Code.wp Tryz.prog rest18 Q a w → K a w) : Code.wp Tryz.prog reg18 (Exit.then K Q) ⟨#[x0, x1, x2, x3, x4, .pointer (some ⟨gl, 0, none⟩), x6, .pointer (some ⟨gk, 0, none⟩), x8, .pointer (some ⟨gx, 0, none⟩), x10, x11, x12, x13, x14, x15, x16, x17, x18, x19, x20, x21, x22, x23, x24, x25, x26, x27, x28, x29, x30, x31, x32, x33, x34, x35, x36, x37, x38, x39, x40, x41, x42, x43, x44, x45, x46, x47, x48, x49, x50, x51, x52, x53, x54, x55, x56, x57, x58, x59, x60, x61, x62, x63, x64, x65, x66, x67, x68, x69, x70, x71, x72, x73, x74, x75, x76, x77, x78, x79, x80, x81, x82, x83, x84, x85, x86, x87, x88, x89, x90, x91, x92, x93, x94, x95, x96, x97, x98, x99, x100, x101, x102, x103, x104, x105, x106, x107, x108, x109, x110, x111, x112, x113, x114, x115, x116, x117, x118, x119, x120, x121, x122, x123, x124, x125, x126, x127, x128, x129, x130, x131, x132, x133, x134, x135, x136, x137, x138, x139, x140, x141, x142, x143, x144, x145, x146, x147, x148, x149, x150, x151, x152, x153, x154, x155, x156, x157, x158, x159, x160, x161, x162, x163, x164, x165, x166, x167, x168, x169, x170, x171, x172, x173, x174, x175, x176, x177, x178, x179, x180, x181, x182, x183, x184, x185, x186, x187, x188, x189, x190, x191, x192, x193, x194, x195, x196, x197], []⟩ W := by
  conv => arg 2; whnf
  change ∀ a w, Code.wp _ (Code.cond _ _ _) Q a w → K a w at hK
  have HQ := Lib.hid hQ
  clear hQ
  have HK := Lib.hid hK1
  clear hK1
  have HB2 := Lib.hid hB2
  have HBX := Lib.hid (hB2.kept (List.mem_cons_self) hBX)
  have HBU := Lib.hid hBX
  have HPI := Lib.hid hPI
  have HZ := Lib.hid (hPI.now (by omega))
  have HKB : Hid (2 * k ≤ 240 ∧ 2 * k + 1 ≤ 249) := by unfold Hid; omega
  clear hB2 hBX hPI hk
  obtain ⟨b, hhas⟩ : ∃ b, hasK rl ⟨ino, gen, at_, rule⟩ = b := ⟨_, rfl⟩
  have HH := Lib.hid hhas
  have HP2 : Hid (PJ (2 * (k + 1)) rl s) := HPI.out.up.up
  have x1 : (b != b) = false := by simp
  have d2 : ∀ x : Wx W, x.val.cell? ⟨gx, 2, none⟩ = some (.int .i64 ino) := Wx.cell (HBX.out.cell 2)
  have d3 : ∀ x : Wx W, x.val.cell? ⟨gx, 3, none⟩ = some (.int .i64 gen) := Wx.cell (HBX.out.cell 3)
  have d4 : ∀ x : Wx W, x.val.cell? ⟨gx, 4, none⟩ = some (.int .i64 at_) := Wx.cell (HBX.out.cell 4)
  have d5 : ∀ x : Wx W, x.val.cell? ⟨gx, 5, none⟩ = some (.string rule) := Wx.cell (HBX.out.cell 5)
  clear hhas
  go_wp2_with fail
  refine wp_region_wx (by kernel_rfl) (by kernel_rfl) ?_
  repeat (go_big_quiet_step (first | (go_at_call 33; exact Wx.upd (l2Has (HB2.out.upd0 (Wx.prop _)) ino gen at_ rule HK.out HH.out)) | (go_at_call 34; exact Wx.upd (l2HasR (HB2.out.upd0 (Wx.prop _)) ino gen at_ rule HH.out)) | fail))
  refine wpQuiet_nil ?_
  rintro _ ⟨x, rfl⟩
  have HF := Lib.hid ((HB2.out.upd0 x.prop).free)
  go_wp2_with fail
  exact HQ.out _ _ _ _ _ _ _ _ _ _ _ _ _ _ ⟨HF.out, HP2.out⟩
end Go.Proofs.YtmhojaiajhdlcaaGreat
namespace Go.Proofs.YtmhojaiajhdlcaaGreat
open Go.RowKit
set_option linter.unusedSimpArgs false
set_option linter.unusedVariables false
noncomputable def reg26 : Code := regIn 26 Tryz.f5.body
noncomputable def rest26 : Code := restIn 26 Tryz.f5.body
set_option maxRecDepth 100000 in
set_option maxHeartbeats 8000000 in
theorem lp26 {w W U : World} {gd gl gr gk gx k : Nat} {rl : List Rec} {s : DS} (ino gen at_ : Int) (rule : ByteArray) (kind c0 c1 c2 c3 c4 c5 c6 c7 c8 c9 : Int) {kd n0 M : Int} {m : Nat} {x0 x1 x2 x3 x4 x6 x8 x10 x11 x12 x13 x15 x16 x17 x18 x19 x20 x21 x22 x23 x24 x25 x26 x27 x28 x29 x30 x31 x32 x33 x34 x35 x36 x37 x38 x39 x40 x41 x42 x43 x44 x45 x46 x47 x48 x49 x50 x51 x52 x53 x54 x55 x56 x57 x58 x59 x60 x61 x62 x63 x64 x65 x66 x67 x68 x69 x70 x71 x72 x73 x74 x75 x76 x77 x78 x79 x80 x81 x82 x83 x84 x85 x86 x87 x88 x89 x90 x91 x92 x93 x94 x95 x96 x97 x98 x99 x100 x101 x102 x103 x104 x105 x106 x107 x108 x109 x110 x111 x112 x113 x114 x115 x116 x117 x118 x119 x120 x121 x122 x123 x124 x125 x126 x127 x128 x129 x130 x131 x132 x133 x134 x135 x136 x137 x138 x139 x140 x141 x142 x143 x144 x145 x146 x147 x148 x149 x150 x151 x152 x153 x154 x155 x156 x157 x158 x159 x160 x161 x162 x163 x164 x165 x166 x167 x168 x169 x170 x171 x172 x173 x174 x175 x176 x177 x178 x179 x180 x181 x182 x183 x184 x185 x186 x187 x188 x189 x190 x191 x192 x193 x194 x195 x196 x197 : Value} {Q : Exit → Act → World → Prop} (hB2 : L2 w W [gx] U gd gl gr gk rl s rl s) (hBX : Blk U gx 64 [.int .i64 kd, .int .i64 n0, .int .i64 ino, .int .i64 gen, .int .i64 at_, .string rule, .int .i64 kind, .int .i64 c0, .int .i64 c1, .int .i64 c2, .int .i64 c3, .int .i64 c4, .int .i64 c5, .int .i64 c6, .int .i64 c7, .int .i64 c8, .int .i64 c9]) (hPI : PJ (2 * k) rl s) (hk : 2 * k ≤ 240) (hm : m ≤ rl.length) (hn : (n0 < 0 ∧ m = 0) ∨ (n0 = (m : Int)) ∨ (((rl.length : Int) < n0) ∧ m = rl.length)) (hM : M = (m : Int))
    (hQ : ∀ (y115 y116 y117 y118 y119 y120 y121 y122 y123 y124 y125 y126 : Value) (rl9 : List Rec) (s9 : DS) (w' : World), L2 w w' [] w' gd gl gr gk rl9 s9 rl9 s9 ∧ PJ (2 * (k + 1)) rl9 s9 → Q .normal ⟨#[x0, x1, x2, x3, x4, .pointer (some ⟨gl, 0, none⟩), x6, .pointer (some ⟨gk, 0, none⟩), x8, .pointer (some ⟨gx, 0, none⟩), x10, x11, x12, x13, .int .i64 M, x15, x16, x17, x18, x19, x20, x21, x22, x23, x24, x25, x26, x27, x28, x29, x30, x31, x32, x33, x34, x35, x36, x37, x38, x39, x40, x41, x42, x43, x44, x45, x46, x47, x48, x49, x50, x51, x52, x53, x54, x55, x56, x57, x58, x59, x60, x61, x62, x63, x64, x65, x66, x67, x68, x69, x70, x71, x72, x73, x74, x75, x76, x77, x78, x79, x80, x81, x82, x83, x84, x85, x86, x87, x88, x89, x90, x91, x92, x93, x94, x95, x96, x97, x98, x99, x100, x101, x102, x103, x104, x105, x106, x107, x108, x109, x110, x111, x112, x113, x114, y115, y116, y117, y118, y119, y120, y121, y122, y123, y124, y125, y126, x127, x128, x129, x130, x131, x132, x133, x134, x135, x136, x137, x138, x139, x140, x141, x142, x143, x144, x145, x146, x147, x148, x149, x150, x151, x152, x153, x154, x155, x156, x157, x158, x159, x160, x161, x162, x163, x164, x165, x166, x167, x168, x169, x170, x171, x172, x173, x174, x175, x176, x177, x178, x179, x180, x181, x182, x183, x184, x185, x186, x187, x188, x189, x190, x191, x192, x193, x194, x195, x196, x197], []⟩ w') {K : Act → World → Prop} (hK : ∀ a w, Code.wp Tryz.prog rest26 Q a w → K a w) : Code.wp Tryz.prog reg26 (Exit.then K Q) ⟨#[x0, x1, x2, x3, x4, .pointer (some ⟨gl, 0, none⟩), x6, .pointer (some ⟨gk, 0, none⟩), x8, .pointer (some ⟨gx, 0, none⟩), x10, x11, x12, x13, .int .i64 M, x15, x16, x17, x18, x19, x20, x21, x22, x23, x24, x25, x26, x27, x28, x29, x30, x31, x32, x33, x34, x35, x36, x37, x38, x39, x40, x41, x42, x43, x44, x45, x46, x47, x48, x49, x50, x51, x52, x53, x54, x55, x56, x57, x58, x59, x60, x61, x62, x63, x64, x65, x66, x67, x68, x69, x70, x71, x72, x73, x74, x75, x76, x77, x78, x79, x80, x81, x82, x83, x84, x85, x86, x87, x88, x89, x90, x91, x92, x93, x94, x95, x96, x97, x98, x99, x100, x101, x102, x103, x104, x105, x106, x107, x108, x109, x110, x111, x112, x113, x114, x115, x116, x117, x118, x119, x120, x121, x122, x123, x124, x125, x126, x127, x128, x129, x130, x131, x132, x133, x134, x135, x136, x137, x138, x139, x140, x141, x142, x143, x144, x145, x146, x147, x148, x149, x150, x151, x152, x153, x154, x155, x156, x157, x158, x159, x160, x161, x162, x163, x164, x165, x166, x167, x168, x169, x170, x171, x172, x173, x174, x175, x176, x177, x178, x179, x180, x181, x182, x183, x184, x185, x186, x187, x188, x189, x190, x191, x192, x193, x194, x195, x196, x197], []⟩ W := by
  conv => arg 2; whnf
  change ∀ a w, Code.wp _ (Code.cond _ _ _) Q a w → K a w at hK
  have HQ := Lib.hid hQ
  clear hQ
  have HB2 := Lib.hid hB2
  have HBX := Lib.hid (hB2.kept (List.mem_cons_self) hBX)
  have HBU := Lib.hid hBX
  have HPI := Lib.hid hPI
  have HZ := Lib.hid (hPI.now (by omega))
  have HKB : Hid (2 * k ≤ 240 ∧ 2 * k + 1 ≤ 249) := by unfold Hid; omega
  clear hB2 hBX hPI hk
  have HP2 : Hid (PJ (2 * (k + 1)) rl s) := HPI.out.up.up
  obtain ⟨ra, rk, gc1, hrr, hrk, hrk2⟩ := HB2.out.rows
  have HRR := Lib.hid hrr
  have d1 := HBX.out.cell 1
  simp only [List.getElem?_cons_zero, List.getElem?_cons_succ] at d1
  have y3 : (m : Int) ≤ rl.length := by omega
  have y4 : (0 : Int) ≤ m := by omega
  subst hM
  clear hrr
  have HML := Lib.hid hm
  have HN3 : Hid ((n0 < 0 ∧ m = 0) ∨ (n0 = ((m : Nat) : Int)) ∨ (((rl.length : Int) < n0) ∧ m = rl.length)) := hn
  obtain ⟨tl, htl⟩ : ∃ tl, rl.drop m = tl := ⟨_, rfl⟩
  have HTL := Lib.hid htl
  have hcut := fun V => run_cut (P := Tryz.prog) (size := 15) undRec infoRec ra rl.length rk m (by omega) V
  have HRT : Hid (RdN 15 recCells W (.slice (if rk = m then ra else ra.map (·.add (m * 15))) (rl.length - m) (rk - m)) tl) := by rw [← htl]; exact HRR.out.drop m (by omega)
  obtain ⟨A, hA⟩ : ∃ A, (if rk = m then ra else ra.map (·.add (m * 15))) = A := ⟨_, rfl⟩
  obtain ⟨M1, hM1⟩ : ∃ M1, rl.length - m = M1 := ⟨_, rfl⟩
  obtain ⟨M2, hM2⟩ : ∃ M2, rk - m = M2 := ⟨_, rfl⟩
  rw [hA, hM1, hM2] at HRT
  simp only [hA, hM1, hM2] at hcut
  have HC1' : Hid (∀ V, Upd [] W V → Calls Tryz.prog 26 #[.pointer (some ⟨gl, 0, none⟩), .int .i64 n0] V fun e w' => ∃ a q k, e = .returned (.slice a q k) ∧ Hid (RdN 15 recCells w' (.slice a q k) tl) ∧ Upd [] W w') := fun V hW => by
    refine (l2List (HB2.out.upd0 hW) n0 m (by have := HML.out; omega) HN3.out HZ.out.2.2.2 HTL.out).mono ?_
    rintro e w' ⟨a, q, k, rfl, h, hu⟩
    exact ⟨a, q, k, rfl, h, hW.seq hu⟩
  have HC2' : Hid (∀ V a q k, RdN 15 recCells V (.slice a q k) tl → Upd [] W V → Calls Tryz.prog 25 #[.slice a q k, .slice A M1 M2] V fun e w' => e = .returned (.bool true) ∧ Upd [] W w') := fun V a q k h hW => by
    refine (l2Same a q k _ h (HRT.out.upd0 recCells_len hW)).mono ?_
    rintro e w' ⟨rfl, hu⟩
    exact ⟨rfl, hW.seq hu⟩
  have ru := Upd.refl [] W
  have HGC := Lib.hid gc1
  have HB1' := Lib.hid d1
  clear htl hA hM1 hM2
  go_wp2_with fail
  go_region_held3 (fun w' => w'.cell? ⟨gx, 1, none⟩ = some (.int .i64 n0) ∧ w'.cell? ⟨gk, 1, none⟩ = some (.slice ra rl.length rk)) (first | go_keep | exact ⟨ru.cell HB1'.out (by simp), ru.cell HGC.out (by simp)⟩)
    (first
      | (go_at_call 26; (with_reducible refine (HC1'.out _ (Upd.seq ru ?_)).mono ?_); (repeat (first | exact Upd.refl _ _ | apply Upd.drew | apply Upd.drewN | apply Upd.alloc)); (rintro _ W1 ⟨a5, n5, k5, rfl, hr5, ru⟩; dsimp only))
      | (go_at_call 25; (with_reducible refine (HC2'.out _ a5 n5 k5 (RdN.upd0 recCells_len hr5.out ?_) (Upd.seq ru ?_)).mono ?_); (repeat (first | exact Upd.refl _ _ | apply Upd.drew | apply Upd.drewN | apply Upd.alloc)); (rintro _ W2 ⟨rfl, ru⟩; dsimp only)))
  all_goals
    have HF := Lib.hid ((HB2.out.upd0 ru).free)
    clear ru HC1' HC2'
    go_wp2_with fail
    exact HQ.out _ _ _ _ _ _ _ _ _ _ _ _ _ _ _ ⟨HF.out, HP2.out⟩
end Go.Proofs.YtmhojaiajhdlcaaGreat
namespace Go.Proofs.YtmhojaiajhdlcaaGreat
open Go.RowKit
set_option linter.unusedSimpArgs false
set_option linter.unusedVariables false
noncomputable def reg33 : Code := regIn 33 Tryz.f5.body
noncomputable def rest33 : Code := restIn 33 Tryz.f5.body
set_option maxRecDepth 100000 in
set_option maxHeartbeats 8000000 in
theorem lp33 {w W U : World} {X : List Nat} {gd gl gr gk k : Nat} {rl : List Rec} {s : DS} {x0 x1 x2 x8 x9 x10 x11 x12 x13 x14 x15 x16 x17 x18 x19 x20 x21 x22 x23 x24 x25 x26 x27 x28 x29 x30 x31 x32 x33 x34 x35 x36 x37 x38 x39 x40 x41 x42 x43 x44 x45 x46 x47 x48 x49 x50 x51 x52 x53 x54 x55 x56 x57 x58 x59 x60 x61 x62 x63 x64 x65 x66 x67 x68 x69 x70 x71 x72 x73 x74 x75 x76 x77 x78 x79 x80 x81 x82 x83 x84 x85 x86 x87 x88 x89 x90 x91 x92 x93 x94 x95 x96 x97 x98 x99 x100 x101 x102 x103 x104 x105 x106 x107 x108 x109 x110 x111 x112 x113 x114 x115 x116 x117 x118 x119 x120 x121 x122 x123 x124 x125 x126 x127 x128 x129 x130 x131 x132 x133 x134 x135 x136 x137 x138 x139 x140 x141 x142 x143 x144 x145 x146 x147 x148 x149 x150 x151 x152 x153 x154 x155 x156 x157 x158 x159 x160 x161 x162 x163 x164 x165 x166 x167 x168 x169 x170 x171 x172 x173 x174 x175 x176 x177 x178 x179 x180 x181 x182 x183 x184 x185 x186 x187 x188 x189 x190 x191 x192 x193 x194 x195 x196 x197 : Value} {Q : Exit → Act → World → Prop} (hB2 : L2 w W X U gd gl gr gk rl s rl s) (hPI : PJ (2 * k + 1) rl s) (hk : 2 * k ≤ 240)
    (hQ : ∀ (y141 y142 y143 y144 y145 y146 y147 y148 y149 y150 y151 y152 y153 : Value) (rl9 : List Rec) (s9 : DS) (gl9 gk9 : Nat) (w' : World), L2 w w' [] w' gd gl9 gr gk9 rl9 s9 rl9 s9 ∧ PJ (2 * (k + 1)) rl9 s9 → Q .normal ⟨#[x0, x1, x2, .pointer (some ⟨gd, 0, none⟩), .pointer (some ⟨gr, 0, none⟩), .pointer (some ⟨gl9, 0, none⟩), .int .i64 0, .pointer (some ⟨gk9, 0, none⟩), x8, x9, x10, x11, x12, x13, x14, x15, x16, x17, x18, x19, x20, x21, x22, x23, x24, x25, x26, x27, x28, x29, x30, x31, x32, x33, x34, x35, x36, x37, x38, x39, x40, x41, x42, x43, x44, x45, x46, x47, x48, x49, x50, x51, x52, x53, x54, x55, x56, x57, x58, x59, x60, x61, x62, x63, x64, x65, x66, x67, x68, x69, x70, x71, x72, x73, x74, x75, x76, x77, x78, x79, x80, x81, x82, x83, x84, x85, x86, x87, x88, x89, x90, x91, x92, x93, x94, x95, x96, x97, x98, x99, x100, x101, x102, x103, x104, x105, x106, x107, x108, x109, x110, x111, x112, x113, x114, x115, x116, x117, x118, x119, x120, x121, x122, x123, x124, x125, x126, x127, x128, x129, x130, x131, x132, x133, x134, x135, x136, x137, x138, x139, x140, y141, y142, y143, y144, y145, y146, y147, y148, y149, y150, y151, y152, y153, x154, x155, x156, x157, x158, x159, x160, x161, x162, x163, x164, x165, x166, x167, x168, x169, x170, x171, x172, x173, x174, x175, x176, x177, x178, x179, x180, x181, x182, x183, x184, x185, x186, x187, x188, x189, x190, x191, x192, x193, x194, x195, x196, x197], []⟩ w') {K : Act → World → Prop} (hK : ∀ a w, Code.wp Tryz.prog rest33 Q a w → K a w) : Code.wp Tryz.prog reg33 (Exit.then K Q) ⟨#[x0, x1, x2, .pointer (some ⟨gd, 0, none⟩), .pointer (some ⟨gr, 0, none⟩), .pointer (some ⟨gl, 0, none⟩), .int .i64 0, .pointer (some ⟨gk, 0, none⟩), x8, x9, x10, x11, x12, x13, x14, x15, x16, x17, x18, x19, x20, x21, x22, x23, x24, x25, x26, x27, x28, x29, x30, x31, x32, x33, x34, x35, x36, x37, x38, x39, x40, x41, x42, x43, x44, x45, x46, x47, x48, x49, x50, x51, x52, x53, x54, x55, x56, x57, x58, x59, x60, x61, x62, x63, x64, x65, x66, x67, x68, x69, x70, x71, x72, x73, x74, x75, x76, x77, x78, x79, x80, x81, x82, x83, x84, x85, x86, x87, x88, x89, x90, x91, x92, x93, x94, x95, x96, x97, x98, x99, x100, x101, x102, x103, x104, x105, x106, x107, x108, x109, x110, x111, x112, x113, x114, x115, x116, x117, x118, x119, x120, x121, x122, x123, x124, x125, x126, x127, x128, x129, x130, x131, x132, x133, x134, x135, x136, x137, x138, x139, x140, x141, x142, x143, x144, x145, x146, x147, x148, x149, x150, x151, x152, x153, x154, x155, x156, x157, x158, x159, x160, x161, x162, x163, x164, x165, x166, x167, x168, x169, x170, x171, x172, x173, x174, x175, x176, x177, x178, x179, x180, x181, x182, x183, x184, x185, x186, x187, x188, x189, x190, x191, x192, x193, x194, x195, x196, x197], []⟩ W := by
  conv => arg 2; whnf
  change ∀ a w, Code.wp _ (Code.seq _ _) Q a w → K a w at hK
  have HQ := Lib.hid hQ
  clear hQ
  have HB2 := Lib.hid hB2
  have HPI := Lib.hid hPI
  have HZ := Lib.hid (hPI.now (by omega))
  have HKB : Hid (2 * k + 1 ≤ 249) := by unfold Hid; omega
  have HPK : Hid (PJ (2 * (k + 1)) (lOpen s).1 (lOpen s).2) := (HPI.out.open_ (by have := HKB.out; omega))
  clear hB2 hPI hk
  obtain ⟨rl1, s1, hop⟩ : ∃ rl1 s1, lOpen s = (rl1, s1) := ⟨_, _, rfl⟩
  have HOP := Lib.hid hop
  have HP2 : Hid (PJ (2 * (k + 1)) rl1 s1) := by have := HPK.out; rw [hop] at this; exact this
  clear hop
  go_wp2_with fail
  (with_reducible refine (l2Open HB2.out HZ.out HOP.out).mono ?_)
  rintro e w5 ⟨gl5, rfl, h5⟩
  have H5 := Lib.hid h5
  clear h5
  go_wp2_with fail
  (with_reducible refine (l2OpenR H5.out HZ.out HOP.out).mono ?_)
  rintro e w6 ⟨gk5, rfl, h6⟩
  have HF := Lib.hid (h6.free)
  clear h6
  go_wp2_with fail
  exact HQ.out _ _ _ _ _ _ _ _ _ _ _ _ _ _ _ _ _ _ ⟨HF.out, HP2.out⟩
end Go.Proofs.YtmhojaiajhdlcaaGreat
namespace Go.Proofs.YtmhojaiajhdlcaaGreat
open Go.RowKit
set_option linter.unusedSimpArgs false
set_option linter.unusedVariables false
noncomputable def reg37 : Code := regIn 37 Tryz.f5.body
noncomputable def rest37 : Code := restIn 37 Tryz.f5.body
set_option maxRecDepth 100000 in
set_option maxHeartbeats 8000000 in
theorem lp37 {w W : World} {gd gl gr gk : Nat} {rl : List Rec} {s : DS} {x0 x1 x2 x6 x8 x9 x10 x11 x12 x13 x14 x15 x16 x17 x18 x19 x20 x21 x22 x23 x24 x25 x26 x27 x28 x29 x30 x31 x32 x33 x34 x35 x36 x37 x38 x39 x40 x41 x42 x43 x44 x45 x46 x47 x48 x49 x50 x51 x52 x53 x54 x55 x56 x57 x58 x59 x60 x61 x62 x63 x64 x65 x66 x67 x68 x69 x70 x71 x72 x73 x74 x75 x76 x77 x78 x79 x80 x81 x82 x83 x84 x85 x86 x87 x88 x89 x90 x91 x92 x93 x94 x95 x96 x97 x98 x99 x100 x101 x102 x103 x104 x105 x106 x107 x108 x109 x110 x111 x112 x113 x114 x115 x116 x117 x118 x119 x120 x121 x122 x123 x124 x125 x126 x127 x128 x129 x130 x131 x132 x133 x134 x135 x136 x137 x138 x139 x140 x141 x142 x143 x144 x145 x146 x147 x148 x149 x150 x151 x152 x153 x154 x155 x156 x157 x158 x159 x160 x161 x162 x163 x164 x165 x166 x167 x168 x169 x170 x171 x172 x173 x174 x175 x176 x177 x178 x179 x180 x181 x182 x183 x184 x185 x186 x187 x188 x189 x190 x191 x192 x193 x194 x195 x196 x197 : Value} {Q : Exit → Act → World → Prop} (hB2 : L2 w W [] W gd gl gr gk rl s rl s) (hZ : s.now.length ≤ 4999 ∧ s.log.length ≤ 500000000 ∧ s.mark.length ≤ 100000 ∧ rl.length ≤ 100000000)
    (hQ : ∀ (y15 y16 y17 y18 y154 y155 y156 y157 y158 y159 y160 y161 y162 y163 y164 y165 y166 y167 y168 y169 y170 y171 y172 y173 y174 y175 y176 y177 y178 y179 y180 y181 y182 y183 y184 y185 y186 y187 : Value)  (w' : World), L2 w w' [] w' gd gl gr gk rl s rl s → Q .normal ⟨#[x0, x1, x2, .pointer (some ⟨gd, 0, none⟩), .pointer (some ⟨gr, 0, none⟩), .pointer (some ⟨gl, 0, none⟩), x6, .pointer (some ⟨gk, 0, none⟩), x8, x9, x10, x11, x12, x13, x14, y15, y16, y17, y18, x19, x20, x21, x22, x23, x24, x25, x26, x27, x28, x29, x30, x31, x32, x33, x34, x35, x36, x37, x38, x39, x40, x41, x42, x43, x44, x45, x46, x47, x48, x49, x50, x51, x52, x53, x54, x55, x56, x57, x58, x59, x60, x61, x62, x63, x64, x65, x66, x67, x68, x69, x70, x71, x72, x73, x74, x75, x76, x77, x78, x79, x80, x81, x82, x83, x84, x85, x86, x87, x88, x89, x90, x91, x92, x93, x94, x95, x96, x97, x98, x99, x100, x101, x102, x103, x104, x105, x106, x107, x108, x109, x110, x111, x112, x113, x114, x115, x116, x117, x118, x119, x120, x121, x122, x123, x124, x125, x126, x127, x128, x129, x130, x131, x132, x133, x134, x135, x136, x137, x138, x139, x140, x141, x142, x143, x144, x145, x146, x147, x148, x149, x150, x151, x152, x153, y154, y155, y156, y157, y158, y159, y160, y161, y162, y163, y164, y165, y166, y167, y168, y169, y170, y171, y172, y173, y174, y175, y176, y177, y178, y179, y180, y181, y182, y183, y184, y185, y186, y187, x188, x189, x190, x191, x192, x193, x194, x195, x196, x197], []⟩ w') {K : Act → World → Prop} (hK : ∀ a w, Code.wp Tryz.prog rest37 Q a w → K a w) : Code.wp Tryz.prog reg37 (Exit.then K Q) ⟨#[x0, x1, x2, .pointer (some ⟨gd, 0, none⟩), .pointer (some ⟨gr, 0, none⟩), .pointer (some ⟨gl, 0, none⟩), x6, .pointer (some ⟨gk, 0, none⟩), x8, x9, x10, x11, x12, x13, x14, x15, x16, x17, x18, x19, x20, x21, x22, x23, x24, x25, x26, x27, x28, x29, x30, x31, x32, x33, x34, x35, x36, x37, x38, x39, x40, x41, x42, x43, x44, x45, x46, x47, x48, x49, x50, x51, x52, x53, x54, x55, x56, x57, x58, x59, x60, x61, x62, x63, x64, x65, x66, x67, x68, x69, x70, x71, x72, x73, x74, x75, x76, x77, x78, x79, x80, x81, x82, x83, x84, x85, x86, x87, x88, x89, x90, x91, x92, x93, x94, x95, x96, x97, x98, x99, x100, x101, x102, x103, x104, x105, x106, x107, x108, x109, x110, x111, x112, x113, x114, x115, x116, x117, x118, x119, x120, x121, x122, x123, x124, x125, x126, x127, x128, x129, x130, x131, x132, x133, x134, x135, x136, x137, x138, x139, x140, x141, x142, x143, x144, x145, x146, x147, x148, x149, x150, x151, x152, x153, x154, x155, x156, x157, x158, x159, x160, x161, x162, x163, x164, x165, x166, x167, x168, x169, x170, x171, x172, x173, x174, x175, x176, x177, x178, x179, x180, x181, x182, x183, x184, x185, x186, x187, x188, x189, x190, x191, x192, x193, x194, x195, x196, x197], []⟩ W := by
  conv => arg 2; whnf
  change ∀ a w, Code.wp _ (Code.seq _ _) Q a w → K a w at hK
  have HQ := Lib.hid hQ
  clear hQ
  have HB2 := Lib.hid hB2
  have HZ := Lib.hid hZ
  clear hB2 hZ
  obtain ⟨bb, okb, hbb⟩ : ∃ b ok, dGet s.now nmL = (b, ok) := ⟨_, _, rfl⟩
  have HBB := Lib.hid hbb
  obtain ⟨nn, hnn⟩ : ∃ nn, rl.length = nn := ⟨_, rfl⟩
  have HNN := Lib.hid hnn
  obtain ⟨cc, hcc⟩ : ∃ cc, s.log.length = cc := ⟨_, rfl⟩
  have HCC := Lib.hid hcc
  clear hbb hnn hcc
  go_wp2_with fail
  (with_reducible refine (l2Read HB2.out nmL HZ.out HBB.out).mono ?_)
  rintro e w5 ⟨a5, k5, rfl, hr5, hu5⟩
  have H5 := Lib.hid (HB2.out.upd0 hu5)
  clear hu5
  go_wp2_with fail
  (with_reducible refine (l2ReadR H5.out nmL HZ.out HBB.out).mono ?_)
  rintro e w6 ⟨a6, k6, rfl, hr6, hu6⟩
  have H6 := Lib.hid (H5.out.upd0 hu6)
  have HR5 := Lib.hid (hr5.out.upd0 hu6)
  obtain ⟨ra, rk, gc1, -, hrk, hrk2⟩ := H6.out.rows
  obtain ⟨oa, oc, gc2, hoc, hoc2⟩ := H6.out.ops
  rw [HNN.out] at gc1 hrk
  rw [HCC.out] at gc2 hoc
  have e1 : ∀ x : Wx w6, x.val.cell? ⟨gk, 1, none⟩ = some (.slice ra nn rk) := Wx.cell gc1
  have e2 : ∀ x : Wx w6, x.val.cell? ⟨gr, 2, none⟩ = some (.slice oa cc oc) := Wx.cell gc2
  have x1 : ((nn : Int) != (nn : Int)) = false := by simp
  have x2 : ((cc : Int) != (cc : Int)) = false := by simp
  clear hu6 gc1 gc2 HB2 H5 hr5
  go_wp2_with fail
  refine wp_region_wx (by kernel_rfl) (by kernel_rfl) ?_
  repeat (go_big_quiet_step (first | (go_at_call 30; exact Wx.same (l2Len (H6.out.upd0 (Wx.prop _)) HNN.out)) | (go_at_call 13; exact Wx.upd (same_by (HR5.out.upd0 (Wx.prop _)) (hr6.out.upd0 (Wx.prop _)))) | (go_at_call 27; exact Wx.same (l2Count (H6.out.upd0 (Wx.prop _)) HCC.out)) | fail))
  refine wpQuiet_nil ?_
  rintro _ ⟨x, rfl⟩
  have HF := Lib.hid ((H6.out.upd0 x.prop).free)
  go_wp2_with fail
  exact HQ.out _ _ _ _ _ _ _ _ _ _ _ _ _ _ _ _ _ _ _ _ _ _ _ _ _ _ _ _ _ _ _ _ _ _ _ _ _ _ _ HF.out
end Go.Proofs.YtmhojaiajhdlcaaGreat
