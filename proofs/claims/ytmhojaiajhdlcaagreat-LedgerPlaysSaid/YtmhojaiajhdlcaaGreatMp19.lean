/- Texts of the proof, joined: The walk of LedgerPlays: a record is added. -/
import Derived.Test.YtmhojaiajhdlcaaGreatMp18
namespace Go.Proofs.YtmhojaiajhdlcaaGreat
open Go.RowKit
set_option linter.unusedSimpArgs false
set_option linter.unusedVariables false
noncomputable def reg13 : Code := regIn 13 Tryz.f5.body
noncomputable def rest13 : Code := restIn 13 Tryz.f5.body
set_option maxRecDepth 100000 in
set_option maxHeartbeats 8000000 in
theorem lp13 {w W U : World} {gd gl gr gk gx k : Nat} {rl : List Rec} {s : DS} (ino gen at_ : Int) (rule : ByteArray) (kind c0 c1 c2 c3 c4 c5 c6 c7 c8 c9 : Int) {kd n0 : Int} {x0 x1 x2 x3 x4 x6 x8 x10 x11 x12 x13 x14 x15 x16 x17 x18 x19 x20 x21 x22 x23 x24 x25 x26 x27 x28 x29 x30 x31 x32 x33 x34 x35 x36 x37 x38 x39 x40 x41 x42 x43 x44 x45 x46 x47 x48 x49 x50 x51 x52 x53 x54 x55 x56 x57 x58 x59 x60 x61 x62 x63 x64 x65 x66 x67 x68 x69 x70 x71 x72 x73 x74 x75 x76 x77 x78 x79 x80 x81 x82 x83 x84 x85 x86 x87 x88 x89 x90 x91 x92 x93 x94 x95 x96 x97 x98 x99 x100 x101 x102 x103 x104 x105 x106 x107 x108 x109 x110 x111 x112 x113 x114 x115 x116 x117 x118 x119 x120 x121 x122 x123 x124 x125 x126 x127 x128 x129 x130 x131 x132 x133 x134 x135 x136 x137 x138 x139 x140 x141 x142 x143 x144 x145 x146 x147 x148 x149 x150 x151 x152 x153 x154 x155 x156 x157 x158 x159 x160 x161 x162 x163 x164 x165 x166 x167 x168 x169 x170 x171 x172 x173 x174 x175 x176 x177 x178 x179 x180 x181 x182 x183 x184 x185 x186 x187 x188 x189 x190 x191 x192 x193 x194 x195 x196 x197 : Value} {Q : Exit → Act → World → Prop} (hB2 : L2 w W [gx] U gd gl gr gk rl s rl s) (hBX : Blk U gx 64 [.int .i64 kd, .int .i64 n0, .int .i64 ino, .int .i64 gen, .int .i64 at_, .string rule, .int .i64 kind, .int .i64 c0, .int .i64 c1, .int .i64 c2, .int .i64 c3, .int .i64 c4, .int .i64 c5, .int .i64 c6, .int .i64 c7, .int .i64 c8, .int .i64 c9]) (hPI : PJ (2 * k) rl s) (hk : 2 * k ≤ 240)
    (hQ : ∀ (y10 y11 y12 y13 y53 y54 y55 y56 y57 y58 y59 y60 y61 y62 y63 y64 y65 y66 y67 y68 y69 y70 y71 y72 y73 y74 y75 y76 y77 y78 y79 y80 y81 y82 y83 : Value) (rl9 : List Rec) (s9 : DS) (w' : World), L2 w w' [] w' gd gl gr gk rl9 s9 rl9 s9 ∧ PJ (2 * (k + 1)) rl9 s9 → Q .normal ⟨#[x0, x1, x2, x3, x4, .pointer (some ⟨gl, 0, none⟩), x6, .pointer (some ⟨gk, 0, none⟩), x8, .pointer (some ⟨gx, 0, none⟩), y10, y11, y12, y13, x14, x15, x16, x17, x18, x19, x20, x21, x22, x23, x24, x25, x26, x27, x28, x29, x30, x31, x32, x33, x34, x35, x36, x37, x38, x39, x40, x41, x42, x43, x44, x45, x46, x47, x48, x49, x50, x51, x52, y53, y54, y55, y56, y57, y58, y59, y60, y61, y62, y63, y64, y65, y66, y67, y68, y69, y70, y71, y72, y73, y74, y75, y76, y77, y78, y79, y80, y81, y82, y83, x84, x85, x86, x87, x88, x89, x90, x91, x92, x93, x94, x95, x96, x97, x98, x99, x100, x101, x102, x103, x104, x105, x106, x107, x108, x109, x110, x111, x112, x113, x114, x115, x116, x117, x118, x119, x120, x121, x122, x123, x124, x125, x126, x127, x128, x129, x130, x131, x132, x133, x134, x135, x136, x137, x138, x139, x140, x141, x142, x143, x144, x145, x146, x147, x148, x149, x150, x151, x152, x153, x154, x155, x156, x157, x158, x159, x160, x161, x162, x163, x164, x165, x166, x167, x168, x169, x170, x171, x172, x173, x174, x175, x176, x177, x178, x179, x180, x181, x182, x183, x184, x185, x186, x187, x188, x189, x190, x191, x192, x193, x194, x195, x196, x197], []⟩ w') {K : Act → World → Prop} (hK : ∀ a w, Code.wp Tryz.prog rest13 Q a w → K a w) : Code.wp Tryz.prog reg13 (Exit.then K Q) ⟨#[x0, x1, x2, x3, x4, .pointer (some ⟨gl, 0, none⟩), x6, .pointer (some ⟨gk, 0, none⟩), x8, .pointer (some ⟨gx, 0, none⟩), x10, x11, x12, x13, x14, x15, x16, x17, x18, x19, x20, x21, x22, x23, x24, x25, x26, x27, x28, x29, x30, x31, x32, x33, x34, x35, x36, x37, x38, x39, x40, x41, x42, x43, x44, x45, x46, x47, x48, x49, x50, x51, x52, x53, x54, x55, x56, x57, x58, x59, x60, x61, x62, x63, x64, x65, x66, x67, x68, x69, x70, x71, x72, x73, x74, x75, x76, x77, x78, x79, x80, x81, x82, x83, x84, x85, x86, x87, x88, x89, x90, x91, x92, x93, x94, x95, x96, x97, x98, x99, x100, x101, x102, x103, x104, x105, x106, x107, x108, x109, x110, x111, x112, x113, x114, x115, x116, x117, x118, x119, x120, x121, x122, x123, x124, x125, x126, x127, x128, x129, x130, x131, x132, x133, x134, x135, x136, x137, x138, x139, x140, x141, x142, x143, x144, x145, x146, x147, x148, x149, x150, x151, x152, x153, x154, x155, x156, x157, x158, x159, x160, x161, x162, x163, x164, x165, x166, x167, x168, x169, x170, x171, x172, x173, x174, x175, x176, x177, x178, x179, x180, x181, x182, x183, x184, x185, x186, x187, x188, x189, x190, x191, x192, x193, x194, x195, x196, x197], []⟩ W := by
  conv => arg 2; whnf
  change ∀ a w, Code.wp _ (Code.seq _ _) Q a w → K a w at hK
  have HQ := Lib.hid hQ
  clear hQ
  have HB2 := Lib.hid hB2
  have HBX := Lib.hid (hB2.kept (List.mem_cons_self) hBX)
  have HBU := Lib.hid hBX
  have HPI := Lib.hid hPI
  have HZ := Lib.hid (hPI.now (by omega))
  have HKB : Hid (2 * k ≤ 240 ∧ 2 * k + 1 ≤ 249) := by unfold Hid; omega
  clear hB2 hBX hPI hk
  obtain ⟨b, er, rl1, s1, hadd⟩ : ∃ b er rl1 s1, lAdd rl s (mkRec ino gen at_ rule kind c0 c1 c2 c3 c4 c5 c6 c7 c8 c9) = ((b, er), rl1, s1) := ⟨_, _, _, _, rfl⟩
  have HAD := Lib.hid hadd
  have HP1 : Hid (PJ (2 * k + 1) rl1 s1) := by have := HPI.out.add (by have := HKB.out; omega) (mkRec ino gen at_ rule kind c0 c1 c2 c3 c4 c5 c6 c7 c8 c9); rw [hadd] at this; exact this
  have HP2 : Hid (PJ (2 * (k + 1)) rl1 s1) := HP1.out.up
  clear hadd
  have d0 := HBX.out.cell 0
  have d1 := HBX.out.cell 1
  have d2 := HBX.out.cell 2
  have d3 := HBX.out.cell 3
  have d4 := HBX.out.cell 4
  have d5 := HBX.out.cell 5
  have d6 := HBX.out.cell 6
  have d7 := HBX.out.cell 7
  have d8 := HBX.out.cell 8
  have d9 := HBX.out.cell 9
  have d10 := HBX.out.cell 10
  have d11 := HBX.out.cell 11
  have d12 := HBX.out.cell 12
  have d13 := HBX.out.cell 13
  have d14 := HBX.out.cell 14
  have d15 := HBX.out.cell 15
  have d16 := HBX.out.cell 16
  simp only [List.getElem?_cons_zero, List.getElem?_cons_succ] at d0 d1 d2 d3 d4 d5 d6 d7 d8 d9 d10 d11 d12 d13 d14 d15 d16
  go_wp2_with fail
  (with_reducible refine (l2Add HB2.out ino gen at_ rule kind c0 c1 c2 c3 c4 c5 c6 c7 c8 c9 HZ.out HAD.out).mono ?_)
  rintro e w5 ⟨rfl, h5⟩
  have H5 := Lib.hid h5
  have hbx := H5.out.kept (List.mem_cons_self) HBU.out
  clear h5 d0 d1 d2 d3 d4 d5 d6 d7 d8 d9 d10 d11 d12 d13 d14 d15 d16
  have d0 := hbx.cell 0
  have d1 := hbx.cell 1
  have d2 := hbx.cell 2
  have d3 := hbx.cell 3
  have d4 := hbx.cell 4
  have d5 := hbx.cell 5
  have d6 := hbx.cell 6
  have d7 := hbx.cell 7
  have d8 := hbx.cell 8
  have d9 := hbx.cell 9
  have d10 := hbx.cell 10
  have d11 := hbx.cell 11
  have d12 := hbx.cell 12
  have d13 := hbx.cell 13
  have d14 := hbx.cell 14
  have d15 := hbx.cell 15
  have d16 := hbx.cell 16
  simp only [List.getElem?_cons_zero, List.getElem?_cons_succ] at d0 d1 d2 d3 d4 d5 d6 d7 d8 d9 d10 d11 d12 d13 d14 d15 d16
  clear hbx
  go_wp2_with fail
  (with_reducible refine (l2AddR H5.out ino gen at_ rule kind c0 c1 c2 c3 c4 c5 c6 c7 c8 c9 HZ.out HAD.out).mono ?_)
  rintro e w6 ⟨rfl, h6⟩
  have H6 := Lib.hid h6
  have hbx := H6.out.kept (List.mem_cons_self) HBU.out
  clear h6 d0 d1 d2 d3 d4 d5 d6 d7 d8 d9 d10 d11 d12 d13 d14 d15 d16
  have d2 : ∀ x : Wx w6, x.val.cell? ⟨gx, 2, none⟩ = some (.int .i64 ino) := Wx.cell (hbx.cell 2)
  have d3 : ∀ x : Wx w6, x.val.cell? ⟨gx, 3, none⟩ = some (.int .i64 gen) := Wx.cell (hbx.cell 3)
  have d4 : ∀ x : Wx w6, x.val.cell? ⟨gx, 4, none⟩ = some (.int .i64 at_) := Wx.cell (hbx.cell 4)
  have d5 : ∀ x : Wx w6, x.val.cell? ⟨gx, 5, none⟩ = some (.string rule) := Wx.cell (hbx.cell 5)
  have d6 : ∀ x : Wx w6, x.val.cell? ⟨gx, 6, none⟩ = some (.int .i64 kind) := Wx.cell (hbx.cell 6)
  have d7 : ∀ x : Wx w6, x.val.cell? ⟨gx, 7, none⟩ = some (.int .i64 c0) := Wx.cell (hbx.cell 7)
  have d8 : ∀ x : Wx w6, x.val.cell? ⟨gx, 8, none⟩ = some (.int .i64 c1) := Wx.cell (hbx.cell 8)
  have d9 : ∀ x : Wx w6, x.val.cell? ⟨gx, 9, none⟩ = some (.int .i64 c2) := Wx.cell (hbx.cell 9)
  have d10 : ∀ x : Wx w6, x.val.cell? ⟨gx, 10, none⟩ = some (.int .i64 c3) := Wx.cell (hbx.cell 10)
  have d11 : ∀ x : Wx w6, x.val.cell? ⟨gx, 11, none⟩ = some (.int .i64 c4) := Wx.cell (hbx.cell 11)
  have d12 : ∀ x : Wx w6, x.val.cell? ⟨gx, 12, none⟩ = some (.int .i64 c5) := Wx.cell (hbx.cell 12)
  have d13 : ∀ x : Wx w6, x.val.cell? ⟨gx, 13, none⟩ = some (.int .i64 c6) := Wx.cell (hbx.cell 13)
  have d14 : ∀ x : Wx w6, x.val.cell? ⟨gx, 14, none⟩ = some (.int .i64 c7) := Wx.cell (hbx.cell 14)
  have d15 : ∀ x : Wx w6, x.val.cell? ⟨gx, 15, none⟩ = some (.int .i64 c8) := Wx.cell (hbx.cell 15)
  have d16 : ∀ x : Wx w6, x.val.cell? ⟨gx, 16, none⟩ = some (.int .i64 c9) := Wx.cell (hbx.cell 16)
  have x1 : (b != b) = false := by simp
  have x2 : (er != er) = false := by simp
  obtain ⟨ok, hok⟩ : ∃ ok, recOk (mkRec ino gen at_ rule kind c0 c1 c2 c3 c4 c5 c6 c7 c8 c9) = ok := ⟨_, rfl⟩
  have HOK := Lib.hid hok
  have x3 : (ok != ok) = false := by simp
  clear hbx hok
  go_wp2_with fail
  refine wp_region_wx (by kernel_rfl) (by kernel_rfl) ?_
  repeat (go_big_quiet_step (first | (go_at_call 12; exact Wx.upd (right_ok ino gen at_ rule kind c0 c1 c2 c3 c4 c5 c6 c7 c8 c9 HOK.out)) | (go_at_call 8; exact Wx.upd (rright_ok ino gen at_ rule kind c0 c1 c2 c3 c4 c5 c6 c7 c8 c9 HOK.out)) | fail))
  refine wpQuiet_nil ?_
  rintro _ ⟨x, rfl⟩
  have HF := Lib.hid ((H6.out.upd0 x.prop).free)
  go_wp2_with fail
  exact HQ.out _ _ _ _ _ _ _ _ _ _ _ _ _ _ _ _ _ _ _ _ _ _ _ _ _ _ _ _ _ _ _ _ _ _ _ _ _ _ ⟨HF.out, HP2.out⟩
end Go.Proofs.YtmhojaiajhdlcaaGreat
