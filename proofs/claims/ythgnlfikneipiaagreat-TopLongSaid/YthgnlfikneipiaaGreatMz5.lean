/- Texts of the proof, joined. -/
import Derived.Test.YthgnlfikneipiaaGreatProg
import Derived.Test.YthgnlfikneipiaaGreatMz2
import Derived.KernelRfl
import Derived.Test.YthgnlfikneipiaaGreatMz3
import Derived.Test.YthgnlfikneipiaaGreatMz4
import Derived.Test.YthgnlfikneipiaaGreatMz1
import Derived.Laws.BitsAllLaws
import Derived.Test.YthgnlfikneipiaaGreatRows
import Derived.Lib.AppendStr
set_option linter.unusedSimpArgs false
set_option linter.unusedVariables false
set_option linter.unusedSectionVars false
namespace Go.Eng
open Go.Proofs
inductive FT where
 | leaf
 | node (k:Nat) (f:Func) (l r:FT)
def FT.get:FT→Nat→Option Func
 | .leaf,_=>none
 | .node k f l r,t=>bif Nat.beq t k then some f else bif Nat.blt t k then l.get t else r.get t
set_option maxRecDepth 100000
def tt:TT:=(.node 216 ⟨.struct,3,[.nilp,.nils,.ext (.map none)],0,0,[],0,false,false,false,0,[(0,1,false),(1,1,false),(2,1,false)]⟩
 (.node 92 ⟨.ptr, 1, [.nilp], 0, 0, [], 0, false, false, false, 0, []⟩
 (.node 44 ⟨.struct, 4, [.int .i64 0, .int .i64 0, .int .i64 0, .str .empty], 0, 0, [], 0, false, false, false, 0, [(0, 1, false), (1, 1, false), (2, 1, false), (3, 1, false)]⟩
 (.node 29 ⟨.struct, 2, [.str .empty, .str .empty], 0, 0, [], 0, false, false, false, 0, [(0, 1, false), (1, 1, false)]⟩
 (.node 21 ⟨(.int .i32), 1, [.int .i32 0], 0, 0, [], 0, false, false, false, 0, []⟩
 (.node 5 ⟨(.int .u8), 1, [.int .u8 0], 0, 0, [], 0, false, false, false, 0, []⟩
 (.node 4 ⟨.bool, 1, [.bool false], 0, 0, [], 0, false, false, false, 0, []⟩
 (.node 3 ⟨(.int .i64), 1, [.int .i64 0], 0, 0, [], 0, false, false, false, 0, []⟩
 .leaf .leaf) .leaf) (.node 9 ⟨.str, 1, [.str .empty], 0, 0, [], 0, false, false, false, 0, []⟩
 .leaf .leaf)) (.node 24 ⟨.ptr, 1, [.nilp], 0, 0, [], 0, false, false, false, 0, []⟩
 (.node 23 ⟨.slice, 1, [.nils], 4, 1, [.bool false], 1, false, false, false, 0, []⟩
 (.node 22 ⟨.slice, 1, [.nils], 3, 1, [.int .i64 0], 8, true, false, false, 0, []⟩
 .leaf .leaf) .leaf) (.node 26 ⟨.slice, 1, [.nils], 41, 4, [.int .i64 0, .int .i64 0, .nils, .nils], 64, false, false, false, 0, []⟩
 .leaf .leaf))) (.node 36 ⟨.slice, 1, [.nils], 48, 15, [.int .i64 0, .int .i64 0, .int .i64 0, .str .empty, .int .i64 0, .int .i64 0, .int .i64 0, .int .i64 0, .int .i64 0, .int .i64 0, .int .i64 0, .int .i64 0, .int .i64 0, .int .i64 0, .int .i64 0], 128, false, false, false, 0, []⟩
 (.node 33 ⟨.slice, 1, [.nils], 5, 1, [.int .u8 0], 1, true, true, false, 0, []⟩
 (.node 32 ⟨.struct, 2, [.nils, .str .empty], 0, 0, [], 0, false, false, false, 0, [(0, 1, false), (1, 1, false)]⟩
 (.node 30 ⟨.slice, 1, [.nils], 29, 2, [.str .empty, .str .empty], 32, false, false, false, 0, []⟩
 .leaf .leaf) .leaf) (.node 35 ⟨.struct, 7, [.int .i64 0, .int .i64 0, .str .empty, .str .empty, .nils, .nils, .str .empty], 0, 0, [], 0, false, false, false, 0, [(0, 1, false), (1, 1, false), (2, 1, false), (3, 1, false), (4, 1, false), (5, 2, true)]⟩
 .leaf .leaf)) (.node 39 ⟨.slice, 1, [.nils], 182, 2, [.int .i64 0, .int .i64 0], 16, false, false, false, 0, []⟩
 (.node 38 ⟨(.int .i64), 1, [.int .i64 0], 0, 0, [], 0, false, false, false, 0, []⟩
 .leaf .leaf) (.node 41 ⟨.struct, 4, [.int .i64 0, .int .i64 0, .nils, .nils], 0, 0, [], 0, false, false, false, 0, [(0, 1, false), (1, 1, false), (2, 1, false), (3, 1, false)]⟩
 .leaf .leaf)))) (.node 75 ⟨.slice, 1, [.nils], 88, 20, [.int .i64 0, .int .i64 0, .int .i64 0, .int .u32 0, .int .i64 0, .int .i64 0, .bool false, .bool false, .int .i64 0, .int .i64 0, .nils, .nils, .int .i64 0, .nils, .nils, .int .i64 0, .nils, .nils, .int .i64 0, .nils], 264, false, false, false, 0, []⟩
 (.node 58 ⟨.ptr, 1, [.nilp], 0, 0, [], 0, false, false, false, 0, []⟩
 (.node 54 ⟨.slice, 1, [.nils], 57, 3, [.int .i64 0, .int .i64 0, .int .i64 0], 24, false, false, false, 0, []⟩
 (.node 48 ⟨.struct, 15, [.int .i64 0, .int .i64 0, .int .i64 0, .str .empty, .int .i64 0, .int .i64 0, .int .i64 0, .int .i64 0, .int .i64 0, .int .i64 0, .int .i64 0, .int .i64 0, .int .i64 0, .int .i64 0, .int .i64 0], 0, 0, [], 0, false, false, false, 0, [(0, 4, true), (4, 1, false), (5, 10, true)]⟩
 (.node 46 ⟨.array, 10, [.int .i64 0, .int .i64 0, .int .i64 0, .int .i64 0, .int .i64 0, .int .i64 0, .int .i64 0, .int .i64 0, .int .i64 0, .int .i64 0], 3, 1, [.int .i64 0], 8, true, false, false, 10, []⟩
 .leaf .leaf) .leaf) (.node 57 ⟨.array, 3, [.int .i64 0, .int .i64 0, .int .i64 0], 3, 1, [.int .i64 0], 8, true, false, false, 3, []⟩
 .leaf .leaf)) (.node 67 ⟨.struct, 3, [.nilp, .nilp, .nilp], 0, 0, [], 0, false, false, false, 0, [(0, 1, false), (1, 1, false), (2, 1, false)]⟩
 (.node 64 ⟨.ptr, 1, [.nilp], 0, 0, [], 0, false, false, false, 0, []⟩
 (.node 62 ⟨.ptr, 1, [.nilp], 0, 0, [], 0, false, false, false, 0, []⟩
 .leaf .leaf) .leaf) (.node 69 ⟨.slice, 1, [.nils], 35, 7, [.int .i64 0, .int .i64 0, .str .empty, .str .empty, .nils, .nils, .str .empty], 112, false, false, false, 0, []⟩
 .leaf .leaf))) (.node 84 ⟨.struct, 3, [.nils, .int .i64 0, .nils], 0, 0, [], 0, false, false, false, 0, [(0, 1, false), (1, 2, true)]⟩
 (.node 80 ⟨.slice, 1, [.nils], 290, 12, [.bool false, .int .i64 0, .int .i64 0, .int .i64 0, .int .i64 0, .int .i64 0, .int .i64 0, .int .i64 0, .int .i64 0, .int .i64 0, .int .i64 0, .nils], 112, false, false, false, 0, []⟩
 (.node 79 ⟨.struct, 2, [.int .i64 0, .int .u32 0], 0, 0, [], 0, false, false, true, 0, [(0, 1, false), (1, 1, false)]⟩
 (.node 77 ⟨(.int .u32), 1, [.int .u32 0], 0, 0, [], 0, false, false, false, 0, []⟩
 .leaf .leaf) .leaf) (.node 82 ⟨.struct, 2, [.int .i64 0, .nils], 0, 0, [], 0, false, false, false, 0, [(0, 1, false), (1, 1, false)]⟩
 .leaf .leaf)) (.node 88 ⟨.struct, 20, [.int .i64 0, .int .i64 0, .int .i64 0, .int .u32 0, .int .i64 0, .int .i64 0, .bool false, .bool false, .int .i64 0, .int .i64 0, .nils, .nils, .int .i64 0, .nils, .nils, .int .i64 0, .nils, .nils, .int .i64 0, .nils], 0, 0, [], 0, false, false, false, 0, [(0, 1, false), (1, 1, false), (2, 2, true), (4, 16, true)]⟩
 (.node 86 ⟨.struct, 16, [.int .i64 0, .int .i64 0, .bool false, .bool false, .int .i64 0, .int .i64 0, .nils, .nils, .int .i64 0, .nils, .nils, .int .i64 0, .nils, .nils, .int .i64 0, .nils], 0, 0, [], 0, false, false, false, 0, [(0, 1, false), (1, 1, false), (2, 1, false), (3, 1, false), (4, 1, false), (5, 1, false), (6, 1, false), (7, 3, true), (10, 3, true), (13, 3, true)]⟩
 .leaf .leaf) (.node 90 ⟨.struct, 21, [.bool false, .int .i64 0, .int .i64 0, .int .i64 0, .int .u32 0, .int .i64 0, .int .i64 0, .bool false, .bool false, .int .i64 0, .int .i64 0, .nils, .nils, .int .i64 0, .nils, .nils, .int .i64 0, .nils, .nils, .int .i64 0, .nils], 0, 0, [], 0, false, false, false, 0, [(0, 1, false), (1, 20, true)]⟩
 .leaf .leaf))))) (.node 145 ⟨.struct, 1, [.nils], 0, 0, [], 0, false, false, false, 0, [(0, 1, false)]⟩
 (.node 108 ⟨.ptr, 1, [.nilp], 0, 0, [], 0, false, false, false, 0, []⟩
 (.node 98 ⟨.struct, 6, [.nilp, .nilp, .nilp, .nilp, .nilp, .nilp], 0, 0, [], 0, false, false, false, 0, [(0, 1, false), (1, 1, false), (2, 1, false), (3, 1, false), (4, 1, false), (5, 1, false)]⟩
 (.node 95 ⟨.ptr, 1, [.nilp], 0, 0, [], 0, false, false, false, 0, []⟩
 (.node 94 ⟨.ptr, 1, [.nilp], 0, 0, [], 0, false, false, false, 0, []⟩
 (.node 93 ⟨.ptr, 1, [.nilp], 0, 0, [], 0, false, false, false, 0, []⟩
 .leaf .leaf) .leaf) (.node 96 ⟨.ptr, 1, [.nilp], 0, 0, [], 0, false, false, false, 0, []⟩
 .leaf .leaf)) (.node 104 ⟨.ptr, 1, [.nilp], 0, 0, [], 0, false, false, false, 0, []⟩
 (.node 103 ⟨.struct, 2, [.str .empty, .nils], 0, 0, [], 0, false, false, false, 0, [(0, 1, false), (1, 1, false)]⟩
 (.node 100 ⟨.ptr, 1, [.nilp], 0, 0, [], 0, false, false, false, 0, []⟩
 .leaf .leaf) .leaf) (.node 107 ⟨.struct, 2, [.nilp, .nilp], 0, 0, [], 0, false, false, false, 0, [(0, 1, false), (1, 1, false)]⟩
 .leaf .leaf))) (.node 139 ⟨.struct, 22, [.int .i64 0, .bool false, .int .i64 0, .int .i64 0, .int .i64 0, .int .u32 0, .int .i64 0, .int .i64 0, .bool false, .bool false, .int .i64 0, .int .i64 0, .nils, .nils, .int .i64 0, .nils, .nils, .int .i64 0, .nils, .nils, .int .i64 0, .nils], 0, 0, [], 0, false, false, false, 0, [(0, 1, false), (1, 21, true)]⟩
 (.node 116 ⟨.struct, 5, [.int .i64 0, .str .empty, .str .empty, .nils, .int .i64 0], 0, 0, [], 0, false, false, false, 0, [(0, 1, false), (1, 1, false), (2, 1, false), (3, 1, false), (4, 1, false)]⟩
 (.node 112 ⟨.struct, 3, [.nilp, .nilp, .nils], 0, 0, [], 0, false, false, false, 0, [(0, 1, false), (1, 1, false), (2, 1, false)]⟩
 (.node 110 ⟨.slice, 1, [.nils], 116, 5, [.int .i64 0, .str .empty, .str .empty, .nils, .int .i64 0], 72, false, false, false, 0, []⟩
 .leaf .leaf) .leaf) (.node 132 ⟨.ptr, 1, [.nilp], 0, 0, [], 0, false, false, false, 0, []⟩
 .leaf .leaf)) (.node 142 ⟨.struct, 1, [.nils], 0, 0, [], 0, false, false, false, 0, [(0, 1, false)]⟩
 (.node 140 ⟨.slice, 1, [.nils], 139, 22, [.int .i64 0, .bool false, .int .i64 0, .int .i64 0, .int .i64 0, .int .u32 0, .int .i64 0, .int .i64 0, .bool false, .bool false, .int .i64 0, .int .i64 0, .nils, .nils, .int .i64 0, .nils, .nils, .int .i64 0, .nils, .nils, .int .i64 0, .nils], 280, false, false, false, 0, []⟩
 .leaf .leaf) (.node 143 ⟨.slice, 1, [.nils], 171, 3, [.int .i64 0, .str .empty, .nils], 48, false, false, false, 0, []⟩
 .leaf .leaf)))) (.node 190 ⟨.struct, 2, [.int .i64 0, .str .empty], 0, 0, [], 0, false, false, false, 0, [(0, 1, false), (1, 1, false)]⟩
 (.node 171 ⟨.struct, 3, [.int .i64 0, .str .empty, .nils], 0, 0, [], 0, false, false, false, 0, [(0, 1, false), (1, 2, true)]⟩
 (.node 149 ⟨.slice, 1, [.nils], 242, 2, [.str .empty, .nils], 40, false, false, false, 0, []⟩
 (.node 148 ⟨.struct, 1, [.nils], 0, 0, [], 0, false, false, false, 0, [(0, 1, false)]⟩
 (.node 146 ⟨.slice, 1, [.nils], 389, 2, [.int .i64 0, .int .i64 0], 16, false, false, false, 0, []⟩
 .leaf .leaf) .leaf) (.node 151 ⟨.struct, 1, [.nils], 0, 0, [], 0, false, false, false, 0, [(0, 1, false)]⟩
 .leaf .leaf)) (.node 179 ⟨.other, 1, [.ext .nilFunc], 0, 0, [], 0, false, false, false, 0, []⟩
 (.node 178 ⟨.struct, 3, [.int .i64 0, .str .empty, .int .i64 0], 0, 0, [], 0, false, false, false, 0, [(0, 1, false), (1, 1, false), (2, 1, false)]⟩
 (.node 174 ⟨.slice, 1, [.nils], 178, 3, [.int .i64 0, .str .empty, .int .i64 0], 32, false, false, false, 0, []⟩
 .leaf .leaf) .leaf) (.node 182 ⟨.struct, 2, [.int .i64 0, .int .i64 0], 0, 0, [], 0, false, false, true, 0, [(0, 1, false), (1, 1, false)]⟩
 .leaf .leaf))) (.node 206 ⟨.struct, 2, [.nils, .nils], 0, 0, [], 0, false, false, false, 0, [(0, 1, false), (1, 1, false)]⟩
 (.node 203 ⟨.struct, 6, [.int .i64 0, .int .i64 0, .bool false, .bool false, .int .i64 0, .int .i64 0], 0, 0, [], 0, false, false, false, 0, [(0, 1, false), (1, 1, false), (2, 1, false), (3, 1, false), (4, 1, false), (5, 1, false)]⟩
 (.node 192 ⟨.slice, 1, [.nils], 90, 21, [.bool false, .int .i64 0, .int .i64 0, .int .i64 0, .int .u32 0, .int .i64 0, .int .i64 0, .bool false, .bool false, .int .i64 0, .int .i64 0, .nils, .nils, .int .i64 0, .nils, .nils, .int .i64 0, .nils, .nils, .int .i64 0, .nils], 272, false, false, false, 0, []⟩
 (.node 191 ⟨.slice, 1, [.nils], 190, 2, [.int .i64 0, .str .empty], 24, false, false, false, 0, []⟩
 .leaf .leaf) .leaf) (.node 204 ⟨.slice, 1, [.nils], 344, 4, [.int .i64 0, .int .i64 0, .int .i64 0, .nils], 48, false, false, false, 0, []⟩
 .leaf .leaf)) (.node 209 ⟨.struct, 16, [.nilp, .nils, .nils, .nils, .nils, .bool false, .int .i64 0, .int .i64 0, .bool false, .bool false, .int .i64 0, .int .i64 0, .nils, .nilp, .nilp, .nilp], 0, 0, [], 0, false, false, false, 0, [(0, 1, false), (1, 2, true), (3, 2, true), (5, 1, false), (6, 6, true), (12, 1, false), (13, 1, false), (14, 1, false), (15, 1, false)]⟩
 (.node 207 ⟨.ptr, 1, [.nilp], 0, 0, [], 0, false, false, false, 0, []⟩
 .leaf .leaf) (.node 214 ⟨.smap, 1, [.ext (.map none)], 3, 1, [.int .i64 0], 8, false, false, false, 4, []⟩
 .leaf .leaf)))))) (.node 360 ⟨.other, 1, [.ext .nilFunc], 0, 0, [], 0, false, false, false, 0, []⟩
 (.node 306 ⟨.struct, 1, [.nils], 0, 0, [], 0, false, false, false, 0, [(0, 1, false)]⟩
 (.node 262 ⟨.struct, 7, [.nils, .str .empty, .nils, .nils, .nils, .nils, .nilp], 0, 0, [], 0, false, false, false, 0, [(0, 2, true), (2, 2, true), (4, 2, true), (6, 1, false)]⟩
 (.node 235 ⟨.ptr, 1, [.nilp], 0, 0, [], 0, false, false, false, 0, []⟩
 (.node 230 ⟨.chan, 1, [.ext (.chan none)], 32, 2, [], 40, false, false, false, 0, []⟩
 (.node 226 ⟨.struct, 2, [.nilp, .nilp], 0, 0, [], 0, false, false, false, 0, [(0, 1, false), (1, 1, false)]⟩
 (.node 223 ⟨.ptr, 1, [.nilp], 0, 0, [], 0, false, false, false, 0, []⟩
 .leaf .leaf) .leaf) (.node 232 ⟨.struct, 2, [.ext (.chan none), .bool false], 0, 0, [], 0, false, false, false, 0, [(0, 1, false), (1, 1, false)]⟩
 .leaf .leaf)) (.node 256 ⟨.slice, 1, [.nils], 263, 1, [.nils], 24, false, false, false, 0, []⟩
 (.node 254 ⟨.slice, 1, [.nils], 321, 13, [.int .i64 0, .int .i64 0, .int .i64 0, .int .i64 0, .int .i64 0, .int .i64 0, .int .i64 0, .int .i64 0, .int .i64 0, .int .i64 0, .int .i64 0, .int .i64 0, .int .i64 0], 104, false, false, false, 0, []⟩
 (.node 242 ⟨.struct, 2, [.str .empty, .nils], 0, 0, [], 0, false, false, false, 0, [(0, 1, false), (1, 1, false)]⟩
 .leaf .leaf) .leaf) (.node 257 ⟨.ptr, 1, [.nilp], 0, 0, [], 0, false, false, false, 0, []⟩
 .leaf .leaf))) (.node 291 ⟨.ptr, 1, [.nilp], 0, 0, [], 0, false, false, false, 0, []⟩
 (.node 288 ⟨.slice, 1, [.nils], 415, 11, [.int .i64 0, .int .i64 0, .int .i64 0, .int .i64 0, .int .i64 0, .int .i64 0, .int .i64 0, .int .i64 0, .int .i64 0, .int .i64 0, .int .i64 0], 88, false, false, false, 0, []⟩
 (.node 272 ⟨.other, 1, [.ext .nilFunc], 0, 0, [], 0, false, false, false, 0, []⟩
 (.node 263 ⟨.slice, 1, [.nils], 346, 7, [.int .i64 0, .nils, .int .i64 0, .int .i64 0, .bool false, .int .i64 0, .int .i64 0], 72, false, false, false, 0, []⟩
 .leaf .leaf) .leaf) (.node 290 ⟨.struct, 12, [.bool false, .int .i64 0, .int .i64 0, .int .i64 0, .int .i64 0, .int .i64 0, .int .i64 0, .int .i64 0, .int .i64 0, .int .i64 0, .int .i64 0, .nils], 0, 0, [], 0, false, false, false, 0, [(0, 1, false), (1, 10, true), (11, 1, false)]⟩
 .leaf .leaf)) (.node 298 ⟨.struct, 2, [.nilp, .nilp], 0, 0, [], 0, false, false, false, 0, [(0, 1, false), (1, 1, false)]⟩
 (.node 294 ⟨.ptr, 1, [.nilp], 0, 0, [], 0, false, false, false, 0, []⟩
 .leaf .leaf) (.node 304 ⟨.slice, 1, [.nils], 311, 2, [.int .i64 0, .str .empty], 24, false, false, false, 0, []⟩
 .leaf .leaf)))) (.node 336 ⟨.ptr, 1, [.nilp], 0, 0, [], 0, false, false, false, 0, []⟩
 (.node 321 ⟨.struct, 13, [.int .i64 0, .int .i64 0, .int .i64 0, .int .i64 0, .int .i64 0, .int .i64 0, .int .i64 0, .int .i64 0, .int .i64 0, .int .i64 0, .int .i64 0, .int .i64 0, .int .i64 0], 0, 0, [], 0, false, false, false, 0, [(0, 1, false), (1, 1, false), (2, 1, false), (3, 10, true)]⟩
 (.node 313 ⟨.struct, 3, [.nils, .int .i64 0, .int .i64 0], 0, 0, [], 0, false, false, false, 0, [(0, 1, false), (1, 1, false), (2, 1, false)]⟩
 (.node 311 ⟨.struct, 2, [.int .i64 0, .str .empty], 0, 0, [], 0, false, false, false, 0, [(0, 1, false), (1, 1, false)]⟩
 (.node 308 ⟨.other, 1, [.ext .nilFunc], 0, 0, [], 0, false, false, false, 0, []⟩
 .leaf .leaf) .leaf) (.node 315 ⟨.other, 1, [.ext .nilFunc], 0, 0, [], 0, false, false, false, 0, []⟩
 .leaf .leaf)) (.node 331 ⟨.struct, 7, [.nils, .nils, .int .i64 0, .int .i64 0, .int .i64 0, .int .i64 0, .int .i64 0], 0, 0, [], 0, false, false, false, 0, [(0, 1, false), (1, 1, false), (2, 1, false), (3, 1, false), (4, 1, false), (5, 1, false), (6, 1, false)]⟩
 (.node 328 ⟨.slice, 1, [.nils], 333, 2, [.int .i32 0, .int .i64 0], 16, false, false, false, 0, []⟩
 (.node 327 ⟨.ptr, 1, [.nilp], 0, 0, [], 0, false, false, false, 0, []⟩
 .leaf .leaf) .leaf) (.node 333 ⟨.struct, 2, [.int .i32 0, .int .i64 0], 0, 0, [], 0, false, false, true, 0, [(0, 1, false), (1, 1, false)]⟩
 .leaf .leaf))) (.node 347 ⟨.slice, 1, [.nils], 349, 8, [.int .i64 0, .nils, .int .i64 0, .int .i64 0, .bool false, .int .i64 0, .int .i64 0, .nils], 96, false, false, false, 0, []⟩
 (.node 344 ⟨.struct, 4, [.int .i64 0, .int .i64 0, .int .i64 0, .nils], 0, 0, [], 0, false, false, false, 0, [(0, 1, false), (1, 1, false), (2, 1, false), (3, 1, false)]⟩
 (.node 342 ⟨.slice, 1, [.nils], 482, 2, [.int .i32 0, .int .i32 0], 8, false, false, false, 0, []⟩
 (.node 338 ⟨.struct, 4, [.nils, .nils, .nils, .nils], 0, 0, [], 0, false, false, false, 0, [(0, 1, false), (1, 1, false), (2, 1, false), (3, 1, false)]⟩
 .leaf .leaf) .leaf) (.node 346 ⟨.struct, 7, [.int .i64 0, .nils, .int .i64 0, .int .i64 0, .bool false, .int .i64 0, .int .i64 0], 0, 0, [], 0, false, false, false, 0, [(0, 1, false), (1, 1, false), (2, 1, false), (3, 1, false), (4, 1, false), (5, 1, false), (6, 1, false)]⟩
 .leaf .leaf)) (.node 354 ⟨(.int .u64), 1, [.int .u64 0], 0, 0, [], 0, false, false, false, 0, []⟩
 (.node 349 ⟨.struct, 8, [.int .i64 0, .nils, .int .i64 0, .int .i64 0, .bool false, .int .i64 0, .int .i64 0, .nils], 0, 0, [], 0, false, false, false, 0, [(0, 7, true), (7, 1, false)]⟩
 .leaf .leaf) (.node 355 ⟨(.int .u64), 1, [.int .u64 0], 0, 0, [], 0, false, false, false, 0, []⟩
 .leaf .leaf))))) (.node 436 ⟨.struct, 2, [.int .i64 0, .bool false], 0, 0, [], 0, false, false, false, 0, [(0, 1, false), (1, 1, false)]⟩
 (.node 403 ⟨.struct, 2, [.str .empty, .int .i64 0], 0, 0, [], 0, false, false, false, 0, [(0, 1, false), (1, 1, false)]⟩
 (.node 381 ⟨.slice, 1, [.nils], 33, 1, [.nils], 24, false, false, false, 0, []⟩
 (.node 376 ⟨.array, 4, [.int .u8 0, .int .u8 0, .int .u8 0, .int .u8 0], 5, 1, [.int .u8 0], 1, true, true, false, 4, []⟩
 (.node 373 ⟨.struct, 5, [.nils, .nils, .int .i64 0, .nils, .nilp], 0, 0, [], 0, false, false, false, 0, [(0, 2, true), (2, 1, false), (3, 1, false), (4, 1, false)]⟩
 (.node 371 ⟨.ptr, 1, [.nilp], 0, 0, [], 0, false, false, false, 0, []⟩
 .leaf .leaf) .leaf) (.node 378 ⟨.struct, 5, [.int .u8 0, .int .u8 0, .int .u8 0, .int .u8 0, .int .i64 0], 0, 0, [], 0, false, false, false, 0, [(0, 4, true), (4, 1, false)]⟩
 .leaf .leaf)) (.node 399 ⟨.slice, 1, [.nils], 403, 2, [.str .empty, .int .i64 0], 24, false, false, false, 0, []⟩
 (.node 392 ⟨.ptr, 1, [.nilp], 0, 0, [], 0, false, false, false, 0, []⟩
 (.node 389 ⟨.struct, 2, [.int .i64 0, .int .i64 0], 0, 0, [], 0, false, false, true, 0, [(0, 1, false), (1, 1, false)]⟩
 .leaf .leaf) .leaf) (.node 401 ⟨.struct, 1, [.nils], 0, 0, [], 0, false, false, false, 0, [(0, 1, false)]⟩
 .leaf .leaf))) (.node 416 ⟨.other, 1, [.ext .nilFunc], 0, 0, [], 0, false, false, false, 0, []⟩
 (.node 410 ⟨.slice, 1, [.nils], 84, 3, [.nils, .int .i64 0, .nils], 56, false, false, false, 0, []⟩
 (.node 409 ⟨.struct, 3, [.nils, .int .i64 0, .int .i64 0], 0, 0, [], 0, false, false, false, 0, [(0, 1, false), (1, 1, false), (2, 1, false)]⟩
 (.node 407 ⟨.ptr, 1, [.nilp], 0, 0, [], 0, false, false, false, 0, []⟩
 .leaf .leaf) .leaf) (.node 415 ⟨.struct, 11, [.int .i64 0, .int .i64 0, .int .i64 0, .int .i64 0, .int .i64 0, .int .i64 0, .int .i64 0, .int .i64 0, .int .i64 0, .int .i64 0, .int .i64 0], 0, 0, [], 0, false, false, false, 0, [(0, 1, false), (1, 10, true)]⟩
 .leaf .leaf)) (.node 430 ⟨.other, 1, [.ext .nilFunc], 0, 0, [], 0, false, false, false, 0, []⟩
 (.node 417 ⟨.other, 1, [.ext .nilFunc], 0, 0, [], 0, false, false, false, 0, []⟩
 .leaf .leaf) (.node 431 ⟨.other, 1, [.ext .nilFunc], 0, 0, [], 0, false, false, false, 0, []⟩
 .leaf .leaf)))) (.node 490 ⟨.ptr, 1, [.nilp], 0, 0, [], 0, false, false, false, 0, []⟩
 (.node 467 ⟨.other, 1, [.ext .nilFunc], 0, 0, [], 0, false, false, false, 0, []⟩
 (.node 456 ⟨.struct, 2, [.nils, .nils], 0, 0, [], 0, false, false, false, 0, [(0, 1, false), (1, 1, false)]⟩
 (.node 454 ⟨.slice, 1, [.nils], 505, 2, [.int .i64 0, .bool false], 16, false, false, false, 0, []⟩
 (.node 447 ⟨.other, 1, [.ext .nilFunc], 0, 0, [], 0, false, false, false, 0, []⟩
 .leaf .leaf) .leaf) (.node 457 ⟨.map, 1, [.ext (.map none)], 3, 1, [.int .i64 0], 8, false, false, false, 0, []⟩
 .leaf .leaf)) (.node 485 ⟨.other, 1, [.ext .nilFunc], 0, 0, [], 0, false, false, false, 0, []⟩
 (.node 482 ⟨.struct, 2, [.int .i32 0, .int .i32 0], 0, 0, [], 0, false, false, true, 0, [(0, 1, false), (1, 1, false)]⟩
 .leaf .leaf) (.node 489 ⟨.ptr, 1, [.nilp], 0, 0, [], 0, false, false, false, 0, []⟩
 .leaf .leaf))) (.node 506 ⟨.ptr, 1, [.nilp], 0, 0, [], 0, false, false, false, 0, []⟩
 (.node 497 ⟨.struct, 2, [.nilp, .nils], 0, 0, [], 0, false, false, false, 0, [(0, 1, false), (1, 1, false)]⟩
 (.node 495 ⟨.ptr, 1, [.nilp], 0, 0, [], 0, false, false, false, 0, []⟩
 (.node 492 ⟨.struct, 3, [.nilp, .nils, .bool false], 0, 0, [], 0, false, false, false, 0, [(0, 1, false), (1, 1, false), (2, 1, false)]⟩
 .leaf .leaf) .leaf) (.node 505 ⟨.struct, 2, [.int .i64 0, .bool false], 0, 0, [], 0, false, false, false, 0, [(0, 1, false), (1, 1, false)]⟩
 .leaf .leaf)) (.node 518 ⟨(.int .u64), 1, [.int .u64 0], 0, 0, [], 0, false, false, false, 0, []⟩
 (.node 508 ⟨(.int .i64), 1, [.int .i64 0], 0, 0, [], 0, false, false, false, 0, []⟩
 .leaf .leaf) (.node 522 ⟨.ptr, 1, [.nilp], 0, 0, [], 0, false, false, false, 0, []⟩
 .leaf .leaf)))))))
noncomputable def ft:FT:=(.node 177 Tryz.f177 (.node 88 Tryz.f88 (.node 45 Tryz.f45 (.node 23 Tryz.f23 (.node 12 Tryz.f12 (.node 7 Tryz.f7 (.node 4 Tryz.f4 (.node 3 Tryz.f3 (.node 2 Tryz.f2 .leaf .leaf) .leaf) (.node 6 Tryz.f6 (.node 5 Tryz.f5 .leaf .leaf) .leaf)) (.node 10 Tryz.f10 (.node 9 Tryz.f9 (.node 8 Tryz.f8 .leaf .leaf) .leaf) (.node 11 Tryz.f11 .leaf .leaf))) (.node 18 Tryz.f18 (.node 15 Tryz.f15 (.node 14 Tryz.f14 (.node 13 Tryz.f13 .leaf .leaf) .leaf) (.node 17 Tryz.f17 (.node 16 Tryz.f16 .leaf .leaf) .leaf)) (.node 21 Tryz.f21 (.node 20 Tryz.f20 (.node 19 Tryz.f19 .leaf .leaf) .leaf) (.node 22 Tryz.f22 .leaf .leaf)))) (.node 34 Tryz.f34 (.node 29 Tryz.f29 (.node 26 Tryz.f26 (.node 25 Tryz.f25 (.node 24 Tryz.f24 .leaf .leaf) .leaf) (.node 28 Tryz.f28 (.node 27 Tryz.f27 .leaf .leaf) .leaf)) (.node 32 Tryz.f32 (.node 31 Tryz.f31 (.node 30 Tryz.f30 .leaf .leaf) .leaf) (.node 33 Tryz.f33 .leaf .leaf))) (.node 40 Tryz.f40 (.node 37 Tryz.f37 (.node 36 Tryz.f36 (.node 35 Tryz.f35 .leaf .leaf) .leaf) (.node 39 Tryz.f39 (.node 38 Tryz.f38 .leaf .leaf) .leaf)) (.node 43 Tryz.f43 (.node 42 Tryz.f42 (.node 41 Tryz.f41 .leaf .leaf) .leaf) (.node 44 Tryz.f44 .leaf .leaf))))) (.node 67 Tryz.f67 (.node 56 Tryz.f56 (.node 51 Tryz.f51 (.node 48 Tryz.f48 (.node 47 Tryz.f47 (.node 46 Tryz.f46 .leaf .leaf) .leaf) (.node 50 Tryz.f50 (.node 49 Tryz.f49 .leaf .leaf) .leaf)) (.node 54 Tryz.f54 (.node 53 Tryz.f53 (.node 52 Tryz.f52 .leaf .leaf) .leaf) (.node 55 Tryz.f55 .leaf .leaf))) (.node 62 Tryz.f62 (.node 59 Tryz.f59 (.node 58 Tryz.f58 (.node 57 Tryz.f57 .leaf .leaf) .leaf) (.node 61 Tryz.f61 (.node 60 Tryz.f60 .leaf .leaf) .leaf)) (.node 65 Tryz.f65 (.node 64 Tryz.f64 (.node 63 Tryz.f63 .leaf .leaf) .leaf) (.node 66 Tryz.f66 .leaf .leaf)))) (.node 78 Tryz.f78 (.node 73 Tryz.f73 (.node 70 Tryz.f70 (.node 69 Tryz.f69 (.node 68 Tryz.f68 .leaf .leaf) .leaf) (.node 72 Tryz.f72 (.node 71 Tryz.f71 .leaf .leaf) .leaf)) (.node 76 Tryz.f76 (.node 75 Tryz.f75 (.node 74 Tryz.f74 .leaf .leaf) .leaf) (.node 77 Tryz.f77 .leaf .leaf))) (.node 83 Tryz.f83 (.node 81 Tryz.f81 (.node 80 Tryz.f80 (.node 79 Tryz.f79 .leaf .leaf) .leaf) (.node 82 Tryz.f82 .leaf .leaf)) (.node 86 Tryz.f86 (.node 85 Tryz.f85 (.node 84 Tryz.f84 .leaf .leaf) .leaf) (.node 87 Tryz.f87 .leaf .leaf)))))) (.node 133 Tryz.f133 (.node 111 Tryz.f111 (.node 99 Tryz.f99 (.node 94 Tryz.f94 (.node 91 Tryz.f91 (.node 90 Tryz.f90 (.node 89 Tryz.f89 .leaf .leaf) .leaf) (.node 93 Tryz.f93 (.node 92 Tryz.f92 .leaf .leaf) .leaf)) (.node 97 Tryz.f97 (.node 96 Tryz.f96 (.node 95 Tryz.f95 .leaf .leaf) .leaf) (.node 98 Tryz.f98 .leaf .leaf))) (.node 106 Tryz.f106 (.node 102 Tryz.f102 (.node 101 Tryz.f101 (.node 100 Tryz.f100 .leaf .leaf) .leaf) (.node 105 Tryz.f105 (.node 103 Tryz.f103 .leaf .leaf) .leaf)) (.node 109 Tryz.f109 (.node 108 Tryz.f108 (.node 107 Tryz.f107 .leaf .leaf) .leaf) (.node 110 Tryz.f110 .leaf .leaf)))) (.node 122 Tryz.f122 (.node 117 Tryz.f117 (.node 114 Tryz.f114 (.node 113 Tryz.f113 (.node 112 Tryz.f112 .leaf .leaf) .leaf) (.node 116 Tryz.f116 (.node 115 Tryz.f115 .leaf .leaf) .leaf)) (.node 120 Tryz.f120 (.node 119 Tryz.f119 (.node 118 Tryz.f118 .leaf .leaf) .leaf) (.node 121 Tryz.f121 .leaf .leaf))) (.node 128 Tryz.f128 (.node 125 Tryz.f125 (.node 124 Tryz.f124 (.node 123 Tryz.f123 .leaf .leaf) .leaf) (.node 127 Tryz.f127 (.node 126 Tryz.f126 .leaf .leaf) .leaf)) (.node 131 Tryz.f131 (.node 130 Tryz.f130 (.node 129 Tryz.f129 .leaf .leaf) .leaf) (.node 132 Tryz.f132 .leaf .leaf))))) (.node 155 Tryz.f155 (.node 144 Tryz.f144 (.node 139 Tryz.f139 (.node 136 Tryz.f136 (.node 135 Tryz.f135 (.node 134 Tryz.f134 .leaf .leaf) .leaf) (.node 138 Tryz.f138 (.node 137 Tryz.f137 .leaf .leaf) .leaf)) (.node 142 Tryz.f142 (.node 141 Tryz.f141 (.node 140 Tryz.f140 .leaf .leaf) .leaf) (.node 143 Tryz.f143 .leaf .leaf))) (.node 150 Tryz.f150 (.node 147 Tryz.f147 (.node 146 Tryz.f146 (.node 145 Tryz.f145 .leaf .leaf) .leaf) (.node 149 Tryz.f149 (.node 148 Tryz.f148 .leaf .leaf) .leaf)) (.node 153 Tryz.f153 (.node 152 Tryz.f152 (.node 151 Tryz.f151 .leaf .leaf) .leaf) (.node 154 Tryz.f154 .leaf .leaf)))) (.node 167 Tryz.f167 (.node 162 Tryz.f162 (.node 158 Tryz.f158 (.node 157 Tryz.f157 (.node 156 Tryz.f156 .leaf .leaf) .leaf) (.node 161 Tryz.f161 (.node 159 Tryz.f159 .leaf .leaf) .leaf)) (.node 165 Tryz.f165 (.node 164 Tryz.f164 (.node 163 Tryz.f163 .leaf .leaf) .leaf) (.node 166 Tryz.f166 .leaf .leaf))) (.node 172 Tryz.f172 (.node 170 Tryz.f170 (.node 169 Tryz.f169 (.node 168 Tryz.f168 .leaf .leaf) .leaf) (.node 171 Tryz.f171 .leaf .leaf)) (.node 175 Tryz.f175 (.node 174 Tryz.f174 (.node 173 Tryz.f173 .leaf .leaf) .leaf) (.node 176 Tryz.f176 .leaf .leaf))))))) (.node 268 Tryz.f268 (.node 222 Tryz.f222 (.node 200 Tryz.f200 (.node 188 Tryz.f188 (.node 183 Tryz.f183 (.node 180 Tryz.f180 (.node 179 Tryz.f179 (.node 178 Tryz.f178 .leaf .leaf) .leaf) (.node 182 Tryz.f182 (.node 181 Tryz.f181 .leaf .leaf) .leaf)) (.node 186 Tryz.f186 (.node 185 Tryz.f185 (.node 184 Tryz.f184 .leaf .leaf) .leaf) (.node 187 Tryz.f187 .leaf .leaf))) (.node 194 Tryz.f194 (.node 191 Tryz.f191 (.node 190 Tryz.f190 (.node 189 Tryz.f189 .leaf .leaf) .leaf) (.node 193 Tryz.f193 (.node 192 Tryz.f192 .leaf .leaf) .leaf)) (.node 198 Tryz.f198 (.node 197 Tryz.f197 (.node 196 Tryz.f196 .leaf .leaf) .leaf) (.node 199 Tryz.f199 .leaf .leaf)))) (.node 211 Tryz.f211 (.node 206 Tryz.f206 (.node 203 Tryz.f203 (.node 202 Tryz.f202 (.node 201 Tryz.f201 .leaf .leaf) .leaf) (.node 205 Tryz.f205 (.node 204 Tryz.f204 .leaf .leaf) .leaf)) (.node 209 Tryz.f209 (.node 208 Tryz.f208 (.node 207 Tryz.f207 .leaf .leaf) .leaf) (.node 210 Tryz.f210 .leaf .leaf))) (.node 217 Tryz.f217 (.node 214 Tryz.f214 (.node 213 Tryz.f213 (.node 212 Tryz.f212 .leaf .leaf) .leaf) (.node 216 Tryz.f216 (.node 215 Tryz.f215 .leaf .leaf) .leaf)) (.node 220 Tryz.f220 (.node 219 Tryz.f219 (.node 218 Tryz.f218 .leaf .leaf) .leaf) (.node 221 Tryz.f221 .leaf .leaf))))) (.node 244 Tryz.f244 (.node 233 Tryz.f233 (.node 228 Tryz.f228 (.node 225 Tryz.f225 (.node 224 Tryz.f224 (.node 223 Tryz.f223 .leaf .leaf) .leaf) (.node 227 Tryz.f227 (.node 226 Tryz.f226 .leaf .leaf) .leaf)) (.node 231 Tryz.f231 (.node 230 Tryz.f230 (.node 229 Tryz.f229 .leaf .leaf) .leaf) (.node 232 Tryz.f232 .leaf .leaf))) (.node 239 Tryz.f239 (.node 236 Tryz.f236 (.node 235 Tryz.f235 (.node 234 Tryz.f234 .leaf .leaf) .leaf) (.node 238 Tryz.f238 (.node 237 Tryz.f237 .leaf .leaf) .leaf)) (.node 242 Tryz.f242 (.node 241 Tryz.f241 (.node 240 Tryz.f240 .leaf .leaf) .leaf) (.node 243 Tryz.f243 .leaf .leaf)))) (.node 256 Tryz.f256 (.node 250 Tryz.f250 (.node 247 Tryz.f247 (.node 246 Tryz.f246 (.node 245 Tryz.f245 .leaf .leaf) .leaf) (.node 249 Tryz.f249 (.node 248 Tryz.f248 .leaf .leaf) .leaf)) (.node 254 Tryz.f254 (.node 253 Tryz.f253 (.node 252 Tryz.f252 .leaf .leaf) .leaf) (.node 255 Tryz.f255 .leaf .leaf))) (.node 262 Tryz.f262 (.node 260 Tryz.f260 (.node 258 Tryz.f258 (.node 257 Tryz.f257 .leaf .leaf) .leaf) (.node 261 Tryz.f261 .leaf .leaf)) (.node 265 Tryz.f265 (.node 264 Tryz.f264 (.node 263 Tryz.f263 .leaf .leaf) .leaf) (.node 266 Tryz.f266 .leaf .leaf)))))) (.node 311 Tryz.f311 (.node 290 Tryz.f290 (.node 279 Tryz.f279 (.node 274 Tryz.f274 (.node 271 Tryz.f271 (.node 270 Tryz.f270 (.node 269 Tryz.f269 .leaf .leaf) .leaf) (.node 273 Tryz.f273 (.node 272 Tryz.f272 .leaf .leaf) .leaf)) (.node 277 Tryz.f277 (.node 276 Tryz.f276 (.node 275 Tryz.f275 .leaf .leaf) .leaf) (.node 278 Tryz.f278 .leaf .leaf))) (.node 285 Tryz.f285 (.node 282 Tryz.f282 (.node 281 Tryz.f281 (.node 280 Tryz.f280 .leaf .leaf) .leaf) (.node 284 Tryz.f284 (.node 283 Tryz.f283 .leaf .leaf) .leaf)) (.node 288 Tryz.f288 (.node 287 Tryz.f287 (.node 286 Tryz.f286 .leaf .leaf) .leaf) (.node 289 Tryz.f289 .leaf .leaf)))) (.node 301 Tryz.f301 (.node 296 Tryz.f296 (.node 293 Tryz.f293 (.node 292 Tryz.f292 (.node 291 Tryz.f291 .leaf .leaf) .leaf) (.node 295 Tryz.f295 (.node 294 Tryz.f294 .leaf .leaf) .leaf)) (.node 299 Tryz.f299 (.node 298 Tryz.f298 (.node 297 Tryz.f297 .leaf .leaf) .leaf) (.node 300 Tryz.f300 .leaf .leaf))) (.node 306 Tryz.f306 (.node 304 Tryz.f304 (.node 303 Tryz.f303 (.node 302 Tryz.f302 .leaf .leaf) .leaf) (.node 305 Tryz.f305 .leaf .leaf)) (.node 309 Tryz.f309 (.node 308 Tryz.f308 (.node 307 Tryz.f307 .leaf .leaf) .leaf) (.node 310 Tryz.f310 .leaf .leaf))))) (.node 333 Tryz.f333 (.node 322 Tryz.f322 (.node 317 Tryz.f317 (.node 314 Tryz.f314 (.node 313 Tryz.f313 (.node 312 Tryz.f312 .leaf .leaf) .leaf) (.node 316 Tryz.f316 (.node 315 Tryz.f315 .leaf .leaf) .leaf)) (.node 320 Tryz.f320 (.node 319 Tryz.f319 (.node 318 Tryz.f318 .leaf .leaf) .leaf) (.node 321 Tryz.f321 .leaf .leaf))) (.node 328 Tryz.f328 (.node 325 Tryz.f325 (.node 324 Tryz.f324 (.node 323 Tryz.f323 .leaf .leaf) .leaf) (.node 327 Tryz.f327 (.node 326 Tryz.f326 .leaf .leaf) .leaf)) (.node 331 Tryz.f331 (.node 330 Tryz.f330 (.node 329 Tryz.f329 .leaf .leaf) .leaf) (.node 332 Tryz.f332 .leaf .leaf)))) (.node 344 Tryz.f344 (.node 339 Tryz.f339 (.node 336 Tryz.f336 (.node 335 Tryz.f335 (.node 334 Tryz.f334 .leaf .leaf) .leaf) (.node 338 Tryz.f338 (.node 337 Tryz.f337 .leaf .leaf) .leaf)) (.node 342 Tryz.f342 (.node 341 Tryz.f341 (.node 340 Tryz.f340 .leaf .leaf) .leaf) (.node 343 Tryz.f343 .leaf .leaf))) (.node 350 Tryz.f350 (.node 347 Tryz.f347 (.node 346 Tryz.f346 (.node 345 Tryz.f345 .leaf .leaf) .leaf) (.node 349 Tryz.f349 .leaf .leaf)) (.node 353 Tryz.f353 (.node 352 Tryz.f352 (.node 351 Tryz.f351 .leaf .leaf) .leaf) (.node 354 Tryz.f354 .leaf .leaf))))))))
abbrev HK:=FuncId→List AV→St→Option (AV×St)
noncomputable def EBc (bd:Bd) (hk:HK) (cv:TypeId→TypeId→Nat→St→Option (AV×St)):Env:=⟨tt.get,ft.get,bd,hk,cv⟩
noncomputable def EBh (bd:Bd) (hk:HK):Env:=EBc bd hk fun _ _ _ _=>none
noncomputable def EB (bd:Bd):Env:=EBh bd fun _ _ _=>none
end Go.Eng
namespace Go.Eng
variable [Val]
open Go.RowKit
def isInt:Option TypeDesc→Bool
 | some (.int _)=>true
 | _=>false
def isU8:Option TypeDesc→Bool
 | some (.int .u8)=>true
 | _=>false
theorem isInt_ok {d:Option TypeDesc} (h:isInt d=true):∃ k,d=some (.int k):=by
 unfold isInt at h;split at h
 ·exact ⟨_,rfl⟩
 ·cases h
theorem isU8_ok {d:Option TypeDesc} (h:isU8 d=true):d=some (.int .u8):=by
 unfold isU8 at h;split at h
 ·rfl
 ·cases h
def eqv:AV→Value→Bool
 | .int k n,.int k' n'=>decide (k=k')&&decide (n=n')
 | .bool b,.bool c=>b==c
 | .str s,.string t=>decide (s.data.toList=[])&&decide (t.data.toList=[])
 | .nilp,.pointer none=>true
 | .nils,.slice none 0 0=>true
 | .ext .nilIface,.nilIface=>true
 | .ext .nilFunc,.nilFunc=>true
 | .ext (.map none),.map none=>true
 | .ext (.chan none),.chan none=>true
 | _,_=>false
theorem bytes_nil {s:ByteArray} (h:s.data.toList=[]):s=⟨#[]⟩:=by
 obtain ⟨d⟩:=s
 congr 1
 exact Array.toList_inj.1 h
theorem eqv_ok {a:AV} {v:Value} (h:eqv a v=true):dn G0 a=some v:=by
 unfold eqv at h
 split at h<;>first
  | (cases h;done)
  | rfl
  | (simp only [Bool.and_eq_true,decide_eq_true_eq] at h;obtain ⟨rfl,rfl⟩:=h;rfl)
  | (simp only [beq_iff_eq] at h;subst h;rfl)
  | (simp only [Bool.and_eq_true,decide_eq_true_eq] at h;rw [bytes_nil h.1,bytes_nil h.2];rfl)
def eqvs:List AV→List Value→Bool
 | [],[]=>true
 | a::l,v::r=>eqv a v&&eqvs l r
 | _,_=>false
theorem eqvs_ok:∀ {l:List AV} {r:List Value},eqvs l r=true→dns G0 l=some r
 | [],[],_=>rfl
 | a::l,v::r,h=>by
  simp only [eqvs,Bool.and_eq_true] at h
  exact dns_cons.2 ⟨v,r,eqv_ok h.1,eqvs_ok h.2,rfl⟩
def infoOk (P:Program) (t n:Nat) (z:List AV):Bool :=
 match P.info? t with
 | none=>false
 | some i=>Nat.beq i.size n&&match i.zero with
  | none=>false
  | some v=>eqvs z v.cells.toList
def fsOk (P:Program):List Field→List (Nat×Nat×Bool)→Bool
 | [],[]=>true
 | f::fs,p::ps=>Nat.beq f.offset p.1&&(match P.info? f.type with
  | none=>false
  | some i=>Nat.beq i.size p.2.1)&&(match P.underlying f.type with
  | none=>false
  | some d=>d.isRow==p.2.2)&&fsOk P fs ps
 | _,_=>false
def fints (P:Program):List Field→Nat→Bool
 | [],_=>true
 | f :: fs, k => Nat.beq f.offset k && !(f.name == "_") && isInt (P.underlying f.type) && fints P fs (k + 1)
def isStrT:Option TypeDesc→Bool
 | some .string=>true
 | _=>false
theorem isStrT_ok {d:Option TypeDesc} (h:isStrT d=true):d=some .string:=by
 unfold isStrT at h;split at h
 ·rfl
 ·cases h
def isI64:Option TypeDesc→Bool
 | some (.int .i64)=>true
 | _=>false
theorem isI64_ok {d:Option TypeDesc} (h:isI64 d=true):d=some (.int .i64):=by
 unfold isI64 at h;split at h
 ·rfl
 ·cases h
def mapZ:Option TypeInfo→List AV→Bool
 | some i,[.int k n]=>match i.zero with
  | some (.int k' n')=>decide (k=k')&&decide (n=n')
  | _=>false
 | _,_=>false
theorem mapZ_ok {d:Option TypeInfo} {l:List AV} (h:mapZ d l=true):∃ i k n,d=some i∧i.zero=some (.int k n)∧l=[.int k n]:=by
 unfold mapZ at h
 split at h
 ·split at h
  ·rename_i hz
   rw [Bool.and_eq_true] at h
   have h1:=of_decide_eq_true h.1
   have h2:=of_decide_eq_true h.2
   subst h1;subst h2
   exact ⟨_,_,_,rfl,hz,rfl⟩
  ·cases h
 ·cases h
def kpl (P:Program) (n:Nat):List Field→Bool
 | []=>true
 | f::fs=>Nat.blt f.offset n&&(isInt (P.underlying f.type) || isStrT (P.underlying f.type))&&kpl P n fs
theorem kpl_ok {P:Program} {n:Nat}:∀ {fs:List Field},kpl P n fs=true→KPl P fs n
 | [],_=>fun f hf=>by cases hf
 | f::fs,h=>by
  simp only [kpl,Bool.and_eq_true,Bool.or_eq_true] at h
  obtain ⟨⟨h1,h2⟩,h3⟩:=h
  intro g hg
  rcases List.mem_cons.1 hg with rfl|hg
  ·exact ⟨by simpa [Nat.blt_eq] using h1,h2.imp isInt_ok isStrT_ok⟩
  ·exact kpl_ok h3 g hg
def descOk (P:Program) (t:Nat) (ti:TI):Bool :=
 match ti.tk,P.underlying t with
 | .other,some d => !d.isRow
 | .struct,some (.struct fs)=>fsOk P fs.toList ti.fs
 | .array,some (.array n e)=>Nat.beq n ti.len&&Nat.beq e ti.el
 | .slice,some (.slice e)=>Nat.beq e ti.el
 | .int k,some (.int k')=>decide (k=k')
 | .str,some .string=>true
 | .bool,some .bool=>true
 | .ptr,some (.pointer _)=>true
 | .map,some (.map kt et)=>Nat.beq et ti.el&&isI64 (P.underlying kt)&&mapZ (P.info? ti.el) ti.ez
 | .smap,some (.map kt et)=>Nat.beq et ti.el&&mapZ (P.info? ti.el) ti.ez&&match P.underlying kt with
  | some (.struct fs)=>kpl P ti.len fs.toList
  | _=>false
 | .chan,some (.chan _ e)=>match P.info? e with
  | some i=>Nat.beq i.bytes ti.by_
  | none=>false
 | _,_=>false
def tiOk (P:Program) (t:Nat) (ti:TI):Bool :=
 infoOk P t ti.n ti.z&&descOk P t ti &&
 (!(ti.tk.arr || ti.tk.sl) || (infoOk P ti.el ti.es ti.ez&&Nat.beq ti.ez.length ti.es&&match P.info? ti.el with
  | none=>false
  | some i=>Nat.beq i.bytes ti.by_)) &&
 (!ti.eint || isInt (P.underlying ti.el))&&(!ti.eu8 || isU8 (P.underlying ti.el))&&(!ti.eu8 || mapZ (P.info? ti.el) [.int .u8 0]) &&
 (!ti.sint || match P.underlying t with
  | some (.struct fs)=>fints P fs.toList 0&&Nat.beq fs.size ti.n && !(P.stoodInHeld t) && !(P.eqGuardType P.depth t)
  | _=>false) &&
 (!(ti.tk.arr&&ti.eint) || !(P.eqGuardType P.depth t))
theorem infoOk_ok {P:Program} {t n:Nat} {z:List AV} (h:infoOk P t n z=true):∃ i v,P.info? t=some i∧i.size=n∧i.zero=some v∧dns G0 z=some v.cells.toList:=by
 unfold infoOk at h
 split at h
 ·cases h
 ·rename_i i hi
  rw [Bool.and_eq_true] at h
  obtain ⟨h1,h2⟩:=h
  split at h2
  ·cases h2
  ·rename_i v hv
   exact ⟨i,v,hi,Nat.eq_of_beq_eq_true h1,hv,eqvs_ok h2⟩
theorem fints_ok {P:Program}:∀ {l:List Field} {k:Nat},fints P l k=true→FInts P l k
 | [],_,_=>trivial
 | f::fs,k,h=>by
  simp only [fints,Bool.and_eq_true] at h
  obtain ⟨⟨⟨h1,h2⟩,h3⟩,h4⟩:=h
  exact ⟨Nat.eq_of_beq_eq_true h1,by simpa using h2,isInt_ok h3,fints_ok h4⟩
theorem fsOk_ok {P:Program}:∀ {fs:List Field} {ps:List (Nat×Nat×Bool)},fsOk P fs ps=true→fs.length=ps.length∧∀ f p,nth ps f=some p→∃ fd i d,fs[f]?=some fd∧fd.offset=p.1∧P.info? fd.type=some i∧i.size=p.2.1∧P.underlying fd.type=some d∧d.isRow=p.2.2
 | [],[],_=>⟨rfl,fun f p h=>by cases f<;>cases h⟩
 | f::fs,p::ps,h=>by
  simp only [fsOk,Bool.and_eq_true] at h
  obtain ⟨⟨⟨h1,h2⟩,h3⟩,h4⟩:=h
  obtain ⟨k1,k2⟩:=fsOk_ok h4
  refine ⟨by simp [k1],fun j q hq=>?_⟩
  cases j with
  | zero =>
   cases hq
   split at h2
   ·cases h2
   ·rename_i i hi
    split at h3
    ·cases h3
    ·rename_i d hd
     exact ⟨f,i,d,rfl,Nat.eq_of_beq_eq_true h1,hi,Nat.eq_of_beq_eq_true h2,hd,by simpa using h3⟩
  | succ j=>exact k2 j q hq
theorem tiOk_ok {P:Program} {t:Nat} {ti:TI} (h:tiOk P t ti=true):TOK P t ti:=by
 simp only [tiOk,Bool.and_eq_true] at h
 obtain ⟨⟨⟨⟨⟨⟨⟨h1,h2⟩,h3⟩,h4⟩,h5⟩,h58⟩,h6⟩,h7⟩:=h
 refine ⟨infoOk_ok h1,fun ha=>?_,fun he=>?_,fun he=>?_,fun he=>?_,?_,fun he=>?_,fun ha he=>?_⟩
 ·have:(ti.tk.arr || ti.tk.sl)=true:=by simpa using ha
  rw [this] at h3
  simp only [Bool.not_true,Bool.false_or,Bool.and_eq_true] at h3
  obtain ⟨⟨k1,k2⟩,k3⟩:=h3
  obtain ⟨i,v,g1,g2,g3,g4⟩:=infoOk_ok k1
  rw [g1] at k3
  refine ⟨i,v,g1,g2,g3,?_,g4,Nat.eq_of_beq_eq_true k3⟩
  have:=dns_len g4
  have e:=Nat.eq_of_beq_eq_true k2
  rw [g2,← e]
  simpa using this
 ·rw [he] at h4;exact isInt_ok (by simpa using h4)
 ·rw [he] at h5;exact isU8_ok (by simpa using h5)
 ·rw [he] at h58
  obtain ⟨i,k,n,e1,e2,e3⟩:=mapZ_ok (show mapZ (P.info? ti.el) [.int .u8 0]=true by simpa using h58)
  cases e3
  exact ⟨i,e1,e2⟩
 ·unfold descOk at h2
  split at h2
  ·rename_i d e1 e2;rw [e1];exact ⟨d,e2,by simpa using h2⟩
  ·rename_i fs e1 e2
   rw [e1]
   obtain ⟨k1,k2⟩:=fsOk_ok h2
   refine ⟨fs,e2,by simpa using k1,fun f p hp=>?_⟩
   obtain ⟨fd,i,d,g1,g2⟩:=k2 f p hp
   exact ⟨fd,i,d,by simpa using g1,g2⟩
  ·rename_i n e e1 e2
   rw [Bool.and_eq_true] at h2
   rw [e1]
   show _=_
   rw [e2,Nat.eq_of_beq_eq_true h2.1,Nat.eq_of_beq_eq_true h2.2]
  ·rename_i e e1 e2
   rw [e1]
   show _=_
   rw [e2,Nat.eq_of_beq_eq_true h2]
  ·rename_i k k' e1 e2
   rw [e1]
   show _=_
   rw [e2,of_decide_eq_true h2]
  ·rename_i e1 e2;rw [e1];exact e2
  ·rename_i e1 e2;rw [e1];exact e2
  ·rename_i e e1 e2;rw [e1];exact ⟨e,e2⟩
  ·rename_i kt et e1 e2
   simp only [Bool.and_eq_true] at h2
   obtain ⟨⟨k1,k2⟩,k3⟩:=h2
   have:=Nat.eq_of_beq_eq_true k1
   subst this
   rw [e1]
   exact ⟨kt,e2,isI64_ok k2,mapZ_ok k3⟩
  ·rename_i kt et e1 e2
   simp only [Bool.and_eq_true] at h2
   obtain ⟨⟨k1,k2⟩,k3⟩:=h2
   have:=Nat.eq_of_beq_eq_true k1
   subst this
   rw [e1]
   split at k3
   ·rename_i fs hfs
    exact ⟨kt,fs,e2,hfs,kpl_ok k3,mapZ_ok k2⟩
   ·cases k3
  ·rename_i dr e e1 e2
   rw [e1]
   split at h2
   ·rename_i i hi
    exact ⟨dr,e,i,e2,hi,Nat.eq_of_beq_eq_true h2⟩
   ·cases h2
  ·cases h2
 ·rw [he] at h6
  simp only [Bool.not_true,Bool.false_or] at h6
  split at h6
  ·rename_i fs e
   simp only [Bool.and_eq_true] at h6
   obtain ⟨⟨⟨k1,k2⟩,k3⟩,k4⟩:=h6
   exact ⟨fs,e,fints_ok k1,Nat.eq_of_beq_eq_true k2,by simpa using k3,by simpa using k4⟩
  ·cases h6
 ·rw [ha,he] at h7
  simpa using h7
def ttOk (P:Program):TT→Bool
 | .leaf=>true
 | .node k ti l r=>tiOk P k ti&&ttOk P l&&ttOk P r
theorem ttOk_ok {P:Program}:∀ {T:TT},ttOk P T=true→∀ t ti,T.get t=some ti→TOK P t ti
 | .leaf,_,t,ti,h=>by cases h
 | .node k x l r,h,t,ti,hg=>by
  simp only [ttOk,Bool.and_eq_true] at h
  obtain ⟨⟨h1,h2⟩,h3⟩:=h
  simp only [TT.get] at hg
  cases hb:Nat.beq t k<;>rw [hb] at hg
  ·cases hc:Nat.blt t k<;>rw [hc] at hg
   ·exact ttOk_ok h3 t ti hg
   ·exact ttOk_ok h2 t ti hg
  ·cases hg
   rw [Nat.eq_of_beq_eq_true hb]
   exact tiOk_ok h1
end Go.Eng
namespace Go.Eng
open Go.Proofs
variable [Val]
def FT.flat:FT→List (Nat×Func)
 | .leaf=>[]
 | .node k f l r=>(k,f)::(l.flat++r.flat)
theorem FT.get_mem:∀ {T:FT} {t:Nat} {f:Func},T.get t=some f→(t,f)∈T.flat
 | .leaf,t,f,h=>by cases h
 | .node k x l r,t,f,h=>by
  simp only [FT.get] at h
  simp only [FT.flat,List.mem_cons,List.mem_append,Prod.mk.injEq]
  cases hb:Nat.beq t k<;>rw [hb] at h
  ·cases hc:Nat.blt t k<;>rw [hc] at h
   ·exact .inr (.inr (FT.get_mem h))
   ·exact .inr (.inl (FT.get_mem h))
  ·cases h
   exact .inl ⟨Nat.eq_of_beq_eq_true hb,rfl⟩
set_option maxRecDepth 100000
omit [Val] in
theorem tt_ok:ttOk Tryz.prog tt=true:=by kernel_rfl
omit [Val] in
theorem ft_ok:(ft.flat.map fun p=>Tryz.prog.funcs[p.1]?)=ft.flat.map fun p=>some p.2:=by kernel_rfl
omit [Val] in
theorem ft_nm : (ft.flat.all fun p => !(p.2.name == "runtime.NumGoroutine")) = true := by kernel_rfl
omit [Val] in
theorem mixed:Tryz.prog.follows .mixedOrders=true:=by kernel_rfl
theorem EBc_ok {bd:Bd} (hb:BD bd) {hk:HK} {cv:TypeId→TypeId→Nat→St→Option (AV×St)} (hh:∀ f args S v S',hk f args S=some (v,S')→CallGood Tryz.prog f args S S' v)
  (hc:∀ s d i S v S',cv s d i S=some (v,S')→∀ x,ev S.F x = .opq i→quietOp (EBc bd hk cv) (.convert s d x)=false→OpGood Tryz.prog (EBc bd hk cv) (.convert s d x) S S' v):EOK Tryz.prog (EBc bd hk cv) where
 tt t ti h:=ttOk_ok tt_ok t ti h
 body f fn h:=by
  have hm:=FT.get_mem (T:=ft) h
  have h2:=List.all_eq_true.1 ft_nm _ hm
  refine ⟨?_,by simpa using h2⟩
  have h1:∀ (l:List (Nat×Func)),(l.map fun p=>Tryz.prog.funcs[p.1]?)=(l.map fun p=>some p.2)→∀ q∈l,Tryz.prog.funcs[q.1]?=some q.2:=by
   intro l
   induction l with
   | nil=>intro _ q hq;cases hq
   | cons x l ih =>
    intro e q hq
    simp only [List.map_cons,List.cons.injEq] at e
    rcases List.mem_cons.1 hq with rfl|hq
    ·exact e.1
    ·exact ih e.2 q hq
  exact h1 _ ft_ok _ hm
 mixed:=mixed
 bd:=hb
 hk:=hh
 cv:=hc
theorem EBh_ok {bd:Bd} (hb:BD bd) {hk:HK} (hh:∀ f args S v S',hk f args S=some (v,S')→CallGood Tryz.prog f args S S' v):EOK Tryz.prog (EBh bd hk):=EBc_ok hb hh fun _ _ _ _ _ _ h=>by cases h
theorem EB_ok {bd:Bd} (hb:BD bd):EOK Tryz.prog (EB bd):=EBh_ok hb fun _ _ _ _ _ h=>by cases h
end Go.Eng
namespace Go.Eng
open Go.RowKit
def hks (bd:Bd) (l:List TS):FuncId→List AV→St→Option (AV×St):=hkOf (l.map (TS.he bd))
structure CVS where
 s:Nat
 d:Nat
 k':Nat
def cvOf (c:CVS) (s d i:Nat) (S:St):Option (AV×St):=bif Nat.beq s c.s&&Nat.beq d c.d then (match getA S.H 0 with
 | some (.gho k [.opq j])=>bif Nat.beq i j&&Nat.ble 1 k&&Nat.blt k c.k' then some (.opq S.nx,{ S with H:=(0,.gho c.k' [.opq j,.opq S.nx])::S.H,nx:=S.nx+1 }) else none
 | _=>none) else none
section
variable {b : Nat} {ν : Nat → Int} {st : Nat → List Value → List (Asr b)}
def CVS.Ok (P:Program) (st:Nat→List Value→List (Asr b)) (c:CVS):Prop:=∀ {k:Nat} {v:Value} {w:World} {F:Nat→Prop},1≤k→k < c.k'→All (st k [v]) w F→∃ str:ByteArray,(Go.convert c.s c.d v).run P w = .ok (.string str) w∧All (st c.k' [v,.string str]) w F
theorem hks_ok {P:Program} {bd:Bd} (hbd:@BD (mkVal b ν st) bd) {l:List TS} (h:∀ T∈l,T.Ok P ν st):∀ f args S v S',hks bd l f args S=some (v,S')→@CallGood (mkVal b ν st) P f args S S' v :=
 @hkOf_ok (mkVal b ν st) P _ fun x hx=>by
  obtain ⟨T,hT,rfl⟩:=List.mem_map.1 hx
  exact TS.Ok.he hbd (h T hT)
theorem cvOf_ok {P:Program} {c:CVS} (h:c.Ok P st) {E:Env}:∀ s d i S v S',cvOf c s d i S=some (v,S')→∀ x,ev S.F x = .opq i→quietOp E (.convert s d x)=false→@OpGood (mkVal b ν st) P E (.convert s d x) S S' v:=by
 letI:Val:=mkVal b ν st
 intro s d i S v S' e x hx hq
 unfold cvOf at e
 obtain ⟨h1,e1⟩:=bif_some e
 clear e
 rw [Bool.and_eq_true] at h1
 have:=Nat.eq_of_beq_eq_true h1.1;subst this
 have:=Nat.eq_of_beq_eq_true h1.2;subst this
 split at e1
 ·rename_i k j hk
  obtain ⟨h2,e2⟩:=bif_some e1
  clear e1
  cases e2
  simp only [Bool.and_eq_true] at h2
  obtain ⟨⟨h2,h3⟩,h4⟩:=h2
  have:=Nat.eq_of_beq_eq_true h2;subst this
  have h3:=Nat.le_of_ble_eq_true h3
  have h4:k < c.k':=by simpa [Nat.blt_eq] using h4
  refine .inr (.inr ⟨.inl hq,rfl,⟨[_],rfl⟩,Nat.le_succ _,rfl,fun {w G O a} hF hS=>?_⟩)
  obtain ⟨us,F,g0,g1,g2,g3⟩:=hS.gh k [.opq i] hk
  obtain ⟨u,r,q1,q2,rfl⟩:=dns_cons.1 g0
  cases q2
  have hv:a.eval x=u:=by
   have:=hF x
   rw [hx] at this
   have:dn G (.opq i)=some (a.eval x):=this
   rw [q1] at this
   exact (Option.some.inj this).symm
  obtain ⟨str,r1,r2⟩:=h (v:=u) h3 h4 (show All (st k [u]) w F from g1)
  obtain ⟨b1,b2⟩:=hS.bind ⟨0,0,0,0,.string str⟩
  have hget:∀ i b,getA ((0,Blk.gho c.k' [.opq i,.opq S.nx])::S.H) i=some b→b.live→getA S.H i=some b:=fun j b hj hl=>by
   rw [getA_cons] at hj
   split at hj
   ·cases hj;exact hl.elim
   ·exact hj
  have hget:∀ j b,getA ((0,Blk.gho c.k' [.opq i,.opq S.nx])::S.H) j=some b→b.live→getA S.H j=some b:=fun j b hj hl=>by
   rw [getA_cons] at hj
   split at hj
   ·cases hj;exact hl.elim
   ·exact hj
  have hd:dn (fun j=>if j=S.nx then some ⟨0,0,0,0,.string str⟩ else G j) (.opq S.nx)=some (.string str):=by
   show Option.bind (if S.nx=S.nx then _ else _) GI.ov=_
   rw [if_pos rfl];rfl
  have hg:GLe G (fun j=>if j=S.nx then some ⟨0,0,0,0,.string str⟩ else G j):=b2.g
  refine ⟨.value (.string str),.string str,w,_,O,fun d ty ps af gd=>?_,.inl rfl,dv_of_dn hd,⟨⟨fun j b hj hl=>b1.bs j b (hget j b hj hl) hl,fun j k b c y z hj hb hk hc hy hz he=>b1.inj j k b c y z (hget j b hj hb) hb (hget k c hk hc) hc hy hz he⟩,b1.fresh,b1.olt,fun k2 as2 hk2=>?_,b1.ob,b1.bw⟩,b2⟩
  ·simp only [execOp,hv,Sem.run_bind,r1,Result.andThen_ok,Sem.run_pure]
  ·rw [getA_cons,if_pos rfl] at hk2
   cases hk2
   refine ⟨[u,.string str],F,dns_cons.2 ⟨u,_,dn_mono hg q1,dns_cons.2 ⟨_,[],hd,rfl,rfl⟩,rfl⟩,r2,fun y hy=>⟨(g2 y hy).1,fun q=>q⟩,fun j b y hj hl hy hF=>?_⟩
   have hj':=hget j b hj hl
   have hlt:j≠S.nx:=fun e=>by
    subst e
    obtain ⟨z,z1,_⟩:=hS.bs _ b hj' hl
    rw [hS.fresh _ (Nat.le_refl _)] at z1;cases z1
   have hy:(if j=S.nx then _ else G j)=some y:=hy
   rw [if_neg hlt] at hy
   exact g3 j b y hj' hl hy hF
 ·cases e1
theorem engA_join {H1 H2:Hp} {n1 n2:Nat} {rt1 rt2:List AV} {v1 v2:List Value} {w:World} {F1 F2:Nat→Prop} (h1:(engA b ν H1 n1 rt1 v1).P w F1) (h2:(engA b ν H2 n2 rt2 v2).P w F2) (hd:∀ x,F1 x→¬ F2 x) (g1:noGho H1=true) (g2:noGho H2=true) (g3:noGho (H1++shH n1 H2)=true) (hb:b≤w.heap.size) :
  (engA b ν (H1++shH n1 H2) (n1+n2) (rt1++shAs n1 rt2) (v1++v2)).P w fun x=>F1 x∨F2 x:=by
 letI:Val:=plainV b ν
 obtain ⟨G1,s1,r1⟩:=engA_sat h1 g1 hb
 obtain ⟨G2,s2,r2⟩:=engA_sat h2 g2 hb
 have hj:=s1.join s2 hd g3
 have hle:GLe G1 (joinG G1 n1 G2):=fun i x hi=>by
  unfold joinG
  rw [if_pos (s1.lt hi)];exact hi
 exact ⟨_,hj.toSat0,hj.fresh,dns_app.2 ⟨_,_,dns_mono hle r1,by rw [dns_sh];exact r2,rfl⟩,fun x hx=>⟨hj.ob x hx,hj.olt x hx⟩⟩
end
end Go.Eng
namespace Go.Eng
open Go.RowKit
def engAs (b:Nat) (ν:Nat→Int):List Part→List (List Value)→List (Asr b)
 | p::l,v::m=>engA b ν p.B p.n p.rt v::engAs b ν l m
 | _,_=>[]
def goOks (r:Option (AV×St)) (v:AV) (k:Nat) (az:List AV) (ps:List Part):Bool:=match r with
 | some (v',S)=>eqV v v'&&ghoIs S.H k az&&ps.all (fun p=>p.ok S.H S.nx)&&nodupN (partsKeys ps)&&S.obs.isEmpty
 | none=>false
section
variable {b : Nat} {ν : Nat → Int} {st : Nat → List Value → List (Asr b)}
def rgVs (b:Nat) (ν:Nat→Int) (G:GM):List Part→List (List Value)→Prop
 | [],[]=>True
 | p::l,v::m=>@dns (plainV b ν) G p.rg=some v∧rgVs b ν G l m
 | _,_=>False
theorem part_engC {w:World} {G:GM} {O:Nat→Prop} {H:Hp} {nx:Nat} (h:@Sat (mkVal b ν st) w G O H nx) {p:Part} (hp:p.ok H nx=true) {vals:List Value} (hv:@dns (plainV b ν) G p.rg=some vals) :
  ∃ F',(engA b ν p.B p.n p.rt vals).P w F'∧(∀ y,F' y→O y)∧∀ y,F' y→∃ i c x,i∈gkeys p.ρ p.B∧getA H i=some c∧c.live∧G i=some x∧y=x.g:=by
 letI:Val:=mkVal b ν st
 unfold Part.ok at hp
 rw [Bool.and_eq_true] at hp
 have hs:=h.gc hp.1
 have hO:∀ y,partF G p y→O y:=fun y ⟨k,c,x,h1,h2,h3,h4⟩=>by
  obtain ⟨x',k1,k2,_⟩:=hs.bs k c h1 h2
  rw [h3] at k1;cases k1
  rw [h4];exact k2
 refine ⟨partF G p,⟨GM.ren p.ρ G,?_,hs.fresh,?_,fun y hy=>⟨h.ob y (hO y hy),h.olt y (hO y hy)⟩⟩,hO,fun y hy=>?_⟩
 ·refine @Sat0.mk (plainV b ν) _ _ _ _ (fun i c hi hl=>?_) hs.inj
  obtain ⟨x,k1,k2,k3,k4⟩:=hs.bs i c hi hl
  exact ⟨x,k1,⟨i,c,x,hi,hl,k1,rfl⟩,k3,bs_pl.1 k4⟩
 ·exact (@sameAs_ok (plainV b ν) _ _ _ _ hp.2).trans hv
 ·obtain ⟨k,c,x,h1,h2,h3,h4⟩:=hy
  have hsH:=hp.1
  simp only [gcOk,Bool.and_eq_true] at hsH
  obtain ⟨i,b',g1,g2,g3⟩:=sameH_ok hsH.1.1.1 k c h1
  have hl:=(sameB_ok (w:=w) (x:=x) (G:=G) g3).1.2
  exact ⟨i,b',x,gkeys_mem h1 g1,g2,hl,by have:(nth p.ρ k).bind G=some x:=h3;rw [g1] at this;exact this,h4⟩
theorem parts_all {w:World} {G:GM} {O:Nat→Prop} {H:Hp} {nx:Nat} (h:@Sat (mkVal b ν st) w G O H nx):∀ {ps:List Part} {vss:List (List Value)},(∀ p∈ps,p.ok H nx=true)→nodupN (partsKeys ps)=true→rgVs b ν G ps vss →
  ∃ F',All (engAs b ν ps vss) w F'∧(∀ y,F' y→O y)∧∀ y,F' y→∃ i c x,i∈partsKeys ps∧getA H i=some c∧c.live∧G i=some x∧y=x.g
 | [],[],_,_,_=>⟨fun _=>False,⟨fun _ _=>False,⟨fun i A hi=>(by cases i<;>cases hi),fun i j x hi=>hi.elim,fun i _ x hx=>hx⟩,fun x=>⟨fun q=>q.elim,fun ⟨_,q⟩=>q⟩⟩,fun y q=>q.elim,fun y q=>q.elim⟩
 | [],_::_,_,_,h=>h.elim
 | _::_,[],_,_,h=>h.elim
 | p::ps,v::vss,hp,hn,hv=>by
  letI:Val:=mkVal b ν st
  obtain ⟨h1,h2⟩:=nodupN_app hn
  obtain ⟨F1,a1,a2,a3⟩:=part_engC h (hp p (List.mem_cons_self ..)) hv.1
  obtain ⟨F2,b1,b2,b3⟩:=parts_all h (fun q hq=>hp q (List.mem_cons_of_mem _ hq)) h1 hv.2
  refine ⟨fun x=>F1 x∨F2 x,All.join (l:=[_]) (All.one.2 a1) b1 (fun x hx hy=>?_) (fun _=>Iff.rfl),fun y hy=>hy.elim (a2 y) (b2 y),fun y hy=>?_⟩
  ·obtain ⟨i,c,z,e0,e1,e2,e3,e4⟩:=a3 x hx
   obtain ⟨j,d,y,f0,f1,f2,f3,f4⟩:=b3 x hy
   have:=@Sat0.inj (mkVal b ν st) _ _ _ _ h.toSat0 i j c d z y e1 e2 f1 f2 e3 f3 (by rw [← e4,← f4])
   subst this
   exact h2 i e0 f0
  ·rcases hy with q|q
   ·obtain ⟨i,c,z,e0,r⟩:=a3 y q
    exact ⟨i,c,z,List.mem_append_left _ e0,r⟩
   ·obtain ⟨i,c,z,e0,r⟩:=b3 y q
    exact ⟨i,c,z,List.mem_append_right _ e0,r⟩
theorem run_engs {P:Program} {E:Env} (hE:@EOK (mkVal b ν st) P E) {fuel:Nat} {f:FuncId} {args:List AV} {H:Hp} {n k0 kf:Nat} {as0 asf rt:List AV} {vf:AV} {ps:List Part}
  (hev:goOks (call E fuel f args ⟨[],(0,.gho k0 as0)::H,n,[],[]⟩) vf kf asf ps=true) (hn:0 < n) (h0:getA H 0=none)
  {w:World} {F:Nat→Prop} {gs us vals:List Value} (hb:b≤w.heap.size) (h:All (st k0 gs++[engA b ν H n rt vals]) w F)
  (hg:∀ G:GM,@dns (plainV b ν) G rt=some vals→@dns (plainV b ν) G as0=some gs∧@dvl (plainV b ν) G args us) :
  Calls P f us.toArray w fun e w'=>∃ u gs' G,e = .returned u∧@dv (plainV b ν) G vf=some u∧@dns (plainV b ν) G asf=some gs'∧(∃ F0,All (st kf gs') w' F0)∧(∀ vss,rgVs b ν G ps vss→∃ F',All (st kf gs'++engAs b ν ps vss) w' F'∧∀ x,F' x→F x∨w.heap.size≤x)∧UpdP F w w'∧∃ G0:GM,GLe G0 G∧@dns (plainV b ν) G0 rt=some vals:=by
 letI:Val:=mkVal b ν st
 obtain ⟨G0,hS,hr⟩:=sat_startE (k:=k0) (az:=as0) hn hb h0 h (fun G q=>(hg G q).1)
 unfold goOks at hev
 split at hev
 ·rename_i v' S hc
  simp only [Bool.and_eq_true] at hev
  obtain ⟨⟨⟨⟨h1,h2⟩,h3⟩,h4⟩,h5⟩:=hev
  have ho:S.obs=[]:=by simpa using h5
  refine ((@call_ok (mkVal b ν st) P E hE fuel f args _ S v' hc).2.2 (by rw [ho];intro p hp;cases hp) (dvl_pl _ _ _ (hg G0 hr).2) hS).mono ?_
  rintro e w' ⟨u,G,O,rfl,k1,k2,k3⟩
  have hgh:getA S.H 0=some (.gho kf asf):=by
   unfold ghoIs at h2
   split at h2
   ·rename_i k' az' he
    rw [Bool.and_eq_true] at h2
    rw [he,Nat.eq_of_beq_eq_true h2.1,eqAs_ok h2.2]
   ·cases h2
  obtain ⟨gs',F1,q1,q2,q3,q4⟩:=k2.gh kf asf hgh
  have q2:All (st kf gs') w' F1:=q2
  refine ⟨u,gs',G,rfl,by rw [eqV_ok h1,← dv_pl (st:=st)];exact k1,by rw [← dns_pl (st:=st)];exact q1,⟨F1,q2⟩,fun vss hv=>?_,k3.u,G0,k3.g,hr⟩
  obtain ⟨F2,g1,g2,g3⟩:=parts_all k2 (fun p hp=>List.all_eq_true.1 h3 p hp) h4 hv
  refine ⟨fun x=>F1 x∨F2 x,q2.join g1 (fun x hx hy=>?_) (fun _=>Iff.rfl),fun x hx=>hx.elim (fun q=>k3.o x (q3 x q).1) fun q=>k3.o x (g2 x q)⟩
  obtain ⟨i,c,y,e0,e1,e2,e3,e4⟩:=g3 x hy
  subst e4
  exact q4 i c y e1 e2 e3 hx
 ·cases hev
end
end Go.Eng
namespace Go.Eng
def i6 (n:Int):AV := .int .i64 n
def i6s:List Int→List AV
 | []=>[]
 | n::l => .int .i64 n::i6s l
def lin (c:Int) (l:List (Nat×Int)):AV := .sym .i64 ⟨c,l⟩
def cdY (k:Nat):Blk := .gro 344 4 [i6 4,i6 0,i6 0,.nils,i6 5,i6 0,i6 0,.nils,i6 2,i6 3,i6 5,.nils,i6 1,i6 0,i6 0,.slc k 0 1,i6 3,i6 2,i6 0,.nils,i6 6,i6 0,i6 0,.nils,i6 4,i6 1,i6 0,.nils,i6 7,i6 0,i6 0,.nils]
def rgY:Blk := .gro 482 2 [.int .i32 121,.int .i32 121]
def no10:List AV:=i6s [-1,-1,-1,-1,-1,-1,-1,-1,-1,-1]
def th0:List AV:=i6 0::no10
def th4:List AV:=i6 4::i6 0::i6s [-1,-1,-1,-1,-1,-1,-1,-1,-1]
def tA:Hp:=[(12,.gro 290 12 (.bool false::no10++[.slk 13 0 1 1])),(13,.row 415 th0),(14,.row 456 [.slk 15 0 8 8,.nils]),(15,.row 3 (i6s [0,0,0,0,0,0,0,0]))]
def tA2:Hp:=[(12,.gro 290 12 (.bool false::no10++[.slc 13 0 1])),(13,.gro 415 11 th0),(14,.row 456 [.slk 15 0 8 8,.nils]),(15,.row 3 (i6s [0,0,0,0,0,0,0,0]))]
def tB0:Hp:=[(12,.gro 290 12 (.bool false::no10++[.slc 13 0 2])),(13,.gro 415 11 (th4++th0)),(14,.row 456 [.slk 15 0 8 8,.nils]),(15,.row 3 (i6s [0,0,0,0,0,0,0,0]))]
def tBs (p:List Int):Hp:=[(12,.gro 290 12 (.bool false::no10++[.slc 13 0 2])),(13,.gro 415 11 (th4++th0)),(14,.row 456 [.slk 15 0 8 8,.slc 16 0 2]),(15,.row 3 (i6s p)),(16,.gro 505 2 [i6 4,.bool true,i6 0,.bool true])]
def tB1:Hp:=tBs [1,1,2,3,0,4,0,0]
def tB2:Hp:=tBs [1,5,1,2,0,3,0,0]
def hs (at_ ln pl:AV) (lg:Bool) (c0:Int) (T:Hp):Hp :=
 [(2,.row 209 [.ptr 1 0,.slc 3 0 8,.slc 5 0 1,.nils,.nils,.bool false,at_,ln,.bool lg,.bool false,i6 0,i6 0,.nils,.nilp,.ptr 6 0,.nilp]),
   (3, cdY 4), (4, rgY), (5, .gro 3 1 [i6 0]), (6, .row 298 [.ptr 7 0, .ptr 8 0]), (7, .row 378 [.int .u8 c0, .int .u8 0, .int .u8 0, .int .u8 0, i6 0]),
   (8, .row 373 [.slc 9 0 8, .slc 11 0 1, pl, .slc 12 0 1, .ptr 14 0]), (9, cdY 10), (10, rgY), (11, .gro 3 1 [i6 0])] ++ T
def vA:Hp:=[(1,.gro 290 12 (.bool false::no10++[.slc 2 0 1])),(2,.gro 415 11 th0)]
def vB:Hp:=[(1,.gro 290 12 (.bool false::no10++[.slc 2 0 2])),(2,.gro 415 11 (th4++th0))]
def L0:AV:=lin 0 [(0,1)]
def L01:AV:=lin 0 [(0,1),(1,1)]
def L1:AV:=lin 0 [(1,1)]
def hR:Hp:=[(1,.row 262 [.slc 2 0 1,.str ⟨#[]⟩,.slc 3 0 8,.slc 5 0 1,.nils,.nils,.ptr 6 0]),(2,.gro 29 2 [.str ⟨#[97]⟩,.str ⟨#[94,121,42,36]⟩]),(3,cdY 4),(4,rgY),(5,.gro 3 1 [i6 0]),(6,.row 401 [.slc 7 0 1]),(7,.gro 403 2 [.str ⟨#[97]⟩,i6 0])]
inductive Ck where
 | A|A2|B0|B1|B2|L|L2
def Ck.H:Ck→Hp
 | .A=>hs L0 L0 (i6 0) false 0 tA
 | .A2=>hs L0 L0 (i6 0) false 0 tA2
 | .B0=>hs L01 L0 L1 false 0 tB0
 | .B1=>hs L01 L0 L1 false 121 tB1
 | .B2=>hs L01 L0 L1 false 121 tB2
 | .L=>hs L01 L0 (i6 0) true 0 tA
 | .L2=>hs L01 L0 (i6 0) true 0 tA2
def Ck.n:Ck→Nat
 | .B1 | .B2=>17
 | _=>16
def lk (c:Int) (l:List (Nat×Int)):Lin:=⟨c,l⟩
def rS:List AV:=[.ptr 1 0,.ptr 2 0]
def fH (k:Int) (at_ c1:AV) (c0 z:Int):Hp:=[(1,.gro 321 13 ([i6 k,at_,i6 0,i6 c0,c1]++i6s [z,z,z,z,z,z,z,z]))]
def svA (at_ ln pl:AV) (lg:Bool) (ls:AV):AV := .agg [at_,ln,.bool lg,.bool false,i6 0,i6 0,.nils,.nils,i6 0,.nils,.nils,pl,ls,.nils,i6 0,.nils]
def Ck.lng:Ck→Bool
 | .L | .L2=>true
 | _=>false
def Ck.at_:Ck→AV
 | .A | .A2=>L0
 | _=>L01
def Ck.pl:Ck→AV
 | .B0 | .B1 | .B2=>L1
 | _=>i6 0
def Ck.two:Ck→Bool
 | .B0 | .B1 | .B2=>true
 | _=>false
def vH (two:Bool):Hp:=bif two then vB else vA
end Go.Eng
namespace Go.Eng
def c0:Sel := .c (.int .i64 0)
def tYNew:TS:=⟨16,0,[],[.ptr],.s (.at 0),[.at 0],1⟩
def tDNew:TS:=⟨17,1,[],[.ptr],.s (.at 1),[.at 0,.at 1],2⟩
def tLOpen:TS:=⟨49,2,[.s (.at 1)],[.ptr],.t [.at 2,c0],[.at 0,.at 1,.at 2],3⟩
def tJOpen:TS:=⟨50,3,[.s (.at 1)],[.ptr],.t [.at 3,c0],[.at 0,.at 1,.at 2,.at 3],4⟩
def tJGet:TS:=⟨53,4,[.s (.at 3),.s (.num 0 12)],[],.s (.c (.str ⟨#[]⟩)),[.at 0,.at 1,.at 2,.at 3],4⟩
def newTs:List TS:=[tYNew,tDNew,tLOpen,tJOpen,tJGet]
def lt (i:Nat):AV:=lin 0 [(i,1)]
def s64 (i:Nat):Sel := .c (lt i)
def lt32 (i:Nat):AV := .sym .u32 ⟨0,[(i,1)]⟩
def i0:Sel := .c (.int .i64 0)
def i1:Sel := .c (.int .i64 1)
def nl:Sel := .c .nils
def ats (n:Nat):List Sel:=(List.range n).map Sel.at
def svS (at_ ln:Sel) (lg:Sel) (pl ls:Sel):List Sel:=[at_,ln,lg,.c (.bool false),i0,i0,nl,nl,i0,nl,nl,pl,ls,nl,i0,nl]
def ptS (hl hs:Sel) (sv:List Sel):List Sel := .c (.bool true)::i1::i1::hl::hs::sv
def tMark (k k' n:Nat):TS:=⟨20,k,[.s (.at 1)],[],.t [],ats n,k'⟩
def tFiles (k n:Nat):TS:=⟨65,k,[.s (.at 0)],[],.row 178 3 1 [i1,.c (.str ⟨#[108,111,103]⟩),s64 6],ats n,k+1⟩
def tRead (k n:Nat) (at_ m:Sel) (len:Lin):TS:=⟨107,k,[.s (.at 0),.s i1,.s at_,.s m],[.opl len],.t [.at n,i0],ats (n+1),k+1⟩
def tSNew (k n:Nat):TS:=⟨109,k,[.s (.at 4)],[.ptr],.t [.at n,i0],ats (n+1),k+1⟩
def tState0 (k n:Nat) (x:Nat):TS:=⟨47,k,[.s (.at x)],[.opq],.g (svS i0 i0 (.c (.bool false)) i0 (.at n)),ats (n+1),k+1⟩
def tHead (k n:Nat) (hd:Nat):TS:=⟨110,k,[.s (.at hd)],[],.g [s64 2,.c (lt32 3)],ats n,k+1⟩
def tOf (k n:Nat) (sv:List Sel):TS:=⟨46,k,[.s (.at 4),.g sv],[.ptr],.t [.at n,i0],ats (n+1),k+1⟩
def tFeed (k n:Nat) (x b:Nat):TS:=⟨112,k,[.s (.at x),.s (.at b)],[.opq],.s (.at n),ats (n+1),k+1⟩
def anys:Nat→List Sel
 | 0=>[]
 | n+1 => .any::anys n
def tAdd (k n:Nat) (l:Nat):TS:=⟨111,k,[.pt 98 [.at 0,.at 4,.at 2,.at 3,.any,.any],.g (.c (.bool true)::i1::i1::anys 18),.s (.at l)],[],.s i0,ats n,k+1⟩
def tState (k n:Nat) (x:Nat):TS:=⟨47,k,[.s (.at x)],[.opq,.opq],.g (svS (s64 7) (s64 8) (.at (n+1)) (s64 9) (.at n)),ats (n+2),k+1⟩
def tEnc (k n:Nat) (ls lg:Nat):TS:=⟨75,k,[.s (.at 4),.g (ptS (s64 2) (.c (lt32 3)) (svS (s64 7) (s64 8) (.at lg) (s64 9) (.at ls)))],[.opq],.s (.at n),ats (n+1),k+1⟩
def tSet (k n:Nat) (e:TypeId) (str:Nat) (keep:List Sel):TS:=⟨76,k,[.s (.at 3),.sl e 1 [i1,.at str]],[],.s i0,keep,k+1⟩
def tSame (k n:Nat) (hl hs at_:Sel) (hd:Nat):TS:=⟨108,k,[.g [hl,hs],.s at_,.s (s64 6),.s (.at hd)],[],.s (.c (.bool true)),ats n,k+1⟩
def pollA:List TS:=[tMark 0 1 5,tFiles 1 5,tRead 2 5 i0 (.c (.int .i64 16)) ⟨0,[(2,1)]⟩,tSNew 3 6,tState0 4 7 6,tHead 5 8 5,tOf 6 8 (svS i0 i0 (.c (.bool false)) i0 (.at 7)),
 tRead 7 9 i0 (s64 6) ⟨0,[(6,1)]⟩,tFeed 8 10 8 9,tAdd 9 11 10,tState 10 11 8,tEnc 11 13 11 12,tSet 12 14 190 13 (ats 5++[.at 11,.at 12])]
def hW (t:Hp):Hp:=[(6,.row 67 [.ptr 1 0,.ptr 2 0,.ptr 7 0]),(7,.row 98 [.ptr 1 0,.ptr 5 0,.ptr 3 0,.ptr 4 0,.ptr 8 0,.ptr 9 0])]++t
def hW0:Hp:=hW [(8,.row 142 [.nils])]
def as5:List AV:=[.ptr 1 0,.ptr 2 0,.ptr 3 0,.ptr 4 0,.ptr 5 0]
def step0 (kind:Int):AV := .agg [i6 kind,i6 0,.str ⟨#[]⟩,.str ⟨#[]⟩,.nils,.nils,.str ⟨#[]⟩]
def bdP:Bd:=[(0,1000000),(0,1000000),(0,16),(0,4294967295),(0,0),(0,0),(0,65536),(0,1000000),(0,1000000),(0,200)]
def rowP (hl hs at_ ln pl:AV):List AV:=[i6 1,.bool true,i6 1,i6 1,hl,hs,at_,ln,.opq 7,.bool false,i6 0,i6 0,.nils,.nils,i6 0,.nils,.nils,pl,.opq 6,.nils,i6 0,.nils]
def hP (hl hs at_ ln pl:AV):Hp:=[(8,.row 67 [.ptr 1 0,.ptr 2 0,.ptr 9 0]),(9,.row 98 [.ptr 1 0,.ptr 5 0,.ptr 3 0,.ptr 4 0,.ptr 10 0,.ptr 12 0]),(10,.row 142 [.slc 11 0 1]),(11,.gro 139 22 (rowP hl hs at_ ln pl))]
def hP1:Hp:=hP (lt 10) (lt32 11) (lt 12) (lt 13) (lt 14)
def hP2:Hp:=hP (lt 2) (lt32 3) (lt 7) (lt 8) (lt 9)
def as7:List AV:=as5++[.opq 6,.opq 7]
def dif:Lin:=⟨0,[(6,1),(12,-1)]⟩
def pollB:List TS:=[tMark 0 1 7,tFiles 1 7,tRead 2 7 i0 (.c (.int .i64 16)) ⟨0,[(2,1)]⟩,tSame 3 8 (s64 10) (.c (lt32 11)) (s64 12) 7,tHead 4 8 7,tOf 5 8 (svS (s64 12) (s64 13) (.at 6) (s64 14) (.at 5)),
 tRead 6 9 (s64 12) (.c (.sym .i64 dif)) ⟨0,[(15,1)]⟩,tFeed 7 10 8 9,tAdd 8 11 10,tState 9 11 8,tEnc 10 13 11 12,tSet 11 14 190 13 (ats 5++[.at 11,.at 12])]
def bdQ:Bd:=bdP++[(0,16),(0,4294967295),(0,1000000),(0,1000000),(0,200),(1,65536)]
end Go.Eng
namespace Go.Eng
def numT (k:Nat):TS:=⟨123,k,[.s (.at 0),.s (.num (-9223372036854775808) 9223372036854775807)],[.opq],.s (.at 1),[.at 1],k+1⟩
def txtT (k:Nat):TS:=⟨121,k,[.s (.at 0),.s (.c (.str ⟨#[]⟩))],[.opq],.s (.at 1),[.at 1],k+2⟩
def encTs:List TS:=(List.range 90).map numT++(List.range 90).map txtT
def encCv:CVS:=⟨33,9,100⟩
def L2:AV:=lin 0 [(2,1)]
def L4:AV:=lin 0 [(4,1)]
def L5:AV:=lin 0 [(5,1)]
def L3:AV := .sym .u32 ⟨0,[(3,1)]⟩
def ptA (ino gen:AV) (at_ ln pl:AV) (lg:Bool) (ls:AV):AV := .agg [.bool true,ino,gen,L2,L3,at_,ln,.bool lg,.bool false,i6 0,i6 0,.nils,.nils,i6 0,.nils,.nils,pl,ls,.nils,i6 0,.nils]
def bdE (lo hi:Int):Bd:=[(0,1073741824),(lo,hi),(0,16),(0,4294967295),(1,12),(1,1099511627776)]
set_option maxRecDepth 100000
theorem enc_A2:goOks (call (EBc (bdE 0 0) (hks (bdE 0 0) encTs) (cvOf encCv)) 300 75 [.ptr 1 0,ptA L4 L5 Ck.A2.at_ L0 Ck.A2.pl false (.slc 9 0 1)] ⟨[],(0,.gho 0 [.nils])::(hR++shH 8 (vH false)),11,[],[]⟩) (.opq 233) 100 [.opq 232,.opq 233] [⟨List.range 8,hR,8,[.ptr 1 0],[.ptr 1 0]⟩,⟨[0,9,10],vH false,3,[.slc 1 0 1],[.slc 9 0 1]⟩]=true:=by kernel_rfl
theorem enc_B0:goOks (call (EBc (bdE 1 200) (hks (bdE 1 200) encTs) (cvOf encCv)) 300 75 [.ptr 1 0,ptA L4 L5 Ck.B0.at_ L0 Ck.B0.pl false (.slc 9 0 1)] ⟨[],(0,.gho 0 [.nils])::(hR++shH 8 (vH true)),11,[],[]⟩) (.opq 249) 100 [.opq 248,.opq 249] [⟨List.range 8,hR,8,[.ptr 1 0],[.ptr 1 0]⟩,⟨[0,9,10],vH true,3,[.slc 1 0 1],[.slc 9 0 1]⟩]=true:=by kernel_rfl
theorem enc_L2:goOks (call (EBc (bdE 201 1073741824) (hks (bdE 201 1073741824) encTs) (cvOf encCv)) 300 75 [.ptr 1 0,ptA L4 L5 Ck.L2.at_ L0 Ck.L2.pl true (.slc 9 0 1)] ⟨[],(0,.gho 0 [.nils])::(hR++shH 8 (vH false)),11,[],[]⟩) (.opq 233) 100 [.opq 232,.opq 233] [⟨List.range 8,hR,8,[.ptr 1 0],[.ptr 1 0]⟩,⟨[0,9,10],vH false,3,[.slc 1 0 1],[.slc 9 0 1]⟩]=true:=by kernel_rfl
end Go.Eng
namespace Go.Eng
set_option maxRecDepth 100000
theorem tr_A_y:callP (EB [(0,1073741824),(0,0)]) 300 167 [.ptr 2 0,.int .u8 121] (sbH [lk 0 [(0,1)],lk 0 [(1,1)]] Ck.A.H) 16 (.nils) [⟨[0,1,2,3,4,5,6,7,8,9,10,11,12,65,14,15,61],sbH [lk 0 [(0,1)],lk 1 []] Ck.B1.H,17,rS,rS⟩]=true:=by kernel_rfl
theorem tr_A2_y:callP (EB [(0,1073741824),(0,0)]) 300 167 [.ptr 2 0,.int .u8 121] (sbH [lk 0 [(0,1)],lk 0 [(1,1)]] Ck.A2.H) 16 (.nils) [⟨[0,1,2,3,4,5,6,7,8,9,10,11,12,65,14,15,61],sbH [lk 0 [(0,1)],lk 1 []] Ck.B1.H,17,rS,rS⟩]=true:=by kernel_rfl
theorem tr_B0_y:callP (EB [(0,1073741824),(1,199)]) 300 167 [.ptr 2 0,.int .u8 121] (sbH [lk 0 [(0,1)],lk 0 [(1,1)]] Ck.B0.H) 16 (.nils) [⟨[0,1,2,3,4,5,6,7,8,9,10,11,12,71,14,15,67],sbH [lk 0 [(0,1)],lk 1 [(1,1)]] Ck.B2.H,17,rS,rS⟩]=true:=by kernel_rfl
theorem tr_B1_y:callP (EB [(0,1073741824),(1,1)]) 300 167 [.ptr 2 0,.int .u8 121] (sbH [lk 0 [(0,1)],lk 1 []] Ck.B1.H) 17 (.nils) [⟨[0,1,2,3,4,5,6,7,8,9,10,11,12,72,14,15,68],sbH [lk 0 [(0,1)],lk 2 []] Ck.B2.H,17,rS,rS⟩]=true:=by kernel_rfl
theorem tr_B2_y:callP (EB [(0,1073741824),(1,199)]) 300 167 [.ptr 2 0,.int .u8 121] (sbH [lk 0 [(0,1)],lk 0 [(1,1)]] Ck.B2.H) 17 (.nils) [⟨[0,1,2,3,4,5,6,7,8,9,10,11,12,72,14,15,68],sbH [lk 0 [(0,1)],lk 1 [(1,1)]] Ck.B2.H,17,rS,rS⟩]=true:=by kernel_rfl
theorem tr_B0_l:callP (EB [(0,1073741824),(200,200)]) 300 167 [.ptr 2 0,.int .u8 121] (sbH [lk 0 [(0,1)],lk 200 []] Ck.B0.H) 16 (.slc 18 0 1) [⟨[0,1,2,3,4,5,30,19,22,9,10,11,29,27,21,20],sbH [lk 0 [(0,1)],lk 201 []] Ck.L.H,16,rS,rS⟩,⟨[0,18],fH 2 L0 (i6 0) 0 0,2,[.slc 1 0 1],[.slc 18 0 1]⟩]=true:=by kernel_rfl
theorem tr_B2_l:callP (EB [(0,1073741824),(200,200)]) 300 167 [.ptr 2 0,.int .u8 121] (sbH [lk 0 [(0,1)],lk 200 []] Ck.B2.H) 17 (.slc 19 0 1) [⟨[0,1,2,3,4,5,31,20,23,9,10,11,30,28,22,21],sbH [lk 0 [(0,1)],lk 201 []] Ck.L.H,16,rS,rS⟩,⟨[0,19],fH 2 L0 (i6 0) 0 0,2,[.slc 1 0 1],[.slc 19 0 1]⟩]=true:=by kernel_rfl
theorem tr_L_y:callP (EB [(0,1073741824),(201,1073741824)]) 300 167 [.ptr 2 0,.int .u8 121] (sbH [lk 0 [(0,1)],lk 0 [(1,1)]] Ck.L.H) 16 (.nils) [⟨[0,1,2,3,4,5,6,7,8,9,10,11,12,13,14,15],sbH [lk 0 [(0,1)],lk 1 [(1,1)]] Ck.L.H,16,rS,rS⟩]=true:=by kernel_rfl
theorem tr_L2_y:callP (EB [(0,1073741824),(201,1073741824)]) 300 167 [.ptr 2 0,.int .u8 121] (sbH [lk 0 [(0,1)],lk 0 [(1,1)]] Ck.L2.H) 16 (.nils) [⟨[0,1,2,3,4,5,6,7,8,9,10,11,12,13,14,15],sbH [lk 0 [(0,1)],lk 1 [(1,1)]] Ck.L2.H,16,rS,rS⟩]=true:=by kernel_rfl
theorem tr_A_n:callP (EB [(0,1073741824),(0,0)]) 300 167 [.ptr 2 0,.int .u8 10] (sbH [lk 0 [(0,1)],lk 0 [(1,1)]] Ck.A.H) 16 (.slc 73 0 1) [⟨[0,1,2,3,4,5,85,74,77,9,10,11,84,82,76,75],sbH [lk 1 [(0,1)],lk 0 []] Ck.A.H,16,rS,rS⟩,⟨[0,73],fH 1 L0 (i6 0) 0 (-1),2,[.slc 1 0 1],[.slc 73 0 1]⟩]=true:=by kernel_rfl
theorem tr_A2_n:callP (EB [(0,1073741824),(0,0)]) 300 167 [.ptr 2 0,.int .u8 10] (sbH [lk 0 [(0,1)],lk 0 [(1,1)]] Ck.A2.H) 16 (.slc 73 0 1) [⟨[0,1,2,3,4,5,85,74,77,9,10,11,84,82,76,75],sbH [lk 1 [(0,1)],lk 0 []] Ck.A.H,16,rS,rS⟩,⟨[0,73],fH 1 L0 (i6 0) 0 (-1),2,[.slc 1 0 1],[.slc 73 0 1]⟩]=true:=by kernel_rfl
theorem tr_B0_n:callP (EB [(0,1073741824),(1,200)]) 300 167 [.ptr 2 0,.int .u8 10] (sbH [lk 0 [(0,1)],lk 0 [(1,1)]] Ck.B0.H) 16 (.slc 68 0 1) [⟨[0,1,2,3,4,5,80,69,72,9,10,11,79,77,71,70],sbH [lk 1 [(0,1),(1,1)],lk 0 []] Ck.A.H,16,rS,rS⟩,⟨[0,68],fH 1 L0 L1 0 (-1),2,[.slc 1 0 1],[.slc 68 0 1]⟩]=true:=by kernel_rfl
theorem tr_B1_n:callP (EB [(0,1073741824),(1,1)]) 300 167 [.ptr 2 0,.int .u8 10] (sbH [lk 0 [(0,1)],lk 1 []] Ck.B1.H) 17 (.slc 69 0 1) [⟨[0,1,2,3,4,5,81,70,73,9,10,11,80,78,72,71],sbH [lk 2 [(0,1)],lk 0 []] Ck.A.H,16,rS,rS⟩,⟨[0,69],fH 1 L0 (i6 1) 0 (-1),2,[.slc 1 0 1],[.slc 69 0 1]⟩]=true:=by kernel_rfl
theorem tr_B2_n:callP (EB [(0,1073741824),(1,200)]) 300 167 [.ptr 2 0,.int .u8 10] (sbH [lk 0 [(0,1)],lk 0 [(1,1)]] Ck.B2.H) 17 (.slc 69 0 1) [⟨[0,1,2,3,4,5,81,70,73,9,10,11,80,78,72,71],sbH [lk 1 [(0,1),(1,1)],lk 0 []] Ck.A.H,16,rS,rS⟩,⟨[0,69],fH 1 L0 L1 0 (-1),2,[.slc 1 0 1],[.slc 69 0 1]⟩]=true:=by kernel_rfl
theorem tr_L_n:callP (EB [(0,1073741824),(201,1073741824)]) 300 167 [.ptr 2 0,.int .u8 10] (sbH [lk 0 [(0,1)],lk 0 [(1,1)]] Ck.L.H) 16 (.nils) [⟨[0,1,2,3,4,5,28,17,20,9,10,11,27,25,19,18],sbH [lk 1 [(0,1),(1,1)],lk 0 []] Ck.A.H,16,rS,rS⟩]=true:=by kernel_rfl
theorem tr_L2_n:callP (EB [(0,1073741824),(201,1073741824)]) 300 167 [.ptr 2 0,.int .u8 10] (sbH [lk 0 [(0,1)],lk 0 [(1,1)]] Ck.L2.H) 16 (.nils) [⟨[0,1,2,3,4,5,28,17,20,9,10,11,27,25,19,18],sbH [lk 1 [(0,1),(1,1)],lk 0 []] Ck.A.H,16,rS,rS⟩]=true:=by kernel_rfl
theorem tr_new:callP (EB []) 300 109 [.ptr 1 0] hR 8 (.tup [.ptr 38 0,.int .i64 0]) [⟨List.range 8,hR,8,[.ptr 1 0],[.ptr 1 0]⟩,⟨[0,1,38,37,23,11,140,139,131,130,116,104,138,136,101,100],sbH [lk 0 [],lk 0 []] Ck.A.H,16,rS,[.ptr 1 0,.ptr 38 0]⟩]=true:=by kernel_rfl
theorem tr_st_A:callP (EB [(0,1073741824),(0,0)]) 300 47 [.ptr 2 0] Ck.A.H 16 (svA Ck.A.at_ L0 Ck.A.pl false (.slc 24 0 1)) [⟨[0,1,2,3,4,5,6,7,8,9,10,11,12,13,14,15],Ck.A.H,16,rS,rS⟩,⟨[0,24,22],vH false,3,[.slc 1 0 1],[.slc 24 0 1]⟩]=true:=by kernel_rfl
theorem tr_st_A2:callP (EB [(0,1073741824),(0,0)]) 300 47 [.ptr 2 0] Ck.A2.H 16 (svA Ck.A2.at_ L0 Ck.A2.pl false (.slc 24 0 1)) [⟨[0,1,2,3,4,5,6,7,8,9,10,11,12,13,14,15],Ck.A2.H,16,rS,rS⟩,⟨[0,24,22],vH false,3,[.slc 1 0 1],[.slc 24 0 1]⟩]=true:=by kernel_rfl
theorem tr_st_B0:callP (EB [(0,1073741824),(1,200)]) 300 47 [.ptr 2 0] Ck.B0.H 16 (svA Ck.B0.at_ L0 Ck.B0.pl false (.slc 24 0 1)) [⟨[0,1,2,3,4,5,6,7,8,9,10,11,12,13,14,15],Ck.B0.H,16,rS,rS⟩,⟨[0,24,22],vH true,3,[.slc 1 0 1],[.slc 24 0 1]⟩]=true:=by kernel_rfl
theorem tr_st_B1:callP (EB [(0,1073741824),(1,1)]) 300 47 [.ptr 2 0] Ck.B1.H 17 (svA Ck.B1.at_ L0 Ck.B1.pl false (.slc 25 0 1)) [⟨[0,1,2,3,4,5,6,7,8,9,10,11,12,13,14,15,16],Ck.B1.H,17,rS,rS⟩,⟨[0,25,23],vH true,3,[.slc 1 0 1],[.slc 25 0 1]⟩]=true:=by kernel_rfl
theorem tr_st_B2:callP (EB [(0,1073741824),(1,200)]) 300 47 [.ptr 2 0] Ck.B2.H 17 (svA Ck.B2.at_ L0 Ck.B2.pl false (.slc 25 0 1)) [⟨[0,1,2,3,4,5,6,7,8,9,10,11,12,13,14,15,16],Ck.B2.H,17,rS,rS⟩,⟨[0,25,23],vH true,3,[.slc 1 0 1],[.slc 25 0 1]⟩]=true:=by kernel_rfl
theorem tr_st_L:callP (EB [(0,1073741824),(201,1073741824)]) 300 47 [.ptr 2 0] Ck.L.H 16 (svA Ck.L.at_ L0 Ck.L.pl true (.slc 24 0 1)) [⟨[0,1,2,3,4,5,6,7,8,9,10,11,12,13,14,15],Ck.L.H,16,rS,rS⟩,⟨[0,24,22],vH false,3,[.slc 1 0 1],[.slc 24 0 1]⟩]=true:=by kernel_rfl
theorem tr_st_L2:callP (EB [(0,1073741824),(201,1073741824)]) 300 47 [.ptr 2 0] Ck.L2.H 16 (svA Ck.L2.at_ L0 Ck.L2.pl true (.slc 24 0 1)) [⟨[0,1,2,3,4,5,6,7,8,9,10,11,12,13,14,15],Ck.L2.H,16,rS,rS⟩,⟨[0,24,22],vH false,3,[.slc 1 0 1],[.slc 24 0 1]⟩]=true:=by kernel_rfl
theorem tr_of_A2:callP (EB [(0,1073741824),(0,0)]) 300 46 [.ptr 1 0,svA Ck.A2.at_ L0 Ck.A2.pl false (.slc 9 0 1)] (hR++shH 8 (vH false)) 11 (.tup [.ptr 174 0,.int .i64 0]) [⟨List.range 8,hR,8,[.ptr 1 0],[.ptr 1 0]⟩,⟨[0,9,10],vH false,3,[.slc 1 0 1],[.slc 9 0 1]⟩,⟨[0,1,174,173,159,147,462,461,367,366,352,340,460,458,337,336],Ck.A2.H,16,rS,[.ptr 1 0,.ptr 174 0]⟩]=true:=by kernel_rfl
theorem tr_of_B0:callP (EB [(0,1073741824),(1,200)]) 300 46 [.ptr 1 0,svA Ck.B0.at_ L0 Ck.B0.pl false (.slc 9 0 1)] (hR++shH 8 (vH true)) 11 (.tup [.ptr 176 0,.int .i64 0]) [⟨List.range 8,hR,8,[.ptr 1 0],[.ptr 1 0]⟩,⟨[0,9,10],vH true,3,[.slc 1 0 1],[.slc 9 0 1]⟩,⟨[0,1,176,175,161,149,466,465,369,368,354,342,464,462,339,338],Ck.B0.H,16,rS,[.ptr 1 0,.ptr 176 0]⟩]=true:=by kernel_rfl
theorem tr_of_L2:callP (EB [(0,1073741824),(201,1073741824)]) 300 46 [.ptr 1 0,svA Ck.L2.at_ L0 Ck.L2.pl true (.slc 9 0 1)] (hR++shH 8 (vH false)) 11 (.tup [.ptr 174 0,.int .i64 0]) [⟨List.range 8,hR,8,[.ptr 1 0],[.ptr 1 0]⟩,⟨[0,9,10],vH false,3,[.slc 1 0 1],[.slc 9 0 1]⟩,⟨[0,1,174,173,159,147,462,461,367,366,352,340,460,458,337,336],Ck.L2.H,16,rS,[.ptr 1 0,.ptr 174 0]⟩]=true:=by kernel_rfl
end Go.Eng
namespace Go.Proofs.YthgnlfikneipiaaGreat
open Go.RowKit
def four (n:Nat):List UInt8:=[UInt8.ofNat (n / 16777216),UInt8.ofNat (n / 65536),UInt8.ofNat (n / 256),UInt8.ofNat n]
theorem four_len (n:Nat):(four n).length=4:=rfl
end Go.Proofs.YthgnlfikneipiaaGreat
namespace Go.Proofs.YthgnlfikneipiaaGreat
def nb (n:Nat):Nat:=if h:n=0 then 0 else nb (n / 256)+1
decreasing_by omega
theorem nb_zero:nb 0=0:=by unfold nb;simp
theorem nb_pos (n:Nat) (h:n≠0):nb n=nb (n / 256)+1:=by rw [nb];simp [h]
theorem nb_lt:∀ (k n:Nat),k < nb n↔0 < n / 256 ^ k
 | 0,n=>by
  by_cases h:n=0
  ·subst h;simp [nb_zero]
  ·rw [nb_pos n h];simp;omega
 | k+1,n=>by
  have e:n / 256 ^ (k+1)=n / 256 / 256 ^ k:=by rw [Nat.pow_succ',Nat.div_div_eq_div_mul]
  by_cases h:n=0
  ·subst h;simp [nb_zero]
  ·rw [nb_pos n h,e,← nb_lt k (n / 256)];omega
theorem nb_le8 (n:Nat) (h:n < 18446744073709551616):nb n≤8:=by
 rcases Nat.lt_or_ge 8 (nb n) with q|q
 ·have:=(nb_lt 8 n).1 q
  have e:(256:Nat) ^ 8=18446744073709551616:=by decide
  rw [e] at this
  have:=Nat.div_eq_of_lt h
  omega
 ·exact q
def beB:Nat→Nat→List UInt8
 | 0,_=>[]
 | k+1,n=>UInt8.ofNat (n / 256 ^ k)::beB k n
theorem beB_len:∀ k n,(beB k n).length=k
 | 0,_=>rfl
 | k+1,n=>by simp [beB,beB_len k n]
def encNum (n:Nat):List UInt8:=UInt8.ofNat (nb n)::beB (nb n) n
theorem encNum_len (n:Nat):(encNum n).length=1+nb n:=by simp [encNum,beB_len];omega
abbrev RSt:=Nat×Nat
end Go.Proofs.YthgnlfikneipiaaGreat
namespace Go.Proofs.YthgnlfikneipiaaGreat
open Go.RowKit
theorem same_ext {α:Type} [Inhabited α] {l m:List α} (h:l.length=m.length) (he:∀ j,j < l.length→nth l j=nth m j):l=m:=by
 apply List.ext_getElem h
 intro i h1 h2
 have:=he i h1
 rwa [nth_get l i h1,nth_get m i h2] at this
def within (n lo hi:Int):Int:=lo+n % (hi-lo+1)
theorem within_in (n lo hi:Int) (h:lo≤hi):lo≤within n lo hi∧within n lo hi≤hi:=by
 unfold within
 have h1:=Int.emod_nonneg n (show hi-lo+1≠0 by omega)
 have h2:=Int.emod_lt_of_pos n (show 0 < hi-lo+1 by omega)
 omega
theorem within_neg (n d:Int) (hd:0 < d) (h:n.tmod d < 0):n.tmod d+d=n % d:=by
 have h1:=Int.tmod_eq_emod (a:=n) (b:=d)
 have h2:=Int.emod_nonneg n (show d≠0 by omega)
 split at h1<;>omega
theorem within_pos (n d:Int) (hd:0 < d) (h:0≤n.tmod d):n.tmod d=n % d:=by
 have h1:=Int.tmod_eq_emod (a:=n) (b:=d)
 have h2:=Int.emod_lt_of_pos n (show 0 < d by omega)
 split at h1
 ·omega
 ·have:(d.natAbs:Int)=d:=by omega
  omega
theorem tmod_bd (n d:Int) (hd:0 < d):n.tmod d≤d-1 ∧ -(d-1)≤n.tmod d:=by
 have h1:=Int.tmod_eq_emod (a:=n) (b:=d)
 have h2:=Int.emod_lt_of_pos n (show 0 < d by omega)
 have h3:=Int.emod_nonneg n (show d≠0 by omega)
 have h4:(d.natAbs:Int)=d:=by omega
 split at h1
 ·omega
 ·rename_i hc
  have h5:¬ d ∣ n:=fun q=>hc (.inr q)
  have h6:n % d≠0:=fun q=>h5 (Int.dvd_of_emod_eq_zero q)
  omega
theorem bv_one (x:UInt8):(bv x).oneCell'=true:=rfl
end Go.Proofs.YthgnlfikneipiaaGreat
namespace Go.Proofs.YthgnlfikneipiaaGreat
open Go.RowKit
set_option maxHeartbeats 400000 in
theorem within_any (n lo hi:Int) (w:World) (hn : -9223372036854775808≤n∧n≤9223372036854775807) (h:lo≤hi) (hl:0≤lo) (hh:hi≤4611686018427387904) :
  Calls Tryz.prog 7 #[.int .i64 n,.int .i64 lo,.int .i64 hi] w fun e w'=>e = .returned (.int .i64 (within n lo hi))∧w=w':=by
 have hp:0 < hi-lo+1:=by omega
 obtain ⟨b2,b3⟩:=tmod_bd n (hi-lo+1) hp
 have hz:((hi-lo+1)==0)=false:=by rw [beq_eq_false_iff_ne];omega
 obtain ⟨hn1,hn2⟩:=hn
 by_cases hs:n.tmod (hi-lo+1) < 0
 ·have HF:Hid (lo+(n.tmod (hi-lo+1)+hi-lo+1)=within n lo hi):=by
   unfold Hid within;rw [← within_neg n (hi-lo+1) hp hs];omega
  go_enter Tryz.func7,Tryz.ntmps7
  go_wp2
  go_ret
  exact ⟨congrArg (fun n=>Ending.returned (.int .i64 n)) HF.out,rfl⟩
 ·have HF:Hid (lo+n.tmod (hi-lo+1)=within n lo hi):=by
   unfold Hid within;rw [← within_pos n (hi-lo+1) hp (by omega)]
  go_enter Tryz.func7,Tryz.ntmps7
  go_wp2
  go_ret
  exact ⟨congrArg (fun n=>Ending.returned (.int .i64 n)) HF.out,rfl⟩
end Go.Proofs.YthgnlfikneipiaaGreat
namespace Go.Proofs.YthgnlfikneipiaaGreat
open Go.RowKit
theorem infoByte:(Tryz.prog.info? 5).map (fun i=>(i.zero,i.size,i.bytes))=some (some (.int .u8 0),1,1):=by kernel_rfl
theorem sizeByte:(Tryz.prog.info? 5).map (·.size)=some 1:=by kernel_rfl
end Go.Proofs.YthgnlfikneipiaaGreat
namespace Go.Proofs.YthgnlfikneipiaaGreat
open Go.RowKit
theorem Own.set_ {α:Type} {c:α→Value} {base:Nat} {e:TypeId} {w:World} {g n cap:Nat} {l:List α} (h:Own c base e w (.slice (some ⟨g,0,none⟩) n cap) l) (k:Nat) (hk:k < l.length) (y:α) :
  Own c base e (w.setCell ⟨g,k,none⟩ (c y)) (.slice (some ⟨g,0,none⟩) n cap) (l.set k y):=by
 obtain ⟨h1,h2⟩:=h
 rcases h2 with ⟨he,_⟩|⟨g',cap',cur,he,hb,hg,hc,hm,hs,ht⟩
 ·simp at he
 ·injection he with e1 e2 e3
  injection e1 with e1;injection e1 with e1
  subst e1;subst e2;subst e3
  refine ⟨by simp,.inr ⟨g,cap,cur.setIfInBounds k (c y),by simp,hb,?_,by simpa using hc,hm,by simpa using hs,?_⟩⟩
  ·exact heap_setCell_same w g k cur e (c y) hg
  ·rw [List.length_set,Array.toList_setIfInBounds,List.take_set,ht,List.map_set]
theorem Own.cell {α:Type} [Inhabited α] {c:α→Value} {base:Nat} {e:TypeId} {w:World} {g n cap:Nat} {l:List α} (h:Own c base e w (.slice (some ⟨g,0,none⟩) n cap) l) (k:Nat) (hk:k < l.length):w.cell? ⟨g,k,none⟩=some (c (nth l k)):=by
 obtain ⟨a',cap',he,_,_,h3⟩:=h.rd
 injection he with e1 e2 e3
 obtain ⟨b,off,hb,hc⟩:=h3 (fun q=>by rw [q] at hk;simp at hk)
 rw [← e1] at hb;injection hb with hb;injection hb with hb1 hb2
 subst hb1;subst hb2
 have:=hc k hk
 rwa [Nat.zero_add] at this
theorem Own.frozen {α:Type} [Inhabited α] {c:α→Value} {base:Nat} {e:TypeId} {w:World} {g n cap:Nat} {l:List α} (h:Own c base e w (.slice (some ⟨g,0,none⟩) n cap) l) (k:Nat):w.frozen? ⟨g,k,none⟩=false:=by
 obtain ⟨h1,h2⟩:=h
 rcases h2 with ⟨he,_⟩|⟨g',cap',cur,he,hb,hg,hc,hm,hs,ht⟩
 ·simp at he
 ·injection he with e1 e2 e3
  injection e1 with e1;injection e1 with e1
  subst e1
  exact frozen_of_row w g k cur e hg
end Go.Proofs.YthgnlfikneipiaaGreat
namespace Go.Proofs.YthgnlfikneipiaaGreat
open Go.RowKit
theorem Own.lit {α:Type} {c:α→Value} {w:World} {base:Nat} (l:List α) {C:Array Value} {e:TypeId} {g n k:Nat} (hb:base≤w.heap.size) (hg:g=w.heap.size) (hC:C=(l.map c).toArray) (hn:n=l.length) (hk:k=n) (hm:k≤maxLen) :
  Own c base e (w.alloc (.cells C e)) (.slice (some ⟨g,0,none⟩) n k) l:=by
 subst hg;subst hC;subst hn;subst hk
 exact ⟨by simp,.inr ⟨_,_,_,rfl,hb,heap_alloc_new w _,Nat.le_refl _,hm,by simp,by simp [List.take_of_length_le]⟩⟩
theorem Own.room {α:Type} {c:α→Value} {w:World} {base:Nat} {C:Array Value} {e:TypeId} {g k:Nat} (hb:base≤w.heap.size) (hg:g=w.heap.size) (hC:C.size=k) (hm:k≤maxLen) :
  Own c base e (w.alloc (.cells C e)) (.slice (some ⟨g,0,none⟩) 0 k) ([]:List α):=by
 subst hg
 exact World.ownsRow_made w C k hb hm (by omega)
end Go.Proofs.YthgnlfikneipiaaGreat
namespace Go.Proofs.YthgnlfikneipiaaGreat
open Go.RowKit
set_option maxHeartbeats 1000000 in
theorem fMore_any (v:Value) (l:List UInt8) (r:Nat) (R:Int) (hR:R=(r:Int)) (w:World) (h:Bytes w v l) (hz:l.length≤100000000000) (hr:r≤100000000000) :
  Calls Tryz.prog 182 #[v,.int .i64 R] w fun e w'=>∃ x,e = .returned x∧Own bv w.heap.size 5 w' x l∧Upd [] w w':=by
 subst hR
 have H:=Lib.hid h
 obtain ⟨a,cap,rfl,-,-,-⟩:=h
 have hmk:=fun u=>run_mk (P:=Tryz.prog) Tryz.underlying33 infoByte rfl u 0 (l.length+r) 0 ((l.length:Int)+r) (by omega) (by omega) (by omega) (by omega) (by omega)
 go_enter Tryz.func182,Tryz.ntmps182
 go_wp2_with (at_builtin;refine wpList_app bv_one rfl (.tmp 11) (.tmp 12) rfl Tryz.underlying33 infoByte rfl (.slice (some ⟨w.heap.size,0,none⟩) 0 (l.length+r)) (.slice a l.length cap) [] l rfl rfl (Own.room (base:=w.heap.size) (Nat.le_refl _) rfl (by simp) (by unfold maxLen;omega)) (H.out.alloc _) (by simp;omega) (by unfold maxLen;simp;omega) (by simp) ?_;intro v1 w1 ho hu hbk;rw [List.nil_append] at ho;have HU:Hid (Upd [] w w1):=((Upd.refl [] w).alloc _).trans hu (by simp) (by simp [blk]);have HO:=Lib.hid ho;clear ho hu hbk)
 go_ret
 exact ⟨_,rfl,HO.out,HU.out⟩
theorem pow256 (k:Nat):(256:Nat) ^ k=2 ^ (8*k):=by rw [Nat.pow_mul]
theorem shr_pos (m k:Nat) (h:k < nb m):(0:Int) < (m:Int) / 2 ^ (8*k):=by
 have h1:=(nb_lt k m).1 h
 rw [pow256] at h1
 have:((m / 2 ^ (8*k):Nat):Int)=(m:Int) / 2 ^ (8*k):=by rw [Int.natCast_ediv,Int.natCast_pow];rfl
 omega
theorem shr_zero (m k:Nat) (h:¬ k < nb m):(m:Int) / 2 ^ (8*k)=0:=by
 have h1:¬ 0 < m / 256 ^ k:=fun q=>h ((nb_lt k m).2 q)
 rw [pow256] at h1
 have:((m / 2 ^ (8*k):Nat):Int)=(m:Int) / 2 ^ (8*k):=by rw [Int.natCast_ediv,Int.natCast_pow];rfl
 rw [← this,Nat.eq_zero_of_not_pos h1];rfl
theorem byte_at (m k:Nat):Value.int .u8 ((m:Int) / 2 ^ (8*k) % 256)=bv (UInt8.ofNat (m / 256 ^ k)):=by
 have:((m / 2 ^ (8*k):Nat):Int)=(m:Int) / 2 ^ (8*k):=by rw [Int.natCast_ediv,Int.natCast_pow];rfl
 rw [← this,bv,UInt8.toNat_ofNat',pow256];rfl
theorem byte_small (k:Nat) (h:k < 256):bv (UInt8.ofNat k)=Value.int .u8 (k:Int):=by
 rw [bv,UInt8.toNat_ofNat',Nat.mod_eq_of_lt h]
set_option maxHeartbeats 4000000 in
theorem fNumN_any (v:Value) (l:List UInt8) (m:Nat) (w:World) (h:Bytes w v l) (hz:l.length≤90000000000) (hm:m < 9223372036854775808) :
  Calls Tryz.prog 123 #[v,.int .i64 (m:Int)] w fun e w'=>∃ x,e = .returned x∧Own bv w.heap.size 5 w' x (l++encNum m)∧Upd [] w w':=by
 have H:=Lib.hid h
 have h8:=nb_le8 m (by omega)
 obtain ⟨a,cap,rfl,-,-,-⟩:=h
 go_enter Tryz.func123,Tryz.ntmps123
 go_wp2_with fail
 with_reducible refine (fMore_any _ l 9 9 rfl _ H.out (by omega) (by omega)).mono ?_
 rintro e w1 ⟨v1,rfl,ho1,hu1⟩
 have HO1:=Lib.hid ho1
 have HU1:=Lib.hid hu1
 clear ho1 hu1
 go_wp2_with fail
 go_loop [7] (fun i=>∃ k:Nat,i = .int .i64 (k:Int)∧k≤nb m) (fun i=>8-(intOf i).toNat)
 case atStart=>exact ⟨0,rfl,Nat.zero_le _⟩
 case round =>
  obtain ⟨k,rfl,hk⟩:=hrel
  by_cases hlt:k < nb m
  ·have hk8:k < 8:=by omega
   have hsh:=shr_pos m k hlt
   go_wp2_with fail
   go_round
   case rel=>exact ⟨k+1,by go_num,by omega⟩
   case measure=>simp [intOf];omega
  ·have hkm:nb m=k:=by omega
   have hk8:k≤8:=by omega
   have hsh:=shr_zero m k hlt
   by_cases hq:k < 8
   ·have hq2:(k:Int) < 8:=by omega
    have hkb:k < 256:=by omega
    have HLIT:=Lib.hid (Rd.lit (w:=w1) (c:=bv) [UInt8.ofNat k] (C:=#[.int .u8 (k:Int)]) (e:=5) (fr:=(0,0)) (g:=w1.heap.size) (n:=1) (k:=1) rfl (by rw [List.map_singleton,byte_small k hkb]) rfl (Nat.le_refl _) (by decide))
    have HEN:Hid (l++encNum m=(l++[UInt8.ofNat k])++beB k m):=by unfold Hid encNum;rw [hkm];simp
    have hs1:=HU1.out.size
    have HKM:=Lib.hid hkm
    clear hkm hlt
    go_wp2_with (at_builtin;refine wpList_app bv_one rfl (.tmp 26) (.tmp 29) rfl Tryz.underlying33 infoByte rfl v1 (.slice (some ⟨w1.heap.size,0,none⟩) 1 1) l [UInt8.ofNat k] rfl rfl (HO1.out.upd ((Upd.refl [] w1).alloc _) (by simp)) HLIT.out (by simp;omega) (by unfold maxLen;simp;omega) (by simp;omega) ?_;intro v2 w2 ho hu hbk;have HU2:Hid (Upd [] w w2):=(HU1.out.alloc _).trans hu (by simp) (fun x hx => .inr (HO1.out.ge x hx).1);have HO2:=Lib.hid ho;clear ho hu hbk)
    go_loopw [5,8] (fun b i wr=>∃ (r:Nat) (c:List UInt8),i = .int .i64 ((r:Int)-1)∧r≤k∧c.length+r=l.length+1+k∧Hid (Own bv w.heap.size 5 wr b c)∧Hid (Upd [] w wr)∧Hid (c++beB r m=l++encNum m)) (fun _ i _=>(intOf i+1).toNat)
    case atStart=>exact ⟨k,l++[UInt8.ofNat k],by go_num,Nat.le_refl _,by simp,HO2,HU2,HEN.out.symm⟩
    case round =>
     obtain ⟨r,c,rfl,hr,hcl,hob,hu,hen⟩:=hrel
     cases r with
     | zero =>
      have HR:Hid (c=l++encNum m):=by have:=hen.out;unfold Hid;rw [beB,List.append_nil] at this;exact this
      go_wp2_with fail
      go_ret
      exact ⟨_,rfl,by rw [← HR.out];exact hob.out,hu.out⟩
     | succ r =>
      have q1:((r+1:Nat):Int)-1=(r:Int):=by omega
      rw [q1]
      clear q1
      have hr8:r≤8:=by omega
      have HEN2:Hid ((c++[UInt8.ofNat (m / 256 ^ r)])++beB r m=l++encNum m):=by have:=hen.out;unfold Hid;rw [beB] at this;rw [← this];simp
      have HLIT2:=Lib.hid (Rd.lit (w:=wr) (c:=bv) [UInt8.ofNat (m / 256 ^ r)] (C:=#[.int .u8 ((m:Int) / 2 ^ (8*r) % 256)]) (e:=5) (fr:=(0,0)) (g:=wr.heap.size) (n:=1) (k:=1) rfl (by rw [List.map_singleton,byte_at]) rfl (Nat.le_refl _) (by decide))
      have hs2:=hu.out.size
      generalize UInt8.ofNat (m / 256 ^ r)=y at *
      obtain ⟨ab,cb,rfl,-⟩:=hob.out.rd
      go_wp2_with (at_builtin;refine wpList_app bv_one rfl (.tmp 37) (.tmp 44) rfl Tryz.underlying33 infoByte rfl (.slice ab c.length cb) (.slice (some ⟨wr.heap.size,0,none⟩) 1 1) c [y] rfl rfl (hob.out.upd ((Upd.refl [] wr).alloc _) (by simp)) HLIT2.out (by simp;omega) (by unfold maxLen;simp;omega) (by simp;omega) ?_;intro v4 w4 ho hu4 hbk;have HU4:Hid (Upd [] w w4):=(hu.out.alloc _).trans hu4 (by simp) (fun x hx => .inr (hob.out.ge x hx).1);have HO4:=Lib.hid ho;clear ho hu4 hbk)
      go_roundw
      case rel=>exact ⟨r,c++[y],by go_num,by omega,by simp;omega,HO4,HU4,HEN2⟩
      case measure=>simp [intOf];try omega
   ·have hq2:¬ (k:Int) < 8:=by omega
    have hkb:k < 256:=by omega
    have HLIT:=Lib.hid (Rd.lit (w:=w1) (c:=bv) [UInt8.ofNat k] (C:=#[.int .u8 (k:Int)]) (e:=5) (fr:=(0,0)) (g:=w1.heap.size) (n:=1) (k:=1) rfl (by rw [List.map_singleton,byte_small k hkb]) rfl (Nat.le_refl _) (by decide))
    have HEN:Hid (l++encNum m=(l++[UInt8.ofNat k])++beB k m):=by unfold Hid encNum;rw [hkm];simp
    have hs1:=HU1.out.size
    have HKM:=Lib.hid hkm
    clear hkm hlt
    go_wp2_with (at_builtin;refine wpList_app bv_one rfl (.tmp 26) (.tmp 29) rfl Tryz.underlying33 infoByte rfl v1 (.slice (some ⟨w1.heap.size,0,none⟩) 1 1) l [UInt8.ofNat k] rfl rfl (HO1.out.upd ((Upd.refl [] w1).alloc _) (by simp)) HLIT.out (by simp;omega) (by unfold maxLen;simp;omega) (by simp;omega) ?_;intro v2 w2 ho hu hbk;have HU2:Hid (Upd [] w w2):=(HU1.out.alloc _).trans hu (by simp) (fun x hx => .inr (HO1.out.ge x hx).1);have HO2:=Lib.hid ho;clear ho hu hbk)
    go_loopw [5,8] (fun b i wr=>∃ (r:Nat) (c:List UInt8),i = .int .i64 ((r:Int)-1)∧r≤k∧c.length+r=l.length+1+k∧Hid (Own bv w.heap.size 5 wr b c)∧Hid (Upd [] w wr)∧Hid (c++beB r m=l++encNum m)) (fun _ i _=>(intOf i+1).toNat)
    case atStart=>exact ⟨k,l++[UInt8.ofNat k],by go_num,Nat.le_refl _,by simp,HO2,HU2,HEN.out.symm⟩
    case round =>
     obtain ⟨r,c,rfl,hr,hcl,hob,hu,hen⟩:=hrel
     cases r with
     | zero =>
      have HR:Hid (c=l++encNum m):=by have:=hen.out;unfold Hid;rw [beB,List.append_nil] at this;exact this
      go_wp2_with fail
      go_ret
      exact ⟨_,rfl,by rw [← HR.out];exact hob.out,hu.out⟩
     | succ r =>
      have q1:((r+1:Nat):Int)-1=(r:Int):=by omega
      rw [q1]
      clear q1
      have hr8:r≤8:=by omega
      have HEN2:Hid ((c++[UInt8.ofNat (m / 256 ^ r)])++beB r m=l++encNum m):=by have:=hen.out;unfold Hid;rw [beB] at this;rw [← this];simp
      have HLIT2:=Lib.hid (Rd.lit (w:=wr) (c:=bv) [UInt8.ofNat (m / 256 ^ r)] (C:=#[.int .u8 ((m:Int) / 2 ^ (8*r) % 256)]) (e:=5) (fr:=(0,0)) (g:=wr.heap.size) (n:=1) (k:=1) rfl (by rw [List.map_singleton,byte_at]) rfl (Nat.le_refl _) (by decide))
      have hs2:=hu.out.size
      generalize UInt8.ofNat (m / 256 ^ r)=y at *
      obtain ⟨ab,cb,rfl,-⟩:=hob.out.rd
      go_wp2_with (at_builtin;refine wpList_app bv_one rfl (.tmp 37) (.tmp 44) rfl Tryz.underlying33 infoByte rfl (.slice ab c.length cb) (.slice (some ⟨wr.heap.size,0,none⟩) 1 1) c [y] rfl rfl (hob.out.upd ((Upd.refl [] wr).alloc _) (by simp)) HLIT2.out (by simp;omega) (by unfold maxLen;simp;omega) (by simp;omega) ?_;intro v4 w4 ho hu4 hbk;have HU4:Hid (Upd [] w w4):=(hu.out.alloc _).trans hu4 (by simp) (fun x hx => .inr (hob.out.ge x hx).1);have HO4:=Lib.hid ho;clear ho hu4 hbk)
      go_roundw
      case rel=>exact ⟨r,c++[y],by go_num,by omega,by simp;omega,HO4,HU4,HEN2⟩
      case measure=>simp [intOf];try omega
theorem enc_zero:encNum 0=[0]:=by unfold encNum;rw [nb_zero];rfl
set_option maxHeartbeats 4000000 in
theorem fNumNeg_any (v:Value) (l:List UInt8) (M:Int) (w:World) (h:Bytes w v l) (hz:l.length≤90000000000) (hM:M < 0) (hM1 : -9223372036854775808≤M) :
  Calls Tryz.prog 123 #[v,.int .i64 M] w fun e w'=>∃ x,e = .returned x∧Own bv w.heap.size 5 w' x (l++encNum 0)∧Upd [] w w':=by
 have H:=Lib.hid h
 obtain ⟨a,cap,rfl,-,-,-⟩:=h
 go_enter Tryz.func123,Tryz.ntmps123
 go_wp2_with fail
 with_reducible refine (fMore_any _ l 9 9 rfl _ H.out (by omega) (by omega)).mono ?_
 rintro e w1 ⟨v1,rfl,ho1,hu1⟩
 have HO1:=Lib.hid ho1
 have HU1:=Lib.hid hu1
 have hs1:=HU1.out.size
 clear ho1 hu1
 go_wp2_with fail
 go_loop [7] (fun i=>i = .int .i64 0) (fun _=>0)
 case atStart=>rfl
 case round =>
  subst hrel
  have HLIT:=Lib.hid (Rd.lit (w:=w1) (c:=bv) [(0:UInt8)] (C:=#[.int .u8 0]) (e:=5) (fr:=(0,0)) (g:=w1.heap.size) (n:=1) (k:=1) rfl rfl rfl (Nat.le_refl _) (by decide))
  go_wp2_with (at_builtin;refine wpList_app bv_one rfl (.tmp 26) (.tmp 29) rfl Tryz.underlying33 infoByte rfl v1 (.slice (some ⟨w1.heap.size,0,none⟩) 1 1) l [(0:UInt8)] rfl rfl (HO1.out.upd ((Upd.refl [] w1).alloc _) (by simp)) HLIT.out (by simp;omega) (by unfold maxLen;simp;omega) (by simp;omega) ?_;intro v2 w2 ho hu hbk;have HU2:Hid (Upd [] w w2):=(HU1.out.alloc _).trans hu (by simp) (fun x hx => .inr (HO1.out.ge x hx).1);have HO2:=Lib.hid ho;clear ho hu hbk)
  go_loop [5,8] (fun b i=>b=v2∧i = .int .i64 (-1)) (fun _ _=>0)
  case atStart=>exact ⟨rfl,rfl⟩
  case round =>
   obtain ⟨rfl,rfl⟩:=hrel
   go_wp2_with fail
   go_ret
   exact ⟨_,rfl,by rw [enc_zero];exact HO2.out,HU2.out⟩
theorem fNum_any (v:Value) (l:List UInt8) (M:Int) (w:World) (h:Bytes w v l) (hz:l.length≤90000000000) (hM:I64 M) :
  Calls Tryz.prog 123 #[v,.int .i64 M] w fun e w'=>∃ x,e = .returned x∧Own bv w.heap.size 5 w' x (l++encNum M.toNat)∧Upd [] w w':=by
 obtain ⟨h1,h2⟩:=hM
 by_cases hn:M < 0
 ·have:M.toNat=0:=by omega
  rw [this];exact fNumNeg_any v l M w h hz hn h1
 ·obtain ⟨m,rfl⟩:=Int.eq_ofNat_of_zero_le (show 0≤M by omega)
  exact fNumN_any v l m w h hz (by omega)
end Go.Proofs.YthgnlfikneipiaaGreat
namespace Go.Proofs.YthgnlfikneipiaaGreat
open Go.RowKit
theorem bytesLoop_eq (s:ByteArray):∀ (n i:Nat) (r:List UInt8),s.size-i=n→ByteArray.toList.loop s i r=r.reverse++s.data.toList.drop i:=by
 intro n
 induction n with
 | zero =>
  intro i r h
  unfold ByteArray.toList.loop
  have hs:s.data.size=s.size:=rfl
  rw [if_neg (by omega),List.drop_eq_nil_of_le (by simp;omega)];simp
 | succ n ih =>
  intro i r h
  unfold ByteArray.toList.loop
  have hs:s.data.size=s.size:=rfl
  have hi:i < s.data.toList.length:=by simp;omega
  rw [if_pos (by omega),ih (i+1) _ (by omega),List.drop_eq_getElem_cons hi]
  have hd:i < s.data.size:=by omega
  simp [ByteArray.get!]
  exact getElem!_pos s.data i hd
theorem strList_eq (s:ByteArray):s.toList=s.data.toList:=by
 unfold ByteArray.toList;rw [bytesLoop_eq s s.size 0 [] rfl];simp
theorem str_inj (s t:ByteArray) (h:s.toList=t.toList):s=t:=by
 rw [strList_eq,strList_eq] at h
 cases s;cases t;congr 1;exact Array.toList_inj.1 h
abbrev sv (s:ByteArray):Value := .string s
end Go.Proofs.YthgnlfikneipiaaGreat
namespace Go.Proofs.YthgnlfikneipiaaGreat
open Go.RowKit Go.Lib
theorem strCells_eq (s:ByteArray):strCells s=s.data.toList.map bv:=by simp [strCells,bv]
theorem wpList_app_str {P:Program} {ops:Array Oper} {rest:List Oper} {o:Oper} {a:Act} {w:World} {Q:Exit→Act→World→Prop}
  (hgd:o.guard=none) (s x:Operand) {t ts e:TypeId} (ho:o.op = .call { callee := .builtin .append,args:=#[s,x],argTypes:=#[t,ts] })
  {base:Nat} (ht:P.underlying t=some (.slice e)) (hts:P.underlying ts=some .string) (hi:(P.info? e).map (fun i=>(i.zero,i.size,i.bytes))=some (some (.int .u8 0),1,1))
  (v:Value) (S:ByteArray) (l:List UInt8) (hs:a.eval s=v) (hx:a.eval x = .string S) (hv:Own bv base e w v l) (hb:l.length+S.size≤140737488355328) (hl:l.length+S.size≤maxLen) (hbase:base≤w.heap.size)
  (h:∀ v' w',Own bv base e w' v' (l++S.data.toList)→Upd (blk v) w w'→wpList P ops Q rest (a.put o.dst v') w'):wpList P ops Q (o::rest) a w:=by
 obtain ⟨i,h1,h2,h3,h4⟩:=info_parts hi
 obtain ⟨v',w',hr,k1,k2,_⟩:=run_append_own_string (P:=P) w base t ts o.type e i ht hts h1 h2 h3 h4 v l.length (l.map bv) hv S hl hb hbase
 have hown:Own bv base e w' v' (l++S.data.toList):=by
  unfold Own
  have hz:S.data.toList.length=S.size:=by simp
  rw [List.length_append,List.map_append,hz,← strCells_eq];exact k1
 refine wpList_plain hgd fun K hK=>?_
 unfold Oper.wp execOp
 simp only [ho,resolve,invoke,builtin,Sem.run_bind,Sem.run_pure,Result.andThen_ok,List.map_toArray,List.map_cons,List.map_nil,hs,hx,hr]
 exact hK _ _ (h v' w' hown (by rw [blk_own];exact Upd.of_grown k2))
end Go.Proofs.YthgnlfikneipiaaGreat
namespace Go.Proofs.YthgnlfikneipiaaGreat
open Go.RowKit
theorem i64_mk {x:Int} (h : -9223372036854775808≤x) (h2:x≤9223372036854775807):I64 x:=⟨h,h2⟩
def encText (s:ByteArray):List UInt8:=encNum s.size++s.data.toList
set_option maxHeartbeats 1000000 in
theorem fText_any (v:Value) (l:List UInt8) (S:ByteArray) (w:World) (h:Bytes w v l) (hz:l.length≤80000000000) (hs:S.size≤10000000000) :
  Calls Tryz.prog 121 #[v,.string S] w fun e w'=>∃ x,e = .returned x∧Own bv w.heap.size 5 w' x (l++encText S)∧Upd [] w w':=by
 have H:=Lib.hid h
 have h8:=nb_le8 S.size (by omega)
 have hel:=encNum_len S.size
 have HE:Hid (l++encText S=(l++encNum S.size)++S.data.toList):=by unfold Hid encText;rw [List.append_assoc]
 go_enter Tryz.func121,Tryz.ntmps121
 go_wp2_with fail
 with_reducible refine (fMore_any _ l (9+S.size) (9+(S.size:Int)) (by omega) _ H.out (by omega) (by omega)).mono ?_
 rintro e w1 ⟨v1,rfl,ho1,hu1⟩
 have HO1:=Lib.hid ho1
 have HU1:=Lib.hid hu1
 clear ho1 hu1
 go_wp2_with fail
 with_reducible refine (fNum_any _ l (S.size:Int) _ HO1.out.rd (by omega) (i64_mk (by omega) (by omega))).mono ?_
 rintro e w2 ⟨v2,rfl,ho2,hu2⟩
 have HO2:=Lib.hid (ho2.base_le HU1.out.size)
 have HU2:=Lib.hid (HU1.out.seq hu2)
 have hs2:=HU2.out.size
 clear ho2 hu2
 rw [Int.toNat_natCast] at HO2
 have hl2:(l++encNum S.size).length=l.length+(1+nb S.size):=by rw [List.length_append,hel]
 generalize l++encNum S.size=l2 at *
 go_wp2_with (at_builtin;refine wpList_app_str rfl (.tmp 14) (.tmp 15) rfl Tryz.underlying33 Tryz.underlying9 infoByte v2 S l2 rfl rfl HO2.out (by omega) (by unfold maxLen;omega) hs2 ?_;intro v3 w3 ho hu;have HU3:Hid (Upd [] w w3):=HU2.out.trans hu (by simp) (fun x hx => .inr (HO2.out.ge x hx).1);have HO3:=Lib.hid ho;clear ho hu)
 go_ret
 exact ⟨_,rfl,by rw [HE.out];exact HO3.out,HU3.out⟩
end Go.Proofs.YthgnlfikneipiaaGreat
namespace Go.Proofs.YthgnlfikneipiaaGreat
open Go.RowKit
def strOf (l:List UInt8):ByteArray:=⟨l.toArray⟩
theorem convb_str {P:Program} {src dst e:TypeId} (hs:P.underlying src=some (.slice e)) (he:P.underlying e=some (.int .u8)) (hd:P.underlying dst=some .string) (w:World) (v:Value) (l:List UInt8) (h:Bytes w v l) :
  (convert src dst v).run P w = .ok (.string (strOf l)) w:=by
 obtain ⟨a,cap,rfl,h1,h2,h3⟩:=h
 by_cases hne:l=[]
 ·subst hne
  cases a with
  | none=>rw [run_convert_bytes_string w src dst e _ _ _ hs he hd];simp [Conv.bytesToString];rfl
  | some a=>exact run_convert_bytes_back w src dst e a cap [] hs he hd (fun j hj=>absurd hj (by simp))
 ·obtain ⟨b,off,rfl,hc⟩:=h3 hne
  exact run_convert_bytes_back w src dst e _ cap l hs he hd (fun j hj=>by rw [add_none,hc j hj,nth_get l j hj])
end Go.Proofs.YthgnlfikneipiaaGreat
namespace Go.Proofs.YthgnlfikneipiaaGreat
open Go.RowKit
abbrev C10:={l:List Int // l.length=10}
def c10z:C10:=⟨[0,0,0,0,0,0,0,0,0,0],rfl⟩
structure Key where
 ino:Int
 gen:Int
 at_:Int
 rule:ByteArray
structure Rec where
 key:Key
 kind:Int
 caps:C10
theorem Key.ext' {a b:Key} (h1:a.ino=b.ino) (h2:a.gen=b.gen) (h3:a.at_=b.at_) (h4:a.rule=b.rule):a=b:=by
 obtain ⟨a1,a2,a3,a4⟩:=a
 obtain ⟨b1,b2,b3,b4⟩:=b
 dsimp only at h1 h2 h3 h4
 rw [h1,h2,h3,h4]
instance:DecidableEq Key:=fun a b=>decidable_of_iff (a.ino=b.ino∧a.gen=b.gen∧a.at_=b.at_∧a.rule=b.rule) ⟨fun h=>Key.ext' h.1 h.2.1 h.2.2.1 h.2.2.2,fun h=>by rw [h];exact ⟨rfl,rfl,rfl,rfl⟩⟩
theorem Rec.ext' {a b:Rec} (h1:a.key=b.key) (h2:a.kind=b.kind) (h3:a.caps=b.caps):a=b:=by
 obtain ⟨a1,a2,a3⟩:=a
 obtain ⟨b1,b2,b3⟩:=b
 dsimp only at h1 h2 h3
 rw [h1,h2,h3]
instance:DecidableEq Rec:=fun a b=>decidable_of_iff (a.key=b.key∧a.kind=b.kind∧a.caps=b.caps) ⟨fun h=>Rec.ext' h.1 h.2.1 h.2.2,fun h=>by rw [h];exact ⟨rfl,rfl,rfl⟩⟩
def kz:Key:=⟨0,0,0,⟨#[]⟩⟩
def rz:Rec:=⟨kz,0,c10z⟩
instance:Inhabited Key:=⟨kz⟩
instance:Inhabited Rec:=⟨rz⟩
abbrev keyCells (k:Key):List Value:=[.int .i64 k.ino,.int .i64 k.gen,.int .i64 k.at_,.string k.rule]
abbrev recCells (r:Rec):List Value:=keyCells r.key ++ .int .i64 r.kind::r.caps.1.map iv
abbrev keyVal (k:Key):Value := .agg (keyCells k).toArray
abbrev recVal (r:Rec):Value := .agg (recCells r).toArray
theorem recCells_len (r:Rec):(recCells r).length=15:=by
 have:=r.caps.2
 simp [this]
theorem recCells_one:∀ x,∀ u∈recCells x,u.oneCell'=true:=by
 intro x u hu
 simp only [List.mem_append,List.mem_cons,List.not_mem_nil,or_false,List.mem_map] at hu
 rcases hu with (rfl|rfl|rfl|rfl)|rfl|⟨c,_,rfl⟩<;>rfl
theorem ten {l:List Int} (h:l.length=10):∃ c0 c1 c2 c3 c4 c5 c6 c7 c8 c9,l=[c0,c1,c2,c3,c4,c5,c6,c7,c8,c9]:=by
 match l,h with
 | [c0,c1,c2,c3,c4,c5,c6,c7,c8,c9],_=>exact ⟨c0,c1,c2,c3,c4,c5,c6,c7,c8,c9,rfl⟩
def ruleCh (c:UInt8):Bool:=decide ((97≤c.toNat∧c.toNat≤122)∨(65≤c.toNat∧c.toNat≤90)∨(48≤c.toNat∧c.toNat≤57)∨c.toNat=45∨c.toNat=95∨c.toNat=46)
def ruleOk (s:ByteArray):Bool:=decide (1≤s.size∧s.size≤32∧∀ j (h:j < s.size),ruleCh s[j]=true)
def capOk (c:Int):Bool:=decide (-1≤c∧c≤500)
def recOk (r:Rec):Bool :=
 decide (1≤r.key.ino∧r.key.ino≤12∧1≤r.key.gen∧r.key.gen≤1099511627776∧0≤r.key.at_∧r.key.at_≤1099511627776) &&
 (if r.kind=2 then decide (r.key.rule=⟨#[]⟩∧r.caps=c10z) else if r.kind=1 then r.caps.1.all capOk&&ruleOk r.key.rule else false)
def encCaps (l:List Int):List UInt8:=l.flatMap fun c=>encNum (c+1).toNat
def encRec (r:Rec):List UInt8:=encNum r.key.ino.toNat++encNum r.key.gen.toNat++encNum r.key.at_.toNat++encText r.key.rule++encNum r.kind.toNat++encCaps r.caps.1
theorem encCaps_cons (c:Int) (l:List Int):encCaps (c::l)=encNum (c+1).toNat++encCaps l:=rfl
theorem encCaps_app (l m:List Int):encCaps (l++m)=encCaps l++encCaps m:=by unfold encCaps;rw [List.flatMap_append]
structure RecIn (r:Rec):Prop where
 ino:1≤r.key.ino∧r.key.ino≤12
 gen:1≤r.key.gen∧r.key.gen≤1099511627776
 at_:0≤r.key.at_∧r.key.at_≤1099511627776
 kind:r.kind=1∨r.kind=2
 caps:∀ c∈r.caps.1,-1≤c∧c≤500
 rule:r.key.rule.size≤32
theorem recOk_in {r:Rec} (h:recOk r=true):RecIn r:=by
 unfold recOk at h
 rw [Bool.and_eq_true,decide_eq_true_eq] at h
 obtain ⟨⟨h1,h2,h3,h4,h5,h6⟩,h7⟩:=h
 split at h7
 ·rename_i hk
  obtain ⟨e1,e2⟩:=of_decide_eq_true h7
  refine ⟨⟨h1,h2⟩,⟨h3,h4⟩,⟨h5,h6⟩,.inr hk,fun c hc=>?_,by rw [e1];decide⟩
  rw [e2] at hc
  simp [c10z] at hc
  omega
 ·split at h7
  ·rename_i hk
   rw [Bool.and_eq_true] at h7
   obtain ⟨e1,e2⟩:=h7
   refine ⟨⟨h1,h2⟩,⟨h3,h4⟩,⟨h5,h6⟩,.inl hk,fun c hc=>?_,?_⟩
   ·exact of_decide_eq_true (List.all_eq_true.1 e1 c hc)
   ·exact (of_decide_eq_true e2).2.1
  ·exact absurd h7 (by simp)
theorem size_toList (s:ByteArray):s.data.toList.length=s.size:=by rw [Array.length_toList];rfl
theorem encRec_len {r:Rec} (h:recOk r=true):(encRec r).length≤200∧0 < (encRec r).length:=by
 have hi:=recOk_in h
 have hb:∀ n:Nat,n < 18446744073709551616→(encNum n).length≤9∧0 < (encNum n).length:=fun n hn=>by
  have:=nb_le8 n hn;rw [encNum_len];omega
 have hc:∀ l:List Int,(∀ c∈l,c≤500)→(encCaps l).length≤9*l.length:=by
  intro l
  induction l with
  | nil=>intro _;simp [encCaps]
  | cons c l ih =>
   intro hl
   have h1:=ih (fun x hx=>hl x (by simp [hx]))
   have h2:=hl c (by simp)
   have h3:=hb (c+1).toNat (by omega)
   rw [encCaps_cons,List.length_append,List.length_cons];omega
 have i1:=hi.ino
 have i2:=hi.gen
 have i3:=hi.at_
 have i4:=hi.rule
 have i5:=hi.kind
 have i6:=size_toList r.key.rule
 have b1:=hb r.key.ino.toNat (by omega)
 have b2:=hb r.key.gen.toNat (by omega)
 have b3:=hb r.key.at_.toNat (by omega)
 have b4:=hb r.key.rule.size (by omega)
 have b5:=hb r.kind.toNat (by omega)
 have b6:=hc r.caps.1 (fun c hc=>(hi.caps c hc).2)
 rw [r.caps.2] at b6
 unfold encRec encText
 simp only [List.length_append,i6]
 omega
end Go.Proofs.YthgnlfikneipiaaGreat
namespace Go.Proofs.YthgnlfikneipiaaGreat
open Go.RowKit
def RdN {α:Type} [Inhabited α] (sz:Nat) (c:α→List Value) (w:World) (v:Value) (l:List α):Prop :=
 ∃ a cap,v = .slice a l.length cap∧l.length≤cap∧cap≤maxLen ∧
  (l≠[]→∃ b off,a=some ⟨b,off,none⟩∧∀ j,j < l.length→∀ i,i < sz→w.cell? ⟨b,off+(j*sz+i),none⟩=(c (nth l j))[i]?)
theorem RdN.upd {α:Type} [Inhabited α] {sz:Nat} {c:α→List Value} {w w':World} {v:Value} {l:List α} (hsz:∀ x,(c x).length=sz) (h:RdN sz c w v l) {S:List Nat} (hu:Upd S w w') (hs:∀ x∈blk v,x∉S):RdN sz c w' v l:=by
 obtain ⟨a,cap,rfl,h1,h2,h3⟩:=h
 refine ⟨a,cap,rfl,h1,h2,fun hne=>?_⟩
 obtain ⟨b,off,rfl,hc⟩:=h3 hne
 refine ⟨b,off,rfl,fun j hj i hi=>?_⟩
 have hq:=hc j hj i hi
 have hlt:i < (c (nth l j)).length:=by rw [hsz];exact hi
 rw [List.getElem?_eq_getElem hlt] at hq ⊢
 exact hu.cell hq (hs b (by simp [blk]))
theorem RdN.upd0 {α:Type} [Inhabited α] {sz:Nat} {c:α→List Value} {w w':World} {v:Value} {l:List α} (hsz:∀ x,(c x).length=sz) (h:RdN sz c w v l) (hu:Upd [] w w'):RdN sz c w' v l:=h.upd hsz hu (by simp)
end Go.Proofs.YthgnlfikneipiaaGreat
namespace Go.Proofs.YthgnlfikneipiaaGreat
open Go.RowKit
theorem flatMap_get {α:Type} [Inhabited α] {sz:Nat} {c:α→List Value} (hsz:∀ x,(c x).length=sz):∀ (l:List α) (j i:Nat),j < l.length→i < sz→(l.flatMap c)[j*sz+i]?=(c (nth l j))[i]?
 | [],j,i,hj,hi=>by simp at hj
 | x::l,0,i,hj,hi=>by
  rw [List.flatMap_cons,Nat.zero_mul,Nat.zero_add,List.getElem?_append_left (by rw [hsz];exact hi),nth_cons_zero]
 | x::l,j+1,i,hj,hi=>by
  have hq:(j+1)*sz+i=sz+(j*sz+i):=by rw [Nat.add_mul];omega
  rw [List.flatMap_cons,hq,List.getElem?_append_right (by rw [hsz];omega),hsz,Nat.add_sub_cancel_left,nth_cons_succ]
  exact flatMap_get hsz l j i (by simpa using hj) hi
theorem flatMap_len {α:Type} {sz:Nat} {c:α→List Value} (hsz:∀ x,(c x).length=sz) (l:List α):(l.flatMap c).length=l.length*sz:=by
 induction l with
 | nil=>simp
 | cons x l ih=>rw [List.flatMap_cons,List.length_append,hsz,ih,List.length_cons,Nat.add_mul,Nat.one_mul];omega
def OwnN {α:Type} (sz:Nat) (c:α→List Value) (base:Nat) (e:TypeId) (w:World) (v:Value) (l:List α):Prop:=w.ownsRow base e sz v l.length (l.flatMap c)
theorem OwnN.rd {α:Type} [Inhabited α] {sz:Nat} {c:α→List Value} {base:Nat} {e:TypeId} {w:World} {v:Value} {l:List α} (hsz:∀ x,(c x).length=sz) (h:OwnN sz c base e w v l):RdN sz c w v l:=by
 obtain ⟨h1,h2⟩:=h
 rcases h2 with ⟨rfl,hn⟩|⟨g,cap,cur,rfl,hb,hg,hc,hm,hs,ht⟩
 ·exact ⟨none,0,by rw [hn],by omega,Nat.zero_le _,fun q=>absurd (List.eq_nil_of_length_eq_zero hn) q⟩
 ·refine ⟨_,cap,rfl,hc,hm,fun _=>⟨g,0,rfl,fun j hj i hi=>?_⟩⟩
  rw [cell_of_row w g (0+(j*sz+i)) cur e (0,0) hg,← flatMap_get hsz l j i hj hi,← ht,List.getElem?_take]
  have hlt:j*sz+i < l.length*sz:=by
   have:=Nat.mul_le_mul_right sz (show j+1≤l.length from hj)
   rw [Nat.add_mul] at this;omega
  simp [hlt]
theorem OwnN.upd {α:Type} {sz:Nat} {c:α→List Value} {base:Nat} {e:TypeId} {w w':World} {v:Value} {l:List α} (h:OwnN sz c base e w v l) {S:List Nat} (hu:Upd S w w') (hs:∀ x∈blk v,x∉S):OwnN sz c base e w' v l:=by
 obtain ⟨h1,h2⟩:=h
 refine ⟨h1,?_⟩
 rcases h2 with h2|⟨g,cap,cur,rfl,hb,hg,r⟩
 ·exact .inl h2
 ·exact .inr ⟨g,cap,cur,rfl,hb,hu.heap hg (hs g (by simp [blk])),r⟩
theorem OwnN.ge {α:Type} {sz:Nat} {c:α→List Value} {base:Nat} {e:TypeId} {w:World} {v:Value} {l:List α} (h:OwnN sz c base e w v l):∀ x∈blk v,base≤x∧x < w.heap.size:=by
 intro x hx
 rw [blk_own] at hx
 exact World.ownsRow.lt h x (by simpa using hx)
theorem OwnN.typ {α:Type} {sz:Nat} {c:α→List Value} {base:Nat} {e:TypeId} {w:World} {v:Value} {l:List α} (h:OwnN sz c base e w v l):∀ x∈blk v,∃ C f,w.heap[x]?=some (.cells C e f):=by
 intro x hx
 rcases h.2 with ⟨rfl,_⟩|⟨g,cap,cur,rfl,hb,hg,r⟩
 ·simp [blk] at hx
 ·simp [blk] at hx;subst hx;exact ⟨_,_,hg⟩
theorem OwnN.nil {α:Type} {sz:Nat} {c:α→List Value} (base:Nat) (e:TypeId) (w:World):OwnN sz c base e w (.slice none 0 0) ([]:List α):=World.ownsRow_nil _ _ _ _
theorem Blk.ne {w:World} {g:Nat} {e e':TypeId} {xs C:_} {f:Nat×Nat} (h:Blk w g e xs) (x:Nat) (k:w.heap[x]?=some (.cells C e' f)) (hne:e≠e'):g≠x:=by
 rintro rfl
 unfold Blk at h;rw [h] at k;simp at k;exact hne k.2.1
section
variable {P : Program} {ops : Array Oper} {rest : List Oper} {o : Oper} {a : Act} {w : World} {Q : Exit → Act → World → Prop}
theorem zeroCells_one {zc:Array Value} (h:∀ u∈zc,u.oneCell'=true) (n:Nat):∀ u∈(Builtin.zeroCells zc n).toList,u.oneCell'=true:=by
 intro u hu
 simp only [Builtin.zeroCells,Array.toList_map,List.mem_map] at hu
 obtain ⟨i,hi,rfl⟩:=hu
 have hi':i < n*zc.size:=by simpa using hi
 have hpos:0 < zc.size:=by
  rcases Nat.eq_zero_or_pos zc.size with h0|h0
  ·rw [h0] at hi';omega
  ·exact h0
 have hlt:=Nat.mod_lt i hpos
 rw [getElem!_pos zc _ hlt]
 exact h _ (Array.getElem_mem hlt)
end
end Go.Proofs.YthgnlfikneipiaaGreat
