/- Texts of the proof, joined. -/
import Derived.Test.YthgnlfikneipiaaGreatMz5
import Derived.ChangeKeysEq
import Derived.Maps.OwnOps
import Derived.Maps.Views
import Derived.DeepKeys4
import Derived.Test.YthgnlfikneipiaaGreatMz6
import Derived.Deep.RegionHeld3
import Derived.StillTailTactics
import Derived.Deep.RegionLaw
import Derived.Test.YthgnlfikneipiaaGreatRows
import Derived.Test.YthgnlfikneipiaaGreatMz1
import Derived.Laws.Externs
import Derived.Lib.JoinLaws
import Derived.Deep.RegionWith
set_option linter.unusedSimpArgs false
set_option linter.unusedVariables false
set_option linter.unusedSectionVars false
namespace Go.Proofs.YthgnlfikneipiaaGreat
open Go.RowKit
set_option maxRecDepth 20000 in
set_option maxHeartbeats 2000000 in
theorem ledNamed_any (w:World) (s:ByteArray) :
  Calls Tryz.prog 208 #[sv s] w fun e w'=>e = .returned (.bool (ruleOk s))∧w=w':=by
 by_cases h1:s.size < 1
 ·have HN:Hid (ruleOk s=false):=by unfold Hid ruleOk;simp;omega
  obtain rfl:s=⟨#[]⟩:=str_inj _ _ (by rw [strList_eq,strList_eq];exact List.eq_nil_of_length_eq_zero (by rw [Array.length_toList];show s.size=0;omega))
  go_enter Tryz.func208,Tryz.ntmps208
  go_wp2_with fail
  go_ret
  exact ⟨by rw [HN.out];rfl,rfl⟩
 ·have q:(s.toList==([]:List UInt8))=false:=by
   rw [beq_eq_false_iff_ne,strList_eq]
   intro q
   have:=congrArg List.length q
   rw [Array.length_toList] at this
   have:s.size=0:=this
   omega
  by_cases h2:s.size≤32
  ·have q':¬ (32:Int) < s.size:=by omega
   go_enter Tryz.func208,Tryz.ntmps208
   go_wp2_with fail
   go_loopw [15] (fun i wr=>∃ k:Nat,k≤s.size∧i = .int .i64 k∧w=wr∧Hid (∀ j (h:j < s.size),j < k→ruleCh s[j]=true)) (fun i _=>s.size-(intOf i).toNat)
   case atStart=>exact ⟨0,Nat.zero_le _,rfl,rfl,fun j _ h=>absurd h (by omega)⟩
   case round =>
    obtain ⟨k,hk,rfl,rfl,hh⟩:=hrel
    by_cases hlt:k < s.size
    ·have q0:(0:Int)≤k:=by omega
     have q1:(k:Int) < s.size:=by omega
     have HT:Hid (ruleCh s[k]=true→∀ j (h:j < s.size),j < k+1→ruleCh s[j]=true):=fun hb j hj hjk=>by
      rcases Nat.lt_or_eq_of_le (Nat.le_of_lt_succ hjk) with h|h
      ·exact hh.out j hj h
      ·subst h;exact hb
     have HF:Hid (ruleCh s[k]=false→ruleOk s=false):=fun hb=>by
      unfold ruleOk
      exact decide_eq_false (fun h=>by have:=h.2.2 k hlt;rw [hb] at this;exact absurd this (by simp))
     obtain ⟨d,hd⟩:∃ d:Int,((s[k]).toNat:Int)=d:=⟨_,rfl⟩
     have HC:Hid (ruleCh s[k]=decide ((97≤d∧d≤122)∨(65≤d∧d≤90)∨(48≤d∧d≤57)∨d=45∨d=95∨d=46)):=by
      unfold Hid ruleCh
      rw [← hd]
      exact decide_eq_decide.2 (by omega)
     have hd0:0≤d:=by omega
     rcases (show (97≤d∧d≤122)∨(122 < d)∨(65≤d∧d≤90)∨(d=95)∨((90 < d∧d < 97)∧d≠95)∨(48≤d∧d≤57)∨(57 < d∧d < 65)∨(d=45)∨(d=46)∨(d < 48∧d≠45∧d≠46) by omega) with hc|hc|hc|hc|hc|hc|hc|hc|hc|hc
     ·have f0:(97:Int)≤d:=by omega
      have f1:(65:Int)≤d:=by omega
      have f2:(48:Int)≤d:=by omega
      have f3:d≤(122:Int):=by omega
      have f4:¬ d≤(90:Int):=by omega
      have f5:¬ d≤(57:Int):=by omega
      have f6:(d==(45:Int))=false:=by rw [beq_eq_false_iff_ne];omega
      have f7:(d==(95:Int))=false:=by rw [beq_eq_false_iff_ne];omega
      have f8:(d==(46:Int))=false:=by rw [beq_eq_false_iff_ne];omega
      have HO:=Lib.hid (HT.out (by rw [HC.out];exact decide_eq_true (by omega)))
      clear hc HT HF hh
      go_wp2_with fail
      go_roundw
      case rel=>exact ⟨k+1,by omega,by go_num,by first|trivial|rfl,HO⟩
      case measure=>simp [intOf];omega
     ·have f0:(97:Int)≤d:=by omega
      have f1:(65:Int)≤d:=by omega
      have f2:(48:Int)≤d:=by omega
      have f3:¬ d≤(122:Int):=by omega
      have f4:¬ d≤(90:Int):=by omega
      have f5:¬ d≤(57:Int):=by omega
      have f6:(d==(45:Int))=false:=by rw [beq_eq_false_iff_ne];omega
      have f7:(d==(95:Int))=false:=by rw [beq_eq_false_iff_ne];omega
      have f8:(d==(46:Int))=false:=by rw [beq_eq_false_iff_ne];omega
      have HO:=Lib.hid (HF.out (by rw [HC.out];exact decide_eq_false (by omega)))
      clear hc HT HF hh
      go_wp2_with fail
      go_ret
      exact ⟨by rw [HO.out];rfl,rfl⟩
     ·have f0:¬ (97:Int)≤d:=by omega
      have f1:(65:Int)≤d:=by omega
      have f2:(48:Int)≤d:=by omega
      have f3:d≤(122:Int):=by omega
      have f4:d≤(90:Int):=by omega
      have f5:¬ d≤(57:Int):=by omega
      have f6:(d==(45:Int))=false:=by rw [beq_eq_false_iff_ne];omega
      have f7:(d==(95:Int))=false:=by rw [beq_eq_false_iff_ne];omega
      have f8:(d==(46:Int))=false:=by rw [beq_eq_false_iff_ne];omega
      have HO:=Lib.hid (HT.out (by rw [HC.out];exact decide_eq_true (by omega)))
      clear hc HT HF hh
      go_wp2_with fail
      go_roundw
      case rel=>exact ⟨k+1,by omega,by go_num,by first|trivial|rfl,HO⟩
      case measure=>simp [intOf];omega
     ·have f0:¬ (97:Int)≤d:=by omega
      have f1:(65:Int)≤d:=by omega
      have f2:(48:Int)≤d:=by omega
      have f3:d≤(122:Int):=by omega
      have f4:¬ d≤(90:Int):=by omega
      have f5:¬ d≤(57:Int):=by omega
      have f6:(d==(45:Int))=false:=by rw [beq_eq_false_iff_ne];omega
      have f7:(d==(95:Int))=true:=by rw [beq_iff_eq];omega
      have f8:(d==(46:Int))=false:=by rw [beq_eq_false_iff_ne];omega
      have HO:=Lib.hid (HT.out (by rw [HC.out];exact decide_eq_true (by omega)))
      clear hc HT HF hh
      go_wp2_with fail
      go_roundw
      case rel=>exact ⟨k+1,by omega,by go_num,by first|trivial|rfl,HO⟩
      case measure=>simp [intOf];omega
     ·have f0:¬ (97:Int)≤d:=by omega
      have f1:(65:Int)≤d:=by omega
      have f2:(48:Int)≤d:=by omega
      have f3:d≤(122:Int):=by omega
      have f4:¬ d≤(90:Int):=by omega
      have f5:¬ d≤(57:Int):=by omega
      have f6:(d==(45:Int))=false:=by rw [beq_eq_false_iff_ne];omega
      have f7:(d==(95:Int))=false:=by rw [beq_eq_false_iff_ne];omega
      have f8:(d==(46:Int))=false:=by rw [beq_eq_false_iff_ne];omega
      have HO:=Lib.hid (HF.out (by rw [HC.out];exact decide_eq_false (by omega)))
      clear hc HT HF hh
      go_wp2_with fail
      go_ret
      exact ⟨by rw [HO.out];rfl,rfl⟩
     ·have f0:¬ (97:Int)≤d:=by omega
      have f1:¬ (65:Int)≤d:=by omega
      have f2:(48:Int)≤d:=by omega
      have f3:d≤(122:Int):=by omega
      have f4:d≤(90:Int):=by omega
      have f5:d≤(57:Int):=by omega
      have f6:(d==(45:Int))=false:=by rw [beq_eq_false_iff_ne];omega
      have f7:(d==(95:Int))=false:=by rw [beq_eq_false_iff_ne];omega
      have f8:(d==(46:Int))=false:=by rw [beq_eq_false_iff_ne];omega
      have HO:=Lib.hid (HT.out (by rw [HC.out];exact decide_eq_true (by omega)))
      clear hc HT HF hh
      go_wp2_with fail
      go_roundw
      case rel=>exact ⟨k+1,by omega,by go_num,by first|trivial|rfl,HO⟩
      case measure=>simp [intOf];omega
     ·have f0:¬ (97:Int)≤d:=by omega
      have f1:¬ (65:Int)≤d:=by omega
      have f2:(48:Int)≤d:=by omega
      have f3:d≤(122:Int):=by omega
      have f4:d≤(90:Int):=by omega
      have f5:¬ d≤(57:Int):=by omega
      have f6:(d==(45:Int))=false:=by rw [beq_eq_false_iff_ne];omega
      have f7:(d==(95:Int))=false:=by rw [beq_eq_false_iff_ne];omega
      have f8:(d==(46:Int))=false:=by rw [beq_eq_false_iff_ne];omega
      have HO:=Lib.hid (HF.out (by rw [HC.out];exact decide_eq_false (by omega)))
      clear hc HT HF hh
      go_wp2_with fail
      go_ret
      exact ⟨by rw [HO.out];rfl,rfl⟩
     ·have f0:¬ (97:Int)≤d:=by omega
      have f1:¬ (65:Int)≤d:=by omega
      have f2:¬ (48:Int)≤d:=by omega
      have f3:d≤(122:Int):=by omega
      have f4:d≤(90:Int):=by omega
      have f5:d≤(57:Int):=by omega
      have f6:(d==(45:Int))=true:=by rw [beq_iff_eq];omega
      have f7:(d==(95:Int))=false:=by rw [beq_eq_false_iff_ne];omega
      have f8:(d==(46:Int))=false:=by rw [beq_eq_false_iff_ne];omega
      have HO:=Lib.hid (HT.out (by rw [HC.out];exact decide_eq_true (by omega)))
      clear hc HT HF hh
      go_wp2_with fail
      go_roundw
      case rel=>exact ⟨k+1,by omega,by go_num,by first|trivial|rfl,HO⟩
      case measure=>simp [intOf];omega
     ·have f0:¬ (97:Int)≤d:=by omega
      have f1:¬ (65:Int)≤d:=by omega
      have f2:¬ (48:Int)≤d:=by omega
      have f3:d≤(122:Int):=by omega
      have f4:d≤(90:Int):=by omega
      have f5:d≤(57:Int):=by omega
      have f6:(d==(45:Int))=false:=by rw [beq_eq_false_iff_ne];omega
      have f7:(d==(95:Int))=false:=by rw [beq_eq_false_iff_ne];omega
      have f8:(d==(46:Int))=true:=by rw [beq_iff_eq];omega
      have HO:=Lib.hid (HT.out (by rw [HC.out];exact decide_eq_true (by omega)))
      clear hc HT HF hh
      go_wp2_with fail
      go_roundw
      case rel=>exact ⟨k+1,by omega,by go_num,by first|trivial|rfl,HO⟩
      case measure=>simp [intOf];omega
     ·have f0:¬ (97:Int)≤d:=by omega
      have f1:¬ (65:Int)≤d:=by omega
      have f2:¬ (48:Int)≤d:=by omega
      have f3:d≤(122:Int):=by omega
      have f4:d≤(90:Int):=by omega
      have f5:d≤(57:Int):=by omega
      have f6:(d==(45:Int))=false:=by rw [beq_eq_false_iff_ne];omega
      have f7:(d==(95:Int))=false:=by rw [beq_eq_false_iff_ne];omega
      have f8:(d==(46:Int))=false:=by rw [beq_eq_false_iff_ne];omega
      have HO:=Lib.hid (HF.out (by rw [HC.out];exact decide_eq_false (by omega)))
      clear hc HT HF hh
      go_wp2_with fail
      go_ret
      exact ⟨by rw [HO.out];rfl,rfl⟩
    ·obtain rfl:k=s.size:=by omega
     have HN:Hid (ruleOk s=true):=by
      unfold Hid ruleOk
      exact decide_eq_true ⟨by omega,by omega,fun j hj=>hh.out j hj hj⟩
     go_wp2_with fail
     go_ret
     exact ⟨by rw [HN.out];rfl,rfl⟩
  ·have HN:Hid (ruleOk s=false):=by unfold Hid ruleOk;exact decide_eq_false (fun h=>h2 h.2.1)
   have q':(32:Int) < s.size:=by omega
   go_enter Tryz.func208,Tryz.ntmps208
   go_wp2_with fail
   go_ret
   exact ⟨by rw [HN.out];rfl,rfl⟩
end Go.Proofs.YthgnlfikneipiaaGreat
namespace Go.Proofs.YthgnlfikneipiaaGreat
open Go.RowKit
abbrev mkRec (ino gen at_:Int) (rule:ByteArray) (kind c0 c1 c2 c3 c4 c5 c6 c7 c8 c9:Int):Rec:=⟨⟨ino,gen,at_,rule⟩,kind,⟨[c0,c1,c2,c3,c4,c5,c6,c7,c8,c9],rfl⟩⟩
abbrev mkVal (ino gen at_:Int) (rule:ByteArray) (kind c0 c1 c2 c3 c4 c5 c6 c7 c8 c9:Int):Value := .agg #[.int .i64 ino,.int .i64 gen,.int .i64 at_,.string rule,.int .i64 kind,.int .i64 c0,.int .i64 c1,.int .i64 c2,.int .i64 c3,.int .i64 c4,.int .i64 c5,.int .i64 c6,.int .i64 c7,.int .i64 c8,.int .i64 c9]
theorem rec_mk (r:Rec):∃ ino gen at_ rule kind c0 c1 c2 c3 c4 c5 c6 c7 c8 c9,r=mkRec ino gen at_ rule kind c0 c1 c2 c3 c4 c5 c6 c7 c8 c9:=by
 obtain ⟨⟨ino,gen,at_,rule⟩,kind,⟨caps,hc⟩⟩:=r
 obtain ⟨c0,c1,c2,c3,c4,c5,c6,c7,c8,c9,rfl⟩:=ten hc
 exact ⟨ino,gen,at_,rule,kind,c0,c1,c2,c3,c4,c5,c6,c7,c8,c9,rfl⟩
theorem nth_in {α:Type} [Inhabited α] {l:List α} (k:Nat) (h:k < l.length):nth l k∈l:=by rw [nth_get l k h];exact List.getElem_mem _
abbrev numOk (ino gen at_:Int):Bool:=decide (1≤ino∧ino≤12∧1≤gen∧gen≤1099511627776∧0≤at_∧at_≤1099511627776)
theorem infoI:∃ i,Tryz.prog.info? 3=some i:=by
 have:(Tryz.prog.info? 3).isSome=true:=by kernel_rfl
 exact Option.isSome_iff_exists.1 this
theorem cellsI:Tryz.prog.cellsOf 3=1:=by kernel_rfl
theorem c10_eq (c0 c1 c2 c3 c4 c5 c6 c7 c8 c9 d0 d1 d2 d3 d4 d5 d6 d7 d8 d9:Int):((⟨[c0,c1,c2,c3,c4,c5,c6,c7,c8,c9],rfl⟩:C10)=⟨[d0,d1,d2,d3,d4,d5,d6,d7,d8,d9],rfl⟩)↔(c0=d0∧c1=d1∧c2=d2∧c3=d3∧c4=d4∧c5=d5∧c6=d6∧c7=d7∧c8=d8∧c9=d9):=by
 rw [Subtype.mk.injEq];simp
set_option maxRecDepth 20000 in
theorem capsEq_run (w:World) (c0 c1 c2 c3 c4 c5 c6 c7 c8 c9 d0 d1 d2 d3 d4 d5 d6 d7 d8 d9:Int):(Op.equalIn 10000 46 (.agg #[.int .i64 c0,.int .i64 c1,.int .i64 c2,.int .i64 c3,.int .i64 c4,.int .i64 c5,.int .i64 c6,.int .i64 c7,.int .i64 c8,.int .i64 c9]) (.agg #[.int .i64 d0,.int .i64 d1,.int .i64 d2,.int .i64 d3,.int .i64 d4,.int .i64 d5,.int .i64 d6,.int .i64 d7,.int .i64 d8,.int .i64 d9])).run Tryz.prog w = .ok (decide (c0=d0∧c1=d1∧c2=d2∧c3=d3∧c4=d4∧c5=d5∧c6=d6∧c7=d7∧c8=d8∧c9=d9)) w:=by
 obtain ⟨i,hi⟩:=infoI
 rw [run_equalIn_array w 9999 _ _ Tryz.underlying46 hi,cellsI]
 simp only [Op.eqItems,List.range_succ,List.range_zero,List.nil_append,List.cons_append,part,go_sem]
 simp [Op.eqItems,List.range_succ,part,go_sem]
 repeat' split
 all_goals simp_all
set_option maxRecDepth 20000 in
theorem idx_caps (c0 c1 c2 c3 c4 c5 c6 c7 c8 c9:Int) (k:Nat) (hk:k < 10) (W:World):(Instr.index 46 (.agg #[.int .i64 c0,.int .i64 c1,.int .i64 c2,.int .i64 c3,.int .i64 c4,.int .i64 c5,.int .i64 c6,.int .i64 c7,.int .i64 c8,.int .i64 c9]) (.int .i64 (k:Int))).run Tryz.prog W = .ok (.int .i64 (nth [c0,c1,c2,c3,c4,c5,c6,c7,c8,c9] k)) W:=by
 rcases (show k=0∨k=1∨k=2∨k=3∨k=4∨k=5∨k=6∨k=7∨k=8∨k=9 by omega) with rfl|rfl|rfl|rfl|rfl|rfl|rfl|rfl|rfl|rfl<;>kernel_rfl
set_option maxRecDepth 20000 in
set_option maxHeartbeats 4000000 in
theorem ledRight_c (w:World) (ino gen at_:Int) (rule:ByteArray) (kind c0 c1 c2 c3 c4 c5 c6 c7 c8 c9:Int) :
  Calls Tryz.prog 147 #[mkVal ino gen at_ rule kind c0 c1 c2 c3 c4 c5 c6 c7 c8 c9] w fun e w'=>e = .returned (.bool (recOk (mkRec ino gen at_ rule kind c0 c1 c2 c3 c4 c5 c6 c7 c8 c9)))∧Upd [] w w':=by
 have HU:Hid (Upd [] w (w.alloc (.cells #[.int .i64 ino,.int .i64 gen,.int .i64 at_,.string rule,.int .i64 kind,.int .i64 c0,.int .i64 c1,.int .i64 c2,.int .i64 c3,.int .i64 c4,.int .i64 c5,.int .i64 c6,.int .i64 c7,.int .i64 c8,.int .i64 c9] 48))):=(Upd.refl [] w).alloc _
 have hfalse:numOk ino gen at_=false→recOk (mkRec ino gen at_ rule kind c0 c1 c2 c3 c4 c5 c6 c7 c8 c9)=false:=fun h=>by
  unfold recOk
  show (numOk ino gen at_&&_)=false
  rw [h];rfl
 by_cases hn:1≤ino∧ino≤12∧1≤gen∧gen≤1099511627776∧0≤at_∧at_≤1099511627776
 ·have HN:Hid (numOk ino gen at_=true):=decide_eq_true hn
  obtain ⟨n1,n2,n3,n4,n5,n6⟩:=hn
  have m1:¬ ino < 1:=by omega
  have m2:¬ (12:Int) < ino:=by omega
  have m3:¬ gen < 1:=by omega
  have m4:¬ (1099511627776:Int) < gen:=by omega
  have m5:¬ at_ < 0:=by omega
  have m6:¬ (1099511627776:Int) < at_:=by omega
  clear n1 n2 n3 n4 n5 n6 hfalse
  by_cases k2:kind=2
  ·subst k2
   have HR:Hid (recOk (mkRec ino gen at_ rule 2 c0 c1 c2 c3 c4 c5 c6 c7 c8 c9)=decide (rule=⟨#[]⟩∧(⟨[c0,c1,c2,c3,c4,c5,c6,c7,c8,c9],rfl⟩:C10)=c10z)):=by
    unfold Hid recOk
    show (numOk ino gen at_&&_)=_
    rw [HN.out];rfl
   by_cases hr:rule=⟨#[]⟩
   ·subst hr
    have hq:=fun W=>capsEq_run W c0 c1 c2 c3 c4 c5 c6 c7 c8 c9 0 0 0 0 0 0 0 0 0 0
    have HR2:Hid (recOk (mkRec ino gen at_ ⟨#[]⟩ 2 c0 c1 c2 c3 c4 c5 c6 c7 c8 c9)=decide (c0=0∧c1=0∧c2=0∧c3=0∧c4=0∧c5=0∧c6=0∧c7=0∧c8=0∧c9=0)):=by
     unfold Hid
     rw [HR.out]
     refine decide_eq_decide.2 ?_
     show (_∧(⟨[c0,c1,c2,c3,c4,c5,c6,c7,c8,c9],rfl⟩:C10)=⟨[0,0,0,0,0,0,0,0,0,0],rfl⟩)↔_
     rw [c10_eq];simp
    obtain ⟨b,hb⟩:∃ b:Bool,decide (c0=0∧c1=0∧c2=0∧c3=0∧c4=0∧c5=0∧c6=0∧c7=0∧c8=0∧c9=0)=b:=⟨_,rfl⟩
    have HB:=Lib.hid hb
    rw [hb] at hq
    clear hb
    go_enter Tryz.func147,Tryz.ntmps147
    go_wp2_with fail
    go_ret
    exact ⟨by rw [HR2.out,HB.out];rfl,HU.out⟩
   ·have HR2:Hid (recOk (mkRec ino gen at_ rule 2 c0 c1 c2 c3 c4 c5 c6 c7 c8 c9)=false):=by
     unfold Hid
     rw [HR.out]
     exact decide_eq_false (fun h=>hr h.1)
    have q:(rule.toList==([]:List UInt8))=false:=by
     rw [beq_eq_false_iff_ne,strList_eq]
     intro q
     exact hr (str_inj _ _ (by rw [strList_eq,strList_eq,q]))
    clear hr
    go_enter Tryz.func147,Tryz.ntmps147
    go_wp2_with fail
    go_ret
    exact ⟨by rw [HR2.out];rfl,HU.out⟩
  ·have e2:(kind==2)=false:=by rw [beq_eq_false_iff_ne];exact k2
   by_cases k1:kind=1
   ·subst k1
    have HR:Hid (recOk (mkRec ino gen at_ rule 1 c0 c1 c2 c3 c4 c5 c6 c7 c8 c9)=([c0,c1,c2,c3,c4,c5,c6,c7,c8,c9].all capOk&&ruleOk rule)):=by
     unfold Hid recOk
     show (numOk ino gen at_&&_)=_
     rw [HN.out];rfl
    go_enter Tryz.func147,Tryz.ntmps147
    go_wp2_with fail
    go_loopw [57] (fun i wr=>∃ k:Nat,k≤10∧i = .int .i64 k∧wr=(w.alloc (.cells #[.int .i64 ino,.int .i64 gen,.int .i64 at_,.string rule,.int .i64 1,.int .i64 c0,.int .i64 c1,.int .i64 c2,.int .i64 c3,.int .i64 c4,.int .i64 c5,.int .i64 c6,.int .i64 c7,.int .i64 c8,.int .i64 c9] 48))∧Hid (∀ j,j < k→capOk (nth [c0,c1,c2,c3,c4,c5,c6,c7,c8,c9] j)=true)) (fun i _=>10-(intOf i).toNat)
    case atStart=>exact ⟨0,Nat.zero_le _,rfl,rfl,fun j h=>absurd h (by omega)⟩
    case round =>
     obtain ⟨k,hk,rfl,rfl,hh⟩:=hrel
     by_cases hlt:k < 10
     ·have q0:(0:Int)≤k:=by omega
      have q1:(k:Int) < 10:=by omega
      have hix:=fun W=>idx_caps c0 c1 c2 c3 c4 c5 c6 c7 c8 c9 k hlt W
      have HT:Hid (capOk (nth [c0,c1,c2,c3,c4,c5,c6,c7,c8,c9] k)=true→∀ j,j < k+1→capOk (nth [c0,c1,c2,c3,c4,c5,c6,c7,c8,c9] j)=true):=fun hb j hjk=>by
       rcases Nat.lt_or_eq_of_le (Nat.le_of_lt_succ hjk) with h|h
       ·exact hh.out j h
       ·subst h;exact hb
      have HF:Hid (capOk (nth [c0,c1,c2,c3,c4,c5,c6,c7,c8,c9] k)=false→recOk (mkRec ino gen at_ rule 1 c0 c1 c2 c3 c4 c5 c6 c7 c8 c9)=false):=fun hb=>by
       rw [HR.out]
       have:[c0,c1,c2,c3,c4,c5,c6,c7,c8,c9].all capOk=false:=by
        rw [List.all_eq_false]
        exact ⟨_,nth_in (l:=[c0,c1,c2,c3,c4,c5,c6,c7,c8,c9]) k hlt,by rw [hb];simp⟩
       rw [this];rfl
      generalize nth [c0,c1,c2,c3,c4,c5,c6,c7,c8,c9] k=d at *
      rcases (show d < -1∨(¬ d < -1∧500 < d)∨(¬ d < -1∧¬ 500 < d) by omega) with hd|⟨hd,hd2⟩|⟨hd,hd2⟩
      ·have HO:=Lib.hid (HF.out (decide_eq_false (by omega)))
       clear HT HF hh
       go_wp2_with fail
       go_ret
       exact ⟨by rw [HO.out];rfl,HU.out⟩
      ·have HO:=Lib.hid (HF.out (decide_eq_false (by omega)))
       clear HT HF hh
       go_wp2_with fail
       go_ret
       exact ⟨by rw [HO.out];rfl,HU.out⟩
      ·have HO:=Lib.hid (HT.out (decide_eq_true (by omega)))
       clear HT HF hh
       go_wp2_with fail
       go_roundw
       case rel=>exact ⟨k+1,by omega,by go_num,by first|trivial|rfl,HO⟩
       case measure=>simp [intOf];omega
     ·obtain rfl:k=10:=by omega
      have HO:Hid (recOk (mkRec ino gen at_ rule 1 c0 c1 c2 c3 c4 c5 c6 c7 c8 c9)=ruleOk rule):=by
       unfold Hid
       rw [HR.out]
       have:[c0,c1,c2,c3,c4,c5,c6,c7,c8,c9].all capOk=true:=by
        rw [List.all_eq_true]
        intro x hx
        obtain ⟨j,hj,rfl⟩:=List.mem_iff_getElem.1 hx
        have:=hh.out j hj
        rwa [nth_get _ j hj] at this
       rw [this,Bool.true_and]
      clear hh
      go_wp2_with fail
      (with_reducible refine (ledNamed_any _ rule).mono ?_)
      rintro e w1 ⟨rfl,rfl⟩
      go_wp2_with fail
      go_ret
      exact ⟨by rw [HO.out];rfl,HU.out⟩
   ·have e1:(kind==1)=false:=by rw [beq_eq_false_iff_ne];exact k1
    have HR:Hid (recOk (mkRec ino gen at_ rule kind c0 c1 c2 c3 c4 c5 c6 c7 c8 c9)=false):=by
     unfold Hid recOk
     show (numOk ino gen at_&&_)=_
     rw [HN.out]
     show (if kind=2 then _ else if kind=1 then _ else false)=false
     rw [if_neg k2,if_neg k1]
    clear k1 k2
    go_enter Tryz.func147,Tryz.ntmps147
    go_wp2_with fail
    go_ret
    exact ⟨by rw [HR.out];rfl,HU.out⟩
 ·have HR:=Lib.hid (hfalse (decide_eq_false hn))
  rcases (show ino < 1∨(¬ ino < 1∧(12:Int) < ino)∨(¬ ino < 1∧¬ (12:Int) < ino∧gen < 1)∨(¬ ino < 1∧¬ (12:Int) < ino∧¬ gen < 1∧(1099511627776:Int) < gen)∨(¬ ino < 1∧¬ (12:Int) < ino∧¬ gen < 1∧¬ (1099511627776:Int) < gen∧at_ < 0)∨(¬ ino < 1∧¬ (12:Int) < ino∧¬ gen < 1∧¬ (1099511627776:Int) < gen∧¬ at_ < 0∧(1099511627776:Int) < at_) by omega) with m1|⟨m1,m2⟩|⟨m1,m2,m3⟩|⟨m1,m2,m3,m4⟩|⟨m1,m2,m3,m4,m5⟩|⟨m1,m2,m3,m4,m5,m6⟩
  all_goals
   clear hfalse hn
   go_enter Tryz.func147,Tryz.ntmps147
   go_wp2_with fail
   go_ret
   exact ⟨by rw [HR.out];rfl,HU.out⟩
end Go.Proofs.YthgnlfikneipiaaGreat
namespace Go.Proofs.YthgnlfikneipiaaGreat
open Go.RowKit
structure Key64 (k:Key):Prop where
 ino:I64 k.ino
 gen:I64 k.gen
 at_:I64 k.at_
 rule:k.rule.size≤maxLen
def klOf (k:Key):Lit := .string (keyBytes [.int .i64 k.ino,.int .i64 k.gen,.int .i64 k.at_,.string k.rule.data.toList])
theorem laidOutK:laidOutB Tryz.prog=true:=by kernel_rfl
theorem keyRow:(44:TypeId) < Tryz.prog.types.size:=of_decide_eq_true (by kernel_rfl)
theorem keyLaw:Maps.Keyed Tryz.prog 44:=Maps.Keyed.of_law (deep_law_laid laidOutK (m:=2) (by omega) keyRow (by kernel_rfl) (by kernel_rfl))
theorem keyType29:Tryz.prog.keyType 44=true:=by kernel_rfl
theorem keyCellsOf:Tryz.prog.cellsOf 44=4:=by kernel_rfl
theorem intCellsOf:Tryz.prog.cellsOf 3=1:=by kernel_rfl
theorem strCellsOf:Tryz.prog.cellsOf 9=1:=by kernel_rfl
theorem wf_i64 {x:Int} (h:I64 x):(Lit.int .i64 x).wf=true:=WalkArith.wf_i64 ⟨h.1,h.2⟩
theorem pos_succ {n m:Nat} (h:m < n):∃ k,n=k+1:=⟨n-1,by omega⟩
theorem keyOf_key (k:Key) (h:Key64 k):keyOf Tryz.prog 44 (keyVal k)=some (klOf k):=by
 obtain ⟨m,hm⟩:=pos_succ keyRow
 unfold keyOf klOf
 rw [Tryz.underlying44]
 dsimp only
 rw [keyType29,hm]
 simp [Value.formed,Tryz.underlying44,Tryz.underlying3,Tryz.underlying9,keyCellsOf,intCellsOf,strCellsOf,Program.keyLits,Value.cells,wf_i64 h.ino,wf_i64 h.gen,wf_i64 h.at_,h.rule]
theorem keyVal_inj {a b:Key} (h:keyVal a=keyVal b):a=b:=by
 obtain ⟨a1,a2,a3,a4⟩:=a
 obtain ⟨b1,b2,b3,b4⟩:=b
 simp at h
 obtain ⟨rfl,rfl,rfl,rfl⟩:=h
 rfl
theorem klOf_inj {a b:Key} (ha:Key64 a) (hb:Key64 b) (h:klOf a=klOf b):a=b :=
 keyVal_inj (keyLaw.inj (keyOf_key a ha) (by rw [h];exact keyOf_key b hb))
def hasK (rl:List Rec) (k:Key):Bool:=rl.any fun r=>decide (r.key=k)
theorem hasK_snoc (rl:List Rec) (r:Rec) (k:Key):hasK (rl++[r]) k=(hasK rl k || decide (r.key=k)):=by unfold hasK;simp
abbrev nul:DataW Unit := .lit (.int .i64 0)
structure KMap (w:World) (gm:Nat) (rl:List Rec):Prop where
 ex:∃ (n:Nat) (D:DataW Unit),w.ownsMap Tryz.prog 44 (plainElem Tryz.prog 3) gm n D∧n≤rl.length∧Maps.IsMap D∧∀ k,Key64 k→∃ c:Int,D.atKey (klOf k) nul = .lit (.int .i64 c)∧(0 < c↔hasK rl k=true)
theorem KMap.new (w:World):KMap (w.alloc (.map #[] 0)) w.heap.size [] :=
 ⟨0,.map [],World.ownsMap_made _ _ _ _,Nat.le_refl _,Maps.isMap_empty,fun k _=>⟨0,rfl,by simp [hasK]⟩⟩
theorem KMap.lt {w:World} {gm:Nat} {rl:List Rec} (h:KMap w gm rl):gm < w.heap.size:=by
 obtain ⟨n,D,h1,-⟩:=h.ex
 exact h1.lt
theorem KMap.heap {w w':World} {gm:Nat} {rl:List Rec} (h:KMap w gm rl) (hb:w'.heap[gm]?=w.heap[gm]?):KMap w' gm rl:=by
 obtain ⟨n,D,⟨es,clock,h1,h2⟩,h3⟩:=h.ex
 exact ⟨n,D,⟨es,clock,by rw [hb];exact h1,h2⟩,h3⟩
theorem KMap.upd {w w':World} {gm:Nat} {rl:List Rec} (h:KMap w gm rl) {S:List Nat} (hu:Upd S w w') (hs:gm∉S):KMap w' gm rl:=h.heap (hu.block gm h.lt hs)
theorem KMap.typ {w:World} {gm:Nat} {rl:List Rec} (h:KMap w gm rl):∃ es clock,w.heap[gm]?=some (.map es clock):=by
 obtain ⟨n,D,⟨es,clock,h1,h2⟩,h3⟩:=h.ex
 exact ⟨es,clock,h1⟩
theorem zeroInt (w:World):(zeroValue 3).run Tryz.prog w = .ok (.int .i64 0) w:=by kernel_rfl
theorem KMap.look {w:World} {gm:Nat} {rl:List Rec} (h:KMap w gm rl) (k:Key) (hk:Key64 k) :
  ∃ c:Int,(∀ W,Upd [] w W→(Instr.lookup 214 (.map (some gm)) (keyVal k) false).run Tryz.prog W = .ok (.int .i64 c) W)∧(0 < c↔hasK rl k=true):=by
 obtain ⟨n,D,h1,h2,h3,h4⟩:=h.ex
 obtain ⟨c,hc,hi⟩:=h4 k hk
 refine ⟨c,fun W hW=>?_,hi⟩
 have hW':W.ownsMap Tryz.prog 44 (plainElem (H:=Unit) Tryz.prog 3) gm n D:=by
  obtain ⟨es,clock,q1,q2⟩:=h1
  exact ⟨es,clock,hW.heap q1 (by simp),q2⟩
 obtain ⟨c',r1,r2,-⟩:=hW'.lookup_int keyLaw Tryz.underlying214 Tryz.underlying3 (zeroInt W) (keyOf_key k hk)
 have:(DataW.lit (.int .i64 c):DataW Unit) = .lit (.int .i64 c'):=by rw [← hc];exact r2
 have e:c=c':=by simpa using this
 rw [e];exact r1
theorem KMap.put {w:World} {gm:Nat} {rl:List Rec} (h:KMap w gm rl) (r:Rec) (hk:Key64 r.key) (hl:rl.length < 1000000000) (N:Int) (hN:N=((rl++[r]).length:Int)) :
  ∃ w',(Instr.mapUpdate 214 (.map (some gm)) (keyVal r.key) (.int .i64 N)).run Tryz.prog w = .ok () w'∧KMap w' gm (rl++[r])∧Upd [gm] w w':=by
 obtain ⟨n,D,h1,h2,h3,h4⟩:=h.ex
 rw [List.length_append,List.length_singleton] at hN
 have hN64:I64 N:=⟨by omega,by omega⟩
 obtain ⟨w',r1,r2,r3⟩:=h1.update keyLaw Tryz.underlying214 (by unfold maxLen;omega) (keyOf_key r.key hk) (plainElem_int Tryz.underlying3 (wf_i64 hN64))
 refine ⟨w',r1,⟨n+1,_,r2,by rw [List.length_append,List.length_singleton];omega,h3.put _ _,fun k hk2=>?_⟩,?_⟩
 ·by_cases he:r.key=k
  ·subst he
   exact ⟨N,by rw [Maps.atKey_put_same h3 (keyLaw.key (keyOf_key _ hk))],by rw [hasK_snoc];simp;omega⟩
  ·obtain ⟨c,hc,hi⟩:=h4 k hk2
   refine ⟨c,?_,?_⟩
   ·rw [Maps.atKey_put_other (fun q=>he (klOf_inj hk hk2 q.symm)),hc]
   ·rw [hasK_snoc,hi];simp [he]
 ·have:=Upd.of_grown r3
  simpa using this
end Go.Proofs.YthgnlfikneipiaaGreat
namespace Go.Proofs.YthgnlfikneipiaaGreat
open Go.RowKit
structure LC (w0 w:World) (gl gd gm:Nat) (lv:Value) (rl:List Rec):Prop where
 top:Blk w gl 216 [.pointer (some ⟨gd,0,none⟩),lv,.map (some gm)]
 rows:OwnN 15 recCells w0.heap.size 48 w lv rl
 map:KMap w gm rl
 glb:w0.heap.size≤gl
 gmb:w0.heap.size≤gm
 old:Upd [] w0 w
abbrev lfoot (gl gm:Nat) (lv:Value):List Nat:=gl::gm::blk lv
theorem lf_top (gl gm:Nat) (lv:Value):gl∈lfoot gl gm lv:=List.mem_cons_self
theorem lf_map (gl gm:Nat) (lv:Value):gm∈lfoot gl gm lv:=List.mem_cons_of_mem _ List.mem_cons_self
theorem lf_row {gl gm:Nat} {lv:Value} {x:Nat} (h:x∈blk lv):x∈lfoot gl gm lv:=List.mem_cons_of_mem _ (List.mem_cons_of_mem _ h)
section
variable {w0 w w' : World} {gl gd gm : Nat} {lv : Value} {rl : List Rec}
theorem LC.glm (h:LC w0 w gl gd gm lv rl):gl≠gm:=by
 intro e
 obtain ⟨es,clock,h1⟩:=h.map.typ
 have h2:w.heap[gl]?=some (.cells _ _ _):=h.top
 rw [e,h1] at h2;exact absurd h2 (by simp)
theorem LC.gll (h:LC w0 w gl gd gm lv rl):gl∉blk lv:=by
 intro hx
 obtain ⟨C,f,h1⟩:=h.rows.typ gl hx
 have h2:w.heap[gl]?=some (.cells _ _ _):=h.top
 rw [h1] at h2
 injection h2 with h2;injection h2 with _ h2
 exact absurd h2 (by decide)
theorem LC.gml (h:LC w0 w gl gd gm lv rl):gm∉blk lv:=by
 intro hx
 obtain ⟨C,f,h1⟩:=h.rows.typ gm hx
 obtain ⟨es,clock,h2⟩:=h.map.typ
 rw [h1] at h2;exact absurd h2 (by simp)
theorem LC.upd (h:LC w0 w gl gd gm lv rl) {S:List Nat} (hu:Upd S w w') (hs:∀ x∈lfoot gl gm lv,x∉S) (hS:∀ x∈S,w0.heap.size≤x):LC w0 w' gl gd gm lv rl :=
 ⟨h.top.upd hu (hs gl (by simp)),h.rows.upd hu (fun x hx=>hs x (by simp [hx])),h.map.upd hu (hs gm (by simp)),h.glb,h.gmb,h.old.trans hu (by simp) (fun x hx => .inr (hS x hx))⟩
theorem LC.upd0 (h:LC w0 w gl gd gm lv rl) (hu:Upd [] w w'):LC w0 w' gl gd gm lv rl:=h.upd hu (by simp) (by simp)
theorem LC.ge (h:LC w0 w gl gd gm lv rl):∀ x∈lfoot gl gm lv,w0.heap.size≤x∧x < w.heap.size:=by
 intro x hx
 rcases List.mem_cons.1 hx with rfl|hx
 ·exact ⟨h.glb,h.top.lt⟩
 ·rcases List.mem_cons.1 hx with rfl|hx
  ·exact ⟨h.gmb,h.map.lt⟩
  ·exact h.rows.ge x hx
set_option maxRecDepth 20000 in
set_option maxHeartbeats 1000000 in
theorem ledHas_c (h:LC w0 w gl gd gm lv rl) (ino gen at_:Int) (rule:ByteArray) (hk:Key64 ⟨ino,gen,at_,rule⟩) :
  Calls Tryz.prog 89 #[.pointer (some ⟨gl,0,none⟩),.agg #[.int .i64 ino,.int .i64 gen,.int .i64 at_,.string rule]] w fun e w'=>e = .returned (.bool (hasK rl ⟨ino,gen,at_,rule⟩))∧Upd [] w w':=by
 have hu:Upd [] w (w.alloc (.cells #[.int .i64 ino,.int .i64 gen,.int .i64 at_,.string rule] 44)):=(Upd.refl [] w).alloc _
 have HU:=Lib.hid hu
 obtain ⟨c,hc,hi⟩:=h.map.look _ hk
 have hlk:=hc _ hu.drew
 have c2:(w.alloc (.cells #[.int .i64 ino,.int .i64 gen,.int .i64 at_,.string rule] 44)).cell? ⟨gl,2,none⟩=some (.map (some gm)):=(h.upd0 hu).top.cell 2
 have hb:=Blk.new w 44 [.int .i64 ino,.int .i64 gen,.int .i64 at_,.string rule]
 have d0:=hb.cell 0
 have d1:=hb.cell 1
 have d2:=hb.cell 2
 have d3:=hb.cell 3
 simp only [List.getElem?_cons_zero,List.getElem?_cons_succ] at d0 d1 d2 d3
 have HI:Hid (hasK rl ⟨ino,gen,at_,rule⟩=decide (0 < c)):=by
  unfold Hid
  cases hb:hasK rl ⟨ino,gen,at_,rule⟩ with
  | true=>exact (decide_eq_true (hi.2 hb)).symm
  | false=>exact (decide_eq_false (fun q=>by have:=hi.1 q;rw [hb] at this;exact absurd this (by simp))).symm
 simp only [keyVal] at hlk
 clear h hu hk hc hi hb
 go_enter Tryz.func89,Tryz.ntmps89
 go_wp2_with fail
 generalize w.alloc (.cells #[.int .i64 ino,.int .i64 gen,.int .i64 at_,.string rule] 44)=w1 at *
 go_region
 all_goals (go_wp2_with fail)
 go_ret
 exact ⟨by rw [HI.out];rfl,HU.out.drew⟩
end
end Go.Proofs.YthgnlfikneipiaaGreat
namespace Go.Proofs.YthgnlfikneipiaaGreat
open Go.RowKit
theorem infoRec3:(Tryz.prog.info? 48).map (fun i=>(i.zero,i.size,i.bytes))=some (some (.agg #[.int .i64 0,.int .i64 0,.int .i64 0,.string ⟨#[]⟩,.int .i64 0,.int .i64 0,.int .i64 0,.int .i64 0,.int .i64 0,.int .i64 0,.int .i64 0,.int .i64 0,.int .i64 0,.int .i64 0,.int .i64 0]),15,128):=by kernel_rfl
theorem undRec:Tryz.prog.underlying 36=some (.slice 48):=by kernel_rfl
theorem own_slice {base:Nat} {e:TypeId} {w:World} {v:Value} {l:List Rec} (h:OwnN 15 recCells base e w v l):∃ a k,v = .slice a l.length k∧l.length≤k∧k≤maxLen:=by
 obtain ⟨a,k,h1,h2,h3,_⟩:=h.rd recCells_len
 exact ⟨a,k,h1,h2,h3⟩
section
variable {P : Program} {ops : Array Oper} {rest : List Oper} {o : Oper} {a : Act} {w : World} {Q : Exit → Act → World → Prop}
theorem wpList_map_of (hgd:o.guard=none) (m x v:Operand) {t:TypeId} (ho:o.op=Op.mapUpdate t m x v) (vm key val:Value) (hm:a.eval m=vm) (hx:a.eval x=key) (hv:a.eval v=val)
  {R:World→Prop} (hr:∃ w',(Instr.mapUpdate t vm key val).run P w = .ok () w'∧R w') (h:∀ w',R w'→wpList P ops Q rest (a.put o.dst undef) w'):wpList P ops Q (o::rest) a w:=by
 obtain ⟨w',hrun,hR⟩:=hr
 refine wpList_plain hgd fun K' hK'=>?_
 unfold Oper.wp
 simp [execOp,ho,hm,hx,hv,hrun,Result.andThen]
 exact hK' _ _ (h w' hR)
end
section
variable {w0 w w' : World} {gl gd gm : Nat} {lv : Value} {rl : List Rec}
set_option maxRecDepth 20000 in
set_option maxHeartbeats 4000000 in
theorem ledKeep_c (h:LC w0 w gl gd gm lv rl) (ino gen at_:Int) (rule:ByteArray) (kind c0 c1 c2 c3 c4 c5 c6 c7 c8 c9:Int) (hk:Key64 ⟨ino,gen,at_,rule⟩) (hl:rl.length≤100000000) :
  Calls Tryz.prog 90 #[.pointer (some ⟨gl,0,none⟩),mkVal ino gen at_ rule kind c0 c1 c2 c3 c4 c5 c6 c7 c8 c9] w fun e w'=>e = .returned (.tuple #[])∧∃ lv',LC w0 w' gl gd gm lv' (rl++[mkRec ino gen at_ rule kind c0 c1 c2 c3 c4 c5 c6 c7 c8 c9])∧Upd (lfoot gl gm lv) w w'∧(∀ x∈blk lv',x∈blk lv∨w.heap.size≤x):=by
 obtain ⟨ao,co,rfl,hlc,hcm⟩:=own_slice h.rows
 have hu1:Upd [] w (w.alloc (.cells #[.int .i64 ino,.int .i64 gen,.int .i64 at_,.string rule,.int .i64 kind,.int .i64 c0,.int .i64 c1,.int .i64 c2,.int .i64 c3,.int .i64 c4,.int .i64 c5,.int .i64 c6,.int .i64 c7,.int .i64 c8,.int .i64 c9] 48)):=(Upd.refl [] w).alloc _
 have HU1:=Lib.hid hu1
 have H1:=Lib.hid (h.upd0 hu1)
 have hb1:Blk (w.alloc (.cells #[.int .i64 ino,.int .i64 gen,.int .i64 at_,.string rule,.int .i64 kind,.int .i64 c0,.int .i64 c1,.int .i64 c2,.int .i64 c3,.int .i64 c4,.int .i64 c5,.int .i64 c6,.int .i64 c7,.int .i64 c8,.int .i64 c9] 48)) w.heap.size 48 [.int .i64 ino,.int .i64 gen,.int .i64 at_,.string rule,.int .i64 kind,.int .i64 c0,.int .i64 c1,.int .i64 c2,.int .i64 c3,.int .i64 c4,.int .i64 c5,.int .i64 c6,.int .i64 c7,.int .i64 c8,.int .i64 c9]:=Blk.new w _ [.int .i64 ino,.int .i64 gen,.int .i64 at_,.string rule,.int .i64 kind,.int .i64 c0,.int .i64 c1,.int .i64 c2,.int .i64 c3,.int .i64 c4,.int .i64 c5,.int .i64 c6,.int .i64 c7,.int .i64 c8,.int .i64 c9]
 have HB1:=Lib.hid hb1
 have HK:=Lib.hid hk
 have HL:=Lib.hid hl
 have hg:=(h.ge gl (by simp)).2
 have hco:co≤9223372036854775807:=by unfold maxLen at hcm;omega
 have HGE:=Lib.hid h.ge
 clear h hu1 hk hl hcm
 go_enter Tryz.func90,Tryz.ntmps90
 go_wp2_with fail
 have d0:=hb1.cell 0
 have d1:=hb1.cell 1
 have d2:=hb1.cell 2
 have d3:=hb1.cell 3
 have d4:=hb1.cell 4
 have d5:=hb1.cell 5
 have d6:=hb1.cell 6
 have d7:=hb1.cell 7
 have d8:=hb1.cell 8
 have d9:=hb1.cell 9
 have d10:=hb1.cell 10
 have d11:=hb1.cell 11
 have d12:=hb1.cell 12
 have d13:=hb1.cell 13
 have d14:=hb1.cell 14
 simp only [List.getElem?_cons_zero,List.getElem?_cons_succ] at d0 d1 d2 d3 d4 d5 d6 d7 d8 d9 d10 d11 d12 d13 d14
 have HSZ:Hid (w.heap.size+1=(w.alloc (.cells #[.int .i64 ino,.int .i64 gen,.int .i64 at_,.string rule,.int .i64 kind,.int .i64 c0,.int .i64 c1,.int .i64 c2,.int .i64 c3,.int .i64 c4,.int .i64 c5,.int .i64 c6,.int .i64 c7,.int .i64 c8,.int .i64 c9] 48)).heap.size):=by unfold Hid;simp
 generalize w.alloc (.cells #[.int .i64 ino,.int .i64 gen,.int .i64 at_,.string rule,.int .i64 kind,.int .i64 c0,.int .i64 c1,.int .i64 c2,.int .i64 c3,.int .i64 c4,.int .i64 c5,.int .i64 c6,.int .i64 c7,.int .i64 c8,.int .i64 c9] 48)=w1 at *
 have gc1:w1.cell? ⟨gl,1,none⟩=some (.slice ao rl.length co):=H1.out.top.cell 1
 have f1:=H1.out.top.frozen 1
 have hg1:gl < w1.heap.size:=H1.out.top.lt
 have hx1:w.heap.size < w1.heap.size:=HB1.out.lt
 have hu2:Upd [] w1 (w1.drew.alloc (.cells #[.int .i64 ino,.int .i64 gen,.int .i64 at_,.string rule,.int .i64 kind,.int .i64 c0,.int .i64 c1,.int .i64 c2,.int .i64 c3,.int .i64 c4,.int .i64 c5,.int .i64 c6,.int .i64 c7,.int .i64 c8,.int .i64 c9] 48)):=(Upd.refl [] w1).drew.alloc _
 have hnb:Blk (w1.drew.alloc (.cells #[.int .i64 ino,.int .i64 gen,.int .i64 at_,.string rule,.int .i64 kind,.int .i64 c0,.int .i64 c1,.int .i64 c2,.int .i64 c3,.int .i64 c4,.int .i64 c5,.int .i64 c6,.int .i64 c7,.int .i64 c8,.int .i64 c9] 48)) w1.heap.size 48 [.int .i64 ino,.int .i64 gen,.int .i64 at_,.string rule,.int .i64 kind,.int .i64 c0,.int .i64 c1,.int .i64 c2,.int .i64 c3,.int .i64 c4,.int .i64 c5,.int .i64 c6,.int .i64 c7,.int .i64 c8,.int .i64 c9]:=Blk.new w1.drew _ _
 have HRD:RdN 15 recCells (w1.drew.alloc (.cells #[.int .i64 ino,.int .i64 gen,.int .i64 at_,.string rule,.int .i64 kind,.int .i64 c0,.int .i64 c1,.int .i64 c2,.int .i64 c3,.int .i64 c4,.int .i64 c5,.int .i64 c6,.int .i64 c7,.int .i64 c8,.int .i64 c9] 48)) (.slice (some ⟨w1.heap.size,0,none⟩) 1 1) [mkRec ino gen at_ rule kind c0 c1 c2 c3 c4 c5 c6 c7 c8 c9]:=by
  refine ⟨_,1,rfl,by simp,by simp [maxLen],fun _=>⟨w1.heap.size,0,rfl,fun j hj i hi=>?_⟩⟩
  have hj0:j=0:=by simpa using hj
  subst hj0
  rw [Nat.zero_mul,Nat.zero_add,Nat.zero_add,hnb.cell];rfl
 have HRUN:=Lib.hid (fun ty=>run_appN (P:=Tryz.prog) (ty:=ty) recCells_len (by decide) recCells_one undRec infoRec3 rfl _ _ rl [mkRec ino gen at_ rule kind c0 c1 c2 c3 c4 c5 c6 c7 c8 c9] (H1.out.rows.upd hu2 (by simp)) HRD (by have:=HL.out;simp;omega) (by have:=HL.out;simp [maxLen];omega) (H1.out.old.seq hu2).size)
 have HTOP:=Lib.hid (H1.out.top.upd hu2 (by simp))
 have HGL:=Lib.hid H1.out.gll
 have HU2:=Lib.hid hu2
 have HBX:=Lib.hid (HB1.out.upd hu2 (by simp))
 clear hu2 hnb HRD
 go_region_law (first|((with_reducible refine step_app_of rfl (.tmp 8) (.tmp 10) rfl (.slice ao rl.length co) (.slice (some ⟨w1.heap.size,0,none⟩) 1 1) rfl rfl (HRUN.out _) ?_);(rintro v4 w4 ⟨ho4,hu4,hk4⟩;obtain ⟨a4,k4,rfl,-⟩:=own_slice ho4;have ht4:=HTOP.out.upd hu4 HGL.out;have gc4:=ht4.cell 1;have f4:=ht4.frozen 1;have HT4:=Lib.hid ht4;have HO4:=Lib.hid ho4;have HU4:=Lib.hid hu4;have HK4:=Lib.hid hk4;clear ho4 hu4 hk4 ht4;dsimp only)))
 all_goals
  have hset:Upd [gl] w4 (w4.setCell ⟨gl,1,none⟩ (.slice a4 (rl.length+1) k4)):=(Upd.refl [gl] w4).setCell _ _ (.inl (by simp))
  have hgm:=H1.out.glm
  have hall4:Upd (blk (Value.slice ao rl.length co)) w1 w4:=HU2.out.trans HU4.out (by simp) (fun x hx => .inl hx)
  have ht5:Blk (w4.setCell ⟨gl,1,none⟩ (.slice a4 (rl.length+1) k4)) gl 216 [.pointer (some ⟨gd,0,none⟩),.slice a4 (rl.length+1) k4,.map (some gm)]:=HT4.out.set_ 1 _
  have hm5:KMap (w4.setCell ⟨gl,1,none⟩ (.slice a4 (rl.length+1) k4)) gm rl:=(H1.out.map.upd hall4 H1.out.gml).upd hset (by simp;exact fun q=>hgm q.symm)
  have hbx5:Blk (w4.setCell ⟨gl,1,none⟩ (.slice a4 (rl.length+1) k4)) w.heap.size 48 [.int .i64 ino,.int .i64 gen,.int .i64 at_,.string rule,.int .i64 kind,.int .i64 c0,.int .i64 c1,.int .i64 c2,.int .i64 c3,.int .i64 c4,.int .i64 c5,.int .i64 c6,.int .i64 c7,.int .i64 c8,.int .i64 c9]:=((HBX.out.upd HU4.out (fun hx=>by have:=(HGE.out _ (lf_row hx)).2;omega))).upd hset (by simp;omega)
  have ho5:OwnN 15 recCells w0.heap.size 48 (w4.setCell ⟨gl,1,none⟩ (.slice a4 (rl.length+1) k4)) (.slice a4 (rl.length+1) k4) (rl++[mkRec ino gen at_ rule kind c0 c1 c2 c3 c4 c5 c6 c7 c8 c9]):=by
   have ho4:=HO4.out
   rw [List.length_append,List.length_singleton] at ho4
   refine ho4.upd hset (fun x hx hx'=>?_)
   simp at hx'
   subst hx'
   obtain ⟨C,f,h1⟩:=ho4.typ x hx
   have h2:w4.heap[x]?=some (.cells _ _ _):=HT4.out
   rw [h1] at h2
   injection h2 with h2;injection h2 with _ h2
   exact absurd h2 (by decide)
  have hu5:Upd (lfoot gl gm (Value.slice ao rl.length co)) w (w4.setCell ⟨gl,1,none⟩ (.slice a4 (rl.length+1) k4)):=(HU1.out.mono (by simp)).trans (hall4.trans hset (T:=lfoot gl gm (Value.slice ao rl.length co)) (fun x hx=>lf_row hx) (fun x hx => .inl (by simp at hx;subst hx;exact lf_top _ _ _))) (fun x hx=>hx) (fun x hx => .inl hx)
  have hold5:Upd [] w0 (w4.setCell ⟨gl,1,none⟩ (.slice a4 (rl.length+1) k4)):=(H1.out.old.trans (T:=[]) hall4 (by simp) (fun x hx => .inr (H1.out.rows.ge x hx).1)).trans hset (by simp) (fun x hx => .inr (by simp at hx;subst hx;exact H1.out.glb))
  have HK5:Hid (∀ x∈blk (Value.slice a4 (rl.length+1) k4),x∈blk (Value.slice ao rl.length co)∨w.heap.size≤x):=fun x hx=>by
   have hx':x∈blk (Value.slice a4 (rl++[mkRec ino gen at_ rule kind c0 c1 c2 c3 c4 c5 c6 c7 c8 c9]).length k4):=by
    cases a4 with
    | none=>simp [blk] at hx
    | some q=>simpa [blk] using hx
   rcases HK4.out x hx' with q|q
   ·exact .inl q
   ·have:=HU1.out.size;have:=HU2.out.size;exact .inr (by omega)
  have HGLB:=Lib.hid H1.out.glb
  have HGMB:=Lib.hid H1.out.gmb
  generalize w4.setCell ⟨gl,1,none⟩ (.slice a4 (rl.length+1) k4)=w5 at *
  have HM:=Lib.hid ((hm5.upd (Upd.refl [] w5).drew (by simp)).put (mkRec ino gen at_ rule kind c0 c1 c2 c3 c4 c5 c6 c7 c8 c9) HK.out (by have:=HL.out;omega) ((rl.length:Int)+1) (by simp))
  have HT5:=Lib.hid ht5
  have HM5:=Lib.hid hm5
  have HO5:=Lib.hid ho5
  have HU5:=Lib.hid hu5
  have HD5:=Lib.hid hold5
  have HGM:=Lib.hid hgm
  have k0:=hbx5.cell 0
  have k1:=hbx5.cell 1
  have k2:=hbx5.cell 2
  have k3:=hbx5.cell 3
  simp only [List.getElem?_cons_zero,List.getElem?_cons_succ] at k0 k1 k2 k3
  have g1:w5.cell? ⟨gl,1,none⟩=some (.slice a4 (rl.length+1) k4):=ht5.cell 1
  have g2:w5.cell? ⟨gl,2,none⟩=some (.map (some gm)):=ht5.cell 2
  clear hset hgm hall4 ht5 hm5 hbx5 ho5 hu5 hold5 HRUN HTOP HGL HU2 HBX HT4 HO4 HU4 HK4 gc1 f1 gc4 f4 hb1 HB1 H1 HU1 HGE d0 d1 d2 d3 d4 d5 d6 d7 d8 d9 d10 d11 d12 d13 d14
  go_wp2_with fail
  go_still_tail 11,(by kernel_rfl)
  change wpList _ _ _ _ _ w5.drew
  go_wp2_with (at_mapUpdate;go_must (refine wpList_map_of rfl _ _ _ rfl (.map (some gm)) (keyVal ⟨ino,gen,at_,rule⟩) (.int .i64 ((rl.length:Int)+1)) rfl rfl rfl HM.out ?_;rintro w6 ⟨hm6,hu6⟩;have HM6:=Lib.hid hm6;have HU6:=Lib.hid hu6;clear hm6 hu6 HM;dsimp only))
  go_end0
  have hu6':Upd [gm] w5 w6:=(Upd.refl [] w5).drew.trans HU6.out (by simp) (fun x hx => .inl hx)
  refine ⟨rfl,.slice a4 (rl.length+1) k4,⟨HT5.out.upd hu6' (by simp;exact HGM.out),HO5.out.upd hu6' (fun x hx hx'=>?_),HM6.out,HGLB.out,HGMB.out,HD5.out.trans hu6' (by simp) (fun x hx => .inr (by simp at hx;subst hx;exact HGMB.out))⟩,HU5.out.trans hu6' (fun x hx=>hx) (fun x hx => .inl (by simp at hx;subst hx;exact lf_map _ _ _)),HK5.out⟩
  simp at hx'
  subst hx'
  obtain ⟨C,f,h1⟩:=(HO5.out).typ x hx
  obtain ⟨es,clock,h2⟩:=HM5.out.typ
  rw [h1] at h2;exact absurd h2 (by simp)
end
end Go.Proofs.YthgnlfikneipiaaGreat
namespace Go.Proofs.YthgnlfikneipiaaGreat
open Go.RowKit
theorem infoRec:(Tryz.prog.info? 48).map (·.size)=some 15:=by kernel_rfl
section
variable {w0 W : World} {g : Nat} {v : Value} {B : List UInt8} {s : RSt} {gx : Nat} {xs : List Value}
end
end Go.Proofs.YthgnlfikneipiaaGreat
namespace Go.Proofs.YthgnlfikneipiaaGreat
open Go.RowKit
theorem take_snoc {α:Type} [Inhabited α] (l:List α) (k:Nat) (h:k < l.length):l.take (k+1)=l.take k++[nth l k]:=by rw [List.take_add_one,nth_get _ _ h,List.getElem?_eq_getElem h];rfl
theorem own_nil8 (b:Nat) (W:World):Own bv b 5 W (.slice none 0 0) []:=World.ownsRow_nil _ _ _ _
theorem num_at (b:Nat) (w W:World) (v:Value) (l:List UInt8) (M:Int) (hb:b≤w.heap.size) (ho:Own bv b 5 W v l) (hu:Upd [] w W) (hl:l.length≤100000) (hM:I64 M) :
  Calls Tryz.prog 123 #[v,.int .i64 M] W fun e w'=>∃ a n k,e = .returned (.slice a n k)∧Hid (Own bv b 5 w' (.slice a n k) (l++encNum M.toNat))∧Upd [] w w':=by
 refine (fNum_any _ l M _ ho.rd (by omega) hM).mono ?_
 rintro e w' ⟨x,rfl,h,hu2⟩
 obtain ⟨a,k,rfl,-⟩:=h.rd
 exact ⟨a,_,k,rfl,h.base_le (Nat.le_trans hb hu.size),hu.seq hu2⟩
theorem text_at (b:Nat) (w W:World) (v:Value) (l:List UInt8) (S:ByteArray) (hb:b≤w.heap.size) (ho:Own bv b 5 W v l) (hu:Upd [] w W) (hl:l.length≤100000) (hM:S.size≤1000000) :
  Calls Tryz.prog 121 #[v,.string S] W fun e w'=>∃ a n k,e = .returned (.slice a n k)∧Hid (Own bv b 5 w' (.slice a n k) (l++encText S))∧Upd [] w w':=by
 refine (fText_any _ l S _ ho.rd (by omega) (by omega)).mono ?_
 rintro e w' ⟨x,rfl,h,hu2⟩
 obtain ⟨a,k,rfl,-⟩:=h.rd
 exact ⟨a,_,k,rfl,h.base_le (Nat.le_trans hb hu.size),hu.seq hu2⟩
theorem encNum_le (n:Nat) (h:n < 18446744073709551616):(encNum n).length≤9:=by have:=nb_le8 n h;rw [encNum_len];omega
theorem encCaps_le (l:List Int) (h:∀ c∈l,c≤500):(encCaps l).length≤9*l.length:=by
 induction l with
 | nil=>simp [encCaps]
 | cons c l ih =>
  have h1:=ih (fun x hx=>h x (by simp [hx]))
  have h2:=h c (by simp)
  have h3:=encNum_le (c+1).toNat (by omega)
  rw [encCaps_cons,List.length_append,List.length_cons];omega
set_option maxRecDepth 20000 in
set_option maxHeartbeats 8000000 in
theorem ledPut_c (w:World) (ino gen at_:Int) (rule:ByteArray) (kind c0 c1 c2 c3 c4 c5 c6 c7 c8 c9:Int) :
  Calls Tryz.prog 218 #[mkVal ino gen at_ rule kind c0 c1 c2 c3 c4 c5 c6 c7 c8 c9] w fun e w'=>∃ v,e = .returned v∧Own bv w.heap.size 5 w' v (if recOk (mkRec ino gen at_ rule kind c0 c1 c2 c3 c4 c5 c6 c7 c8 c9) then encRec (mkRec ino gen at_ rule kind c0 c1 c2 c3 c4 c5 c6 c7 c8 c9) else [])∧Upd [] w w':=by
 have hu0:Upd [] w (w.alloc (.cells #[.int .i64 ino,.int .i64 gen,.int .i64 at_,.string rule,.int .i64 kind,.int .i64 c0,.int .i64 c1,.int .i64 c2,.int .i64 c3,.int .i64 c4,.int .i64 c5,.int .i64 c6,.int .i64 c7,.int .i64 c8,.int .i64 c9] 48)):=(Upd.refl [] w).alloc _
 have HU0:=Lib.hid hu0
 have hb0:Blk (w.alloc (.cells #[.int .i64 ino,.int .i64 gen,.int .i64 at_,.string rule,.int .i64 kind,.int .i64 c0,.int .i64 c1,.int .i64 c2,.int .i64 c3,.int .i64 c4,.int .i64 c5,.int .i64 c6,.int .i64 c7,.int .i64 c8,.int .i64 c9] 48)) w.heap.size 48 [.int .i64 ino,.int .i64 gen,.int .i64 at_,.string rule,.int .i64 kind,.int .i64 c0,.int .i64 c1,.int .i64 c2,.int .i64 c3,.int .i64 c4,.int .i64 c5,.int .i64 c6,.int .i64 c7,.int .i64 c8,.int .i64 c9]:=Blk.new w _ [.int .i64 ino,.int .i64 gen,.int .i64 at_,.string rule,.int .i64 kind,.int .i64 c0,.int .i64 c1,.int .i64 c2,.int .i64 c3,.int .i64 c4,.int .i64 c5,.int .i64 c6,.int .i64 c7,.int .i64 c8,.int .i64 c9]
 have HB0:=Lib.hid hb0
 cases hok:recOk (mkRec ino gen at_ rule kind c0 c1 c2 c3 c4 c5 c6 c7 c8 c9) with
 | false =>
  have HOK:=Lib.hid hok
  clear hok
  go_enter Tryz.func218,Tryz.ntmps218
  go_wp2_with fail
  (with_reducible refine (ledRight_c _ ino gen at_ rule kind c0 c1 c2 c3 c4 c5 c6 c7 c8 c9).mono ?_)
  rw [HOK.out]
  rintro e w1 ⟨rfl,hu1⟩
  have HU1:=Lib.hid (HU0.out.seq hu1)
  clear hu1
  go_wp2_with fail
  go_ret
  exact ⟨_,rfl,own_nil8 _ _,HU1.out⟩
 | true =>
  have HOK:=Lib.hid hok
  have hi:=recOk_in hok
  have HI:=Lib.hid hi
  have HIA:Hid (I64 ino):=⟨by have:=hi.ino;dsimp only at this;omega,by have:=hi.ino;dsimp only at this;omega⟩
  have HIG:Hid (I64 gen):=⟨by have:=hi.gen;dsimp only at this;omega,by have:=hi.gen;dsimp only at this;omega⟩
  have HIT:Hid (I64 at_):=⟨by have:=hi.at_;dsimp only at this;omega,by have:=hi.at_;dsimp only at this;omega⟩
  have HIK:Hid (I64 kind):=⟨by have:=hi.kind;dsimp only at this;omega,by have:=hi.kind;dsimp only at this;omega⟩
  have HIR:Hid (rule.size≤32):=hi.rule
  have HIC:Hid (∀ c∈[c0,c1,c2,c3,c4,c5,c6,c7,c8,c9],-1≤c∧c≤500):=hi.caps
  obtain ⟨L1,hL1⟩:∃ L,encNum ino.toNat=L:=⟨_,rfl⟩
  obtain ⟨L2,hL2⟩:∃ L,L1++encNum gen.toNat=L:=⟨_,rfl⟩
  obtain ⟨L3,hL3⟩:∃ L,L2++encNum at_.toNat=L:=⟨_,rfl⟩
  obtain ⟨L4,hL4⟩:∃ L,L3++encText rule=L:=⟨_,rfl⟩
  obtain ⟨L5,hL5⟩:∃ L,L4++encNum kind.toNat=L:=⟨_,rfl⟩
  have i1:=hi.ino
  have i2:=hi.gen
  have i3:=hi.at_
  have i4:=hi.rule
  have i5:=hi.kind
  dsimp only at i1 i2 i3 i4 i5
  have b1:=encNum_le ino.toNat (by omega)
  have b2:=encNum_le gen.toNat (by omega)
  have b3:=encNum_le at_.toNat (by omega)
  have b4:=encNum_le rule.size (by omega)
  have b5:=encNum_le kind.toNat (by omega)
  have ht:(encText rule).length≤41:=by unfold encText;rw [List.length_append,size_toList];omega
  have l1:L1.length≤9:=by rw [← hL1];exact b1
  have l2:L2.length≤18:=by rw [← hL2,List.length_append];omega
  have l3:L3.length≤27:=by rw [← hL3,List.length_append];omega
  have l4:L4.length≤70:=by rw [← hL4,List.length_append];omega
  have l5:L5.length≤79:=by rw [← hL5,List.length_append];omega
  have HL1:Hid (L1.length≤100000):=by unfold Hid;omega
  have HL2:Hid (L2.length≤100000):=by unfold Hid;omega
  have HL3:Hid (L3.length≤100000):=by unfold Hid;omega
  have HL4:Hid (L4.length≤100000):=by unfold Hid;omega
  have HL5:Hid (L5.length≤79):=l5
  have HEN:Hid (encRec (mkRec ino gen at_ rule kind c0 c1 c2 c3 c4 c5 c6 c7 c8 c9)=L5++encCaps [c0,c1,c2,c3,c4,c5,c6,c7,c8,c9]):=by
   unfold Hid encRec
   rw [← hL5,← hL4,← hL3,← hL2,← hL1]
  have HQ1:=Lib.hid hL1
  have HQ2:=Lib.hid hL2
  have HQ3:=Lib.hid hL3
  have HQ4:=Lib.hid hL4
  have HQ5:=Lib.hid hL5
  rw [if_pos rfl,HEN.out]
  clear hok hi i1 i2 i3 i4 i5 b1 b2 b3 b4 b5 ht l1 l2 l3 l4 l5 hL1 hL2 hL3 hL4 hL5 hb0 hu0
  go_enter Tryz.func218,Tryz.ntmps218
  go_wp2_with fail
  (with_reducible refine (ledRight_c _ ino gen at_ rule kind c0 c1 c2 c3 c4 c5 c6 c7 c8 c9).mono ?_)
  rw [HOK.out]
  rintro e w1 ⟨rfl,hu1⟩
  have hb1:=HB0.out.upd hu1 (by simp)
  have d0:=hb1.cell 0
  have d1:=hb1.cell 1
  have d2:=hb1.cell 2
  simp only [List.getElem?_cons_zero,List.getElem?_cons_succ] at d0 d1 d2
  have HB1:=Lib.hid hb1
  have HU1:=Lib.hid (HU0.out.seq hu1)
  have HSZ:Hid (w.heap.size≤w1.heap.size):=HU1.out.size
  have C0:=Lib.hid d0
  have C1:=Lib.hid d1
  have C2:=Lib.hid d2
  clear hu1 hb1
  have HC1:Hid (∀ W,Upd [] w1 W→Calls Tryz.prog 123 #[.slice none 0 0,.int .i64 ino] W fun e w'=>∃ a n k,e = .returned (.slice a n k)∧Hid (Own bv w.heap.size 5 w' (.slice a n k) L1)∧Upd [] w1 w'):=fun W hu=>by
   have:=num_at w.heap.size w1 W _ [] ino HSZ.out (own_nil8 _ _) hu (by simp) HIA.out
   rw [List.nil_append,HQ1.out] at this;exact this
  have HC2:Hid (∀ W a n k,Own bv w.heap.size 5 W (.slice a n k) L1→Upd [] w1 W→Calls Tryz.prog 123 #[.slice a n k,.int .i64 gen] W fun e w'=>∃ a n k,e = .returned (.slice a n k)∧Hid (Own bv w.heap.size 5 w' (.slice a n k) L2)∧Upd [] w1 w'):=fun W a n k ho hu=>by
   have:=num_at w.heap.size w1 W _ L1 gen HSZ.out ho hu HL1.out HIG.out
   rw [HQ2.out] at this;exact this
  have HC3:Hid (∀ W a n k,Own bv w.heap.size 5 W (.slice a n k) L2→Upd [] w1 W→Calls Tryz.prog 123 #[.slice a n k,.int .i64 at_] W fun e w'=>∃ a n k,e = .returned (.slice a n k)∧Hid (Own bv w.heap.size 5 w' (.slice a n k) L3)∧Upd [] w1 w'):=fun W a n k ho hu=>by
   have:=num_at w.heap.size w1 W _ L2 at_ HSZ.out ho hu HL2.out HIT.out
   rw [HQ3.out] at this;exact this
  have HC4:Hid (∀ W a n k,Own bv w.heap.size 5 W (.slice a n k) L3→Upd [] w1 W→Calls Tryz.prog 121 #[.slice a n k,.string rule] W fun e w'=>∃ a n k,e = .returned (.slice a n k)∧Hid (Own bv w.heap.size 5 w' (.slice a n k) L4)∧Upd [] w1 w'):=fun W a n k ho hu=>by
   have:=text_at w.heap.size w1 W _ L3 rule HSZ.out ho hu HL3.out (by have:=HIR.out;omega)
   rw [HQ4.out] at this;exact this
  have HC5:Hid (∀ W a n k,Own bv w.heap.size 5 W (.slice a n k) L4→Upd [] w1 W→Calls Tryz.prog 123 #[.slice a n k,.int .i64 kind] W fun e w'=>∃ a n k,e = .returned (.slice a n k)∧Hid (Own bv w.heap.size 5 w' (.slice a n k) L5)∧Upd [] w1 w'):=fun W a n k ho hu=>by
   have:=num_at w.heap.size w1 W _ L4 kind HSZ.out ho hu HL4.out HIK.out
   rw [HQ5.out] at this;exact this
  have ru:=Upd.refl [] w1
  go_wp2_with fail
  go_region_held3 (fun w'=>w'.cell? ⟨w.heap.size,0,none⟩=some (.int .i64 ino)∧w'.cell? ⟨w.heap.size,1,none⟩=some (.int .i64 gen)∧w'.cell? ⟨w.heap.size,2,none⟩=some (.int .i64 at_)) (first|go_keep|exact ⟨ru.cell C0.out (by simp),ru.cell C1.out (by simp),ru.cell C2.out (by simp)⟩)
   (first
    | (go_at_call 123;(with_reducible refine (HC1.out _ (Upd.seq ru ?_)).mono ?_);(repeat (first|exact Upd.refl _ _|apply Upd.drew|apply Upd.drewN|apply Upd.alloc));(rintro _ W1 ⟨a1,n1,k1,rfl,ho1,ru⟩;dsimp only))
    | (go_at_call 123;(with_reducible refine (HC2.out _ a1 n1 k1 (Own.upd (S:=[]) ho1.out ?_ (by simp)) (Upd.seq ru ?_)).mono ?_);(repeat (first|exact Upd.refl _ _|apply Upd.drew|apply Upd.drewN|apply Upd.alloc));(rintro _ W2 ⟨a2,n2,k2,rfl,ho2,ru⟩;dsimp only))
    | (go_at_call 123;(with_reducible refine (HC3.out _ a2 n2 k2 (Own.upd (S:=[]) ho2.out ?_ (by simp)) (Upd.seq ru ?_)).mono ?_);(repeat (first|exact Upd.refl _ _|apply Upd.drew|apply Upd.drewN|apply Upd.alloc));(rintro _ W3 ⟨a3,n3,k3,rfl,ho3,ru⟩;dsimp only)))
  all_goals
   have C3:=Lib.hid (HB1.out.cell 3)
   have C4:=Lib.hid (HB1.out.cell 4)
   simp only [List.getElem?_cons_zero,List.getElem?_cons_succ] at C3 C4
   have d3:=ru.cell C3.out (by simp)
   have d4:=ru.cell C4.out (by simp)
   clear HC1 HC2 HC3 d0 d1 d2 ho1 ho2 C0 C1 C2
   go_wp2_with fail
   go_region_held3 (fun w'=>w'.cell? ⟨w.heap.size,3,none⟩=some (.string rule)∧w'.cell? ⟨w.heap.size,4,none⟩=some (.int .i64 kind)) (first|go_keep|exact ⟨ru.cell C3.out (by simp),ru.cell C4.out (by simp)⟩)
    (first
     | (go_at_call 121;(with_reducible refine (HC4.out _ a3 n3 k3 (Own.upd (S:=[]) ho3.out ?_ (by simp)) (Upd.seq ru ?_)).mono ?_);(repeat (first|exact Upd.refl _ _|apply Upd.drew|apply Upd.drewN|apply Upd.alloc));(rintro _ W4 ⟨a4,n4,k4,rfl,ho4,ru⟩;dsimp only))
     | (go_at_call 123;(with_reducible refine (HC5.out _ a4 n4 k4 (Own.upd (S:=[]) ho4.out ?_ (by simp)) (Upd.seq ru ?_)).mono ?_);(repeat (first|exact Upd.refl _ _|apply Upd.drew|apply Upd.drewN|apply Upd.alloc));(rintro _ W5 ⟨a5,n5,k5,rfl,ho5,ru⟩;dsimp only)))
   all_goals
    have HB5:=Lib.hid (HB1.out.upd ru (by simp))
    have e5:=HB5.out.cell 5
    have e6:=HB5.out.cell 6
    have e7:=HB5.out.cell 7
    have e8:=HB5.out.cell 8
    have e9:=HB5.out.cell 9
    have e10:=HB5.out.cell 10
    have e11:=HB5.out.cell 11
    have e12:=HB5.out.cell 12
    have e13:=HB5.out.cell 13
    have e14:=HB5.out.cell 14
    simp only [List.getElem?_cons_zero,List.getElem?_cons_succ] at e5 e6 e7 e8 e9 e10 e11 e12 e13 e14
    have HU5:=Lib.hid (HU1.out.seq ru)
    clear HC4 HC5 d3 d4 ho3 ho4 C3 C4 ru
    go_wp2_with fail
    go_loopw [3,31] (fun v i wr=>∃ (k:Nat) (a:Option Addr) (n cp:Nat),k≤10∧i = .int .i64 k∧v = .slice a n cp∧Hid (Own bv w.heap.size 5 wr (.slice a n cp) (L5++encCaps ([c0,c1,c2,c3,c4,c5,c6,c7,c8,c9].take k)))∧Hid (Upd [] w wr)) (fun _ i _=>10-(intOf i).toNat)
    case atStart=>exact ⟨0,a5,n5,k5,Nat.zero_le _,rfl,rfl,by unfold Hid;rw [List.take_zero,show encCaps []=[] from rfl,List.append_nil];exact ho5.out,HU5.out⟩
    case round =>
     obtain ⟨k,a,n,cp,hk,rfl,rfl,ho,hu⟩:=hrel
     clear ho5 HB5 e5 e6 e7 e8 e9 e10 e11 e12 e13 e14
     by_cases hlt:k < 10
     ·have q0:(0:Int)≤k:=by omega
      have q1:(k:Int) < 10:=by omega
      have hix:=fun W=>idx_caps c0 c1 c2 c3 c4 c5 c6 c7 c8 c9 k hlt W
      have HTK:Hid (encCaps ([c0,c1,c2,c3,c4,c5,c6,c7,c8,c9].take (k+1))=encCaps ([c0,c1,c2,c3,c4,c5,c6,c7,c8,c9].take k)++encNum (nth [c0,c1,c2,c3,c4,c5,c6,c7,c8,c9] k+1).toNat):=by
       unfold Hid
       rw [take_snoc [c0,c1,c2,c3,c4,c5,c6,c7,c8,c9] k hlt,encCaps_app,encCaps_cons];simp [encCaps]
      have HLE:Hid ((L5++encCaps ([c0,c1,c2,c3,c4,c5,c6,c7,c8,c9].take k)).length≤100000):=by
       have h1:=encCaps_le ([c0,c1,c2,c3,c4,c5,c6,c7,c8,c9].take k) (fun c hc=>(HIC.out c (List.mem_of_mem_take hc)).2)
       have h2:=HL5.out
       have h3:([c0,c1,c2,c3,c4,c5,c6,c7,c8,c9].take k).length≤10:=by rw [List.length_take];omega
       unfold Hid;rw [List.length_append];omega
      have hd:=HIC.out (nth [c0,c1,c2,c3,c4,c5,c6,c7,c8,c9] k) (nth_in (l:=[c0,c1,c2,c3,c4,c5,c6,c7,c8,c9]) k hlt)
      obtain ⟨hd1,hd2⟩:=hd
      generalize encCaps ([c0,c1,c2,c3,c4,c5,c6,c7,c8,c9].take k)=E at *
      generalize nth [c0,c1,c2,c3,c4,c5,c6,c7,c8,c9] k=d at *
      have hwr:IntKind.i64.wrap (d+1)=d+1:=by rw [IntKind.wrap_i64];omega
      have HID:Hid (I64 (d+1)):=⟨by omega,by omega⟩
      clear hd1 hd2
      go_wp2_with fail
      (with_reducible refine (num_at w.heap.size w wr _ (L5++E) (d+1) (Nat.le_refl _) ho.out hu.out HLE.out HID.out).mono ?_)
      rintro e W6 ⟨a6,n6,k6,rfl,ho6,hu6⟩
      have HO6:Hid (Own bv w.heap.size 5 W6 (.slice a6 n6 k6) (L5++encCaps ([c0,c1,c2,c3,c4,c5,c6,c7,c8,c9].take (k+1)))):=by unfold Hid;rw [HTK.out,← List.append_assoc];exact ho6.out
      have HU6:=Lib.hid hu6
      clear ho6 hu6
      go_wp2_with fail
      go_roundw
      case rel=>exact ⟨k+1,a6,n6,k6,by omega,by go_num,rfl,HO6,HU6⟩
      case measure=>simp [intOf];omega
     ·obtain rfl:k=10:=by omega
      go_wp2_with fail
      go_ret
      exact ⟨_,rfl,ho.out,hu.out⟩
end Go.Proofs.YthgnlfikneipiaaGreat
namespace Go.Proofs.YthgnlfikneipiaaGreat
abbrev fv (p:ByteArray×Sl):Value := .agg #[sv p.1,slv p.2]
end Go.Proofs.YthgnlfikneipiaaGreat
namespace Go.Proofs.YthgnlfikneipiaaGreat
open Go.RowKit
abbrev rcIF (p:Int×(ByteArray×Sl)):List Value:=[iv p.1,sv p.2.1,slv p.2.2]
theorem rcIF_len:∀ p,(rcIF p).length=3:=fun _=>rfl
theorem infoRowIF:(Tryz.prog.info? 171).map (fun i=>(i.zero,i.size,i.bytes))=some (some (.agg #[.int .i64 0,.string ⟨#[]⟩,.slice none 0 0]),3,48):=by kernel_rfl
abbrev ltIF:Int→Int→Bool:=fun a b=>decide (a < b)
structure TBIF (base:Nat) (w:World) (g:Nat) (lv:Value) (l:List (Int×(ByteArray×Sl))):Prop where
 tab:Blk w g 145 [lv]
 rows:OwnN 3 rcIF base 171 w lv l
 gb:base≤g
section
variable {base : Nat} {g : Nat} {lv : Value} {l : List (Int × (ByteArray × Sl))} {w w' : World}
theorem TBIF.upd (h:TBIF base w g lv l) {S:List Nat} (hu:Upd S w w') (hs:∀ x∈g::blk lv,x∉S):TBIF base w' g lv l :=
 ⟨h.tab.upd hu (hs g (by simp)),h.rows.upd hu (fun x hx=>hs x (by simp [hx])),h.gb⟩
theorem TBIF.upd0 (h:TBIF base w g lv l) (hu:Upd [] w w'):TBIF base w' g lv l:=h.upd hu (by simp)
theorem TBIF.g_lv (h:TBIF base w g lv l):g∉blk lv:=fun e=>by
 obtain ⟨C,f,hq⟩:=h.rows.typ g e
 exact h.tab.ne g hq (by decide) rfl
theorem TBIF.lt (h:TBIF base w g lv l):∀ x∈g::blk lv,base≤x∧x < w.heap.size:=by
 intro x hx
 rcases List.mem_cons.1 hx with rfl|hx
 ·exact ⟨h.gb,h.tab.lt⟩
 ·exact h.rows.ge x hx
theorem tLenIF_any (w:World) (hs:TBIF base w g lv l) :
  Calls Tryz.prog 38 #[.pointer (some ⟨g,0,none⟩)] w fun e w'=>e = .returned (.int .i64 (l.length:Int))∧w=w':=by
 obtain ⟨ao,co,rfl,-⟩:=hs.rows.rd rcIF_len
 have c0:w.cell? ⟨g,0,none⟩=some (.slice ao l.length co):=hs.tab.cell 0
 go_enter Tryz.func38,Tryz.ntmps38
 go_wp2
 go_ret
 exact ⟨rfl,rfl⟩
theorem tNewIF_any (w:World) :
  Calls Tryz.prog 30 #[] w fun e w'=>e = .returned (.pointer (some ⟨w.heap.size,0,none⟩))∧TBIF w.heap.size w' w.heap.size (.slice none 0 0) []∧Upd [] w w':=by
 go_enter Tryz.func30,Tryz.ntmps30
 go_wp2
 go_ret
 exact ⟨rfl,⟨Blk.new w _ [.slice none 0 0],OwnN.nil _ _ _,Nat.le_refl _⟩,(Upd.refl [] w).alloc _⟩
set_option maxRecDepth 20000 in
set_option maxHeartbeats 1000000 in
theorem tFindIF_any (w:World) (k:Int) (hs:TBIF base w g lv l) (hr:Rising ltIF l) (hlen:l.length≤100000) (hk:I64 k) :
  Calls Tryz.prog 62 #[.pointer (some ⟨g,0,none⟩),iv k] w fun e w'=>e = .returned (.tuple #[.int .i64 (below ltIF l k:Int),.bool (isIn ltIF l k)])∧Upd [] w w':=by
 have HS:=Lib.hid hs
 have HR:=Lib.hid hr
 obtain ⟨ao,co,rfl,hlc,hcm,hcell⟩:=hs.rows.rd rcIF_len
 have c0:w.cell? ⟨g,0,none⟩=some (.slice ao l.length co):=hs.tab.cell 0
 have HC:=Lib.hid hcell
 clear hs hr hcell hcm
 go_enter Tryz.func62,Tryz.ntmps62
 go_wp2_with fail
 go_quiet (fail)
 have HU:=Lib.hid ((Upd.refl [] w).drewN nq)
 generalize w.drewN nq=v at *
 replace c0:=HU.out.cell c0 (by simp)
 go_wp2_with fail
 go_loop [6,7] (fun lo hi=>∃ a b:Nat,lo = .int .i64 a∧hi = .int .i64 b∧a≤b∧b≤l.length∧Hid (∀ j,j < a→ltIF (nth l j).1 k=true)∧Hid (∀ j,b≤j→j < l.length→ltIF (nth l j).1 k=false)) (fun lo hi=>(intOf hi).toNat-(intOf lo).toNat)
 case atStart=>exact ⟨0,l.length,rfl,rfl,Nat.zero_le _,Nat.le_refl _,fun j h=>absurd h (by omega),fun j h1 h2=>absurd h1 (by omega)⟩
 case round =>
  obtain ⟨a,b,rfl,rfl,hab,hbl,hlo,hhi⟩:=hrel
  by_cases hlt:a < b
  ·have hmid:(a+b) / 2 < l.length:=by omega
   obtain ⟨bl,off,rfl,hc⟩:=HC.out (by intro h;simp [h] at hmid)
   have d0:v.cell? ⟨bl,off+(a+b) / 2*3,none⟩=some (iv (nth l ((a+b) / 2)).1):=HU.out.cell (hc _ hmid 0 (by omega)) (by simp)
   clear hc
   cases hcmp:ltIF (nth l ((a+b) / 2)).1 k with
   | true =>
    have HLO:Hid (∀ j,j < (a+b) / 2+1→ltIF (nth l j).1 k=true):=fun j hj=>HR.out.mono intOrd k j ((a+b) / 2) (by omega) hmid hcmp
    generalize (nth l ((a+b) / 2)).1=m at *
    have hc1:m < k:=by simpa using hcmp
    clear hcmp
    go_wp2
    go_round
    case rel=>exact ⟨(a+b) / 2+1,b,by go_num,rfl,by omega,hbl,HLO,hhi⟩
    case measure=>simp [intOf];omega
   | false =>
    have HHI:Hid (∀ j,(a+b) / 2≤j→j < l.length→ltIF (nth l j).1 k=false):=fun j h1 h2=>by
     cases hq:ltIF (nth l j).1 k with
     | false=>rfl
     | true=>exact absurd ((HR.out.mono intOrd k _ j h1 h2 hq).symm.trans hcmp) (by simp)
    generalize (nth l ((a+b) / 2)).1=m at *
    have hc1:¬ m < k:=by simpa using hcmp
    clear hcmp
    go_wp2
    go_round
    case rel=>exact ⟨a,(a+b) / 2,rfl,by go_num,by omega,by omega,hlo,HHI⟩
    case measure=>simp [intOf];omega
  ·obtain rfl:a=b:=by omega
   have hbel:below ltIF l k=a:=below_eq l k a hbl hlo.out (fun h=>hhi.out a (Nat.le_refl _) h)
   have HIN:Hid (isIn ltIF l k=decide (a < l.length∧(nth l a).1=k)):=by unfold Hid isIn;rw [hbel]
   have HBEL:=Lib.hid hbel
   clear hbel
   by_cases hal:a < l.length
   ·obtain ⟨bl,off,rfl,hc⟩:=HC.out (by intro h;simp [h] at hal)
    have d0:v.cell? ⟨bl,off+a*3,none⟩=some (iv (nth l a).1):=HU.out.cell (hc _ hal 0 (by omega)) (by simp)
    have HIN2:Hid (isIn ltIF l k=decide ((nth l a).1=k)):=by unfold Hid;rw [HIN.out];simp [hal]
    clear hc
    generalize (nth l a).1=m at *
    have q1:(0:Int)≤a:=by omega
    have q2:(a:Int) < l.length:=by omega
    by_cases he:m=k
    ·have t1:(m==k)=true:=by simpa using he
     have HF:Hid (isIn ltIF l k=true):=by unfold Hid;rw [HIN2.out];simp [he]
     clear he
     go_wp2_with fail
     go_quiet (fail)
     go_wp2_with fail
     go_ret2
     exact ⟨by rw [HBEL.out,HF.out];rfl,by first|exact HU.out.drewN _|exact HU.out.drew⟩
    ·have t1:(m==k)=false:=by simpa using he
     have HF:Hid (isIn ltIF l k=false):=by unfold Hid;rw [HIN2.out];simp [he]
     clear he
     go_wp2_with fail
     go_quiet (fail)
     go_wp2_with fail
     go_ret2
     exact ⟨by rw [HBEL.out,HF.out];rfl,by first|exact HU.out.drewN _|exact HU.out.drew⟩
   ·have HF:Hid (isIn ltIF l k=false):=by unfold Hid;rw [HIN.out];simp [hal]
    have hd:decide (a < l.length)=false:=by simpa using hal
    go_wp2_with fail
    go_quiet (fail)
    go_wp2_with fail
    go_ret2
    exact ⟨by rw [HBEL.out,HF.out];rfl,by first|exact HU.out.drewN _|exact HU.out.drew⟩
end
end Go.Proofs.YthgnlfikneipiaaGreat
namespace Go.Proofs.YthgnlfikneipiaaGreat
open Go.RowKit
theorem rcIF_one:∀ p,∀ u∈rcIF p,u.oneCell'=true:=by intro p u hu;simp [rcIF] at hu;rcases hu with rfl|rfl|rfl<;>rfl
theorem undIF:Tryz.prog.underlying 143=some (.slice 171):=by kernel_rfl
section
variable {base : Nat} {g : Nat} {lv : Value} {l : List (Int × (ByteArray × Sl))} {w w' : World}
end
section
variable {base : Nat} {g : Nat} {lv : Value} {l : List (Int × (ByteArray × Sl))} {w w' : World}
end
end Go.Proofs.YthgnlfikneipiaaGreat
namespace Go.Proofs.YthgnlfikneipiaaGreat
open Go.RowKit
section
variable {base : Nat} {g : Nat} {lv : Value} {l : List (Int × (ByteArray × Sl))} {w w' : World}
set_option maxRecDepth 20000 in
set_option maxHeartbeats 1000000 in
theorem slInsIF_end (w:World) (v:Value) (vb:Nat) (x:Int×(ByteArray×Sl)) (hs:OwnN 3 rcIF base 171 w v l) (hlen:l.length≤100000) (hbs:base≤w.heap.size) (hv:Blk w vb 171 (rcIF x)) :
  Calls Tryz.prog 63 #[v,.int .i64 (l.length:Int),.slice (some ⟨vb,0,none⟩) 1 1] w fun e w'=>∃ v',e = .returned v'∧OwnN 3 rcIF base 171 w' v' (l++[x])∧Upd (blk v) w w'∧(∀ y∈blk v',y∈blk v∨w.heap.size≤y):=by
 have hrd:RdN 3 rcIF w (.slice (some ⟨vb,0,none⟩) 1 1) [x]:=⟨_,1,rfl,by simp,by simp [maxLen],fun _=>⟨vb,0,rfl,fun j hj i hi=>by
  simp at hj;subst hj
  rw [hv.cell];simp [nth_cons_zero]⟩⟩
 have HR:=Lib.hid (fun ty=>run_appN (P:=Tryz.prog) (ty:=ty) rcIF_len (by decide) rcIF_one undIF infoRowIF rfl v _ l [x] hs hrd (by simp;omega) (by simp [maxLen];omega) hbs)
 obtain ⟨ao,n,co,rfl⟩:=hs.slice_
 have hn:n=l.length∧l.length≤co:=by
  rcases hs.2 with ⟨he,h0⟩|⟨_,_,_,he,_,_,hc,_⟩
  ·injection he with e1 e2 e3;subst e2;subst e3;exact ⟨h0.symm,by omega⟩
  ·injection he with e1 e2 e3;subst e2;subst e3;exact ⟨rfl,hc⟩
 obtain ⟨rfl,hco⟩:=hn
 clear hs hrd hv
 have hd:co=l.length∨¬ co=l.length:=by omega
 rcases hd with hd|hd
 all_goals
  go_enter Tryz.func63,Tryz.ntmps63
  go_wp2_with (at_builtin;refine wpList_app_of rfl _ _ rfl (.slice ao l.length co) (.slice (some ⟨vb,0,none⟩) 1 1) rfl rfl (HR.out _) ?_;rintro v1 w3 ⟨ho3,hu3,hb3⟩;have HO3:=Lib.hid ho3;obtain ⟨a1,n1,c1,rfl⟩:=ho3.slice_;clear ho3)
  go_ret
  exact ⟨_,rfl,HO3.out,hu3,hb3⟩
theorem ovlIF (w:World) (vb gb vo go_ la ca lb cb kA kB:Nat) (tA tB:TypeId) (hne:vb≠gb) (hsa:w.shape? vb=some (tA,kA)) (hsb:w.shape? gb=some (tB,kB)) (hkB:kB≠0) (hfa:w.frozen? ⟨vb,vo,none⟩=false) (hfe:w.frozen? ⟨vb,kA,none⟩=false) :
  (callFunc 104 #[.slice (some ⟨vb,vo,none⟩) la ca,.slice (some ⟨gb,go_,none⟩) lb cb]).run Tryz.prog w = .ok (.value (.bool false)) w:=by
 have hz:∀ w,(sizeOf 171).run Tryz.prog w = .ok 3 w:=by
  intro w
  obtain ⟨i,h1,h2,h3,h4⟩:=info_parts infoRowIF
  simp [sizeOf,typeInfo,h1,h3]
 rw [run_callFunc_extern Tryz.func104 (by kernel_rfl) (by kernel_rfl) (by kernel_rfl) (e:=Extern.SlicesOverlaps.overlaps #[143,143] #[4]) (by kernel_rfl),
  Lib.run_overlaps_apart w 143 4 171 undIF 3 hz ⟨vb,vo,none⟩ ⟨gb,go_,none⟩ la ca lb cb hne tA tB kA kB hsa hsb hkB hfa hfe]
 rfl
set_option maxRecDepth 20000 in
set_option maxHeartbeats 2000000 in
theorem slInsIF_shift (w:World) (g n cap i:Nat) (vb:Nat) (x:Int×(ByteArray×Sl)) (hs:OwnN 3 rcIF base 171 w (.slice (some ⟨g,0,none⟩) n cap) l) (hi:i < l.length) (hroom:l.length+1≤cap) (hlen:l.length≤100000) (hv:Blk w vb 171 (rcIF x)) (hvg:vb≠g) :
  Calls Tryz.prog 63 #[.slice (some ⟨g,0,none⟩) n cap,.int .i64 (i:Int),.slice (some ⟨vb,0,none⟩) 1 1] w fun e w'=>∃ v',e = .returned v'∧OwnN 3 rcIF base 171 w' v' (l.take i++x::l.drop i)∧Upd [g] w w'∧(∀ y∈blk v',y∈[g]∨w.heap.size≤y):=by
 obtain ⟨rfl,hb,hc,hm,cur,hg,hsz,hp⟩:=hs.open_ rcIF_len
 have hdl:((l.drop i).flatMap rcIF).length=(l.length-i)*3:=by rw [flatMap_len rcIF_len,List.length_drop]
 have htl:((l.take i).flatMap rcIF).length=i*3:=by rw [flatMap_len rcIF_len,List.length_take];congr 1;omega
 have hp1:Piece cur 0 ((l.take i).flatMap rcIF):=by rw [flat_split rcIF l i] at hp;exact hp.left
 have hp2:Piece cur (i*3) ((l.drop i).flatMap rcIF):=by rw [flat_split rcIF l i] at hp;have:=hp.right;rwa [htl,Nat.zero_add] at this
 have h1c:∀ u∈(l.drop i).flatMap rcIF,u.oneCell'=true:=mem_flat_one rcIF_one _
 generalize hcs:(l.drop i).flatMap rcIF=cs at *
 have hcap:(l.length+1)*3≤cur.size:=by rw [hsz];exact Nat.mul_le_mul_right 3 (by omega)
 have hfit:(i+1)*3+cs.length≤cur.size:=by rw [hdl];omega
 have hA:=(fun ty dc sc=>run_copy_lay (P:=Tryz.prog) (sz:=3) (dT:=143) (sT:=143) (ty:=ty) (dLen:=l.length+1-(i+1)) (dCap:=dc) (a:=⟨g,i*3,none⟩) (sLen:=l.length+1-i) (sCap:=sc) (k:=l.length-i) undIF (by kernel_rfl) w.drew hg (by simp only [Nat.min_def];split<;>omega) hdl (fun j u hu=>by rw [add_none];exact hp2.cell hg j u hu) hfit h1c)
 have hz:=lay_sz cur ((i+1)*3) cs hfit
 have k1:=hp1.stay ((i+1)*3) cs hfit (.inl (by omega))
 have k2:=Piece.lay cur ((i+1)*3) cs hfit
 generalize lay_ cur ((i+1)*3) cs=cur1 at *
 have hg1:(w.drew.setRow g cur1).heap[g]?=some (.cells cur1 171 (0,0)):=setRow_heap w.drew g cur cur1 _ _ hg
 have hu1:Upd [g] w (w.drew.setRow g cur1):=(Upd.refl [g] w).drew.setRow g _ (.inl (by simp))
 have hv1:=hv.upd hu1 (by simpa using hvg)
 obtain ⟨W1,hW1⟩:∃ W1,W1=w.drew.setRow g cur1:=⟨_,rfl⟩
 rw [← hW1] at hA hg1 hu1 hv1
 have hfx:i*3+(rcIF x).length≤cur1.size:=by rw [hz,rcIF_len];omega
 have hB:=(fun ty dc=>run_copy_lay (P:=Tryz.prog) (sz:=3) (dT:=143) (sT:=143) (ty:=ty) (dLen:=l.length+1-i) (dCap:=dc) (a:=⟨vb,0,none⟩) (sLen:=1) (sCap:=1) (k:=1) (cs:=rcIF x) undIF (by kernel_rfl) W1 hg1 (by simp only [Nat.min_def];split<;>omega) rfl (fun j u hu=>by rw [add_none,hv1.cell,Nat.zero_add];exact hu) hfx (rcIF_one x))
 have hz2:=lay_sz cur1 (i*3) (rcIF x) hfx
 have m1:=k1.stay (i*3) (rcIF x) hfx (.inl (by omega))
 have m2:=Piece.lay cur1 (i*3) (rcIF x) hfx
 have m3:=k2.stay (i*3) (rcIF x) hfx (.inr (by rw [rcIF_len];omega))
 generalize lay_ cur1 (i*3) (rcIF x)=cur2 at *
 have HK:=Lib.hid (show OwnN 3 rcIF base 171 (W1.setRow g cur2) (.slice (some ⟨g,0,none⟩) (l.length+1) cap) (l.take i++x::l.drop i) from by
  refine OwnN.of_piece rcIF_len cur2 (by simp;omega) hb (by simp;omega) hm (setRow_heap _ g cur1 _ _ _ hg1) (by rw [hz2,hz,hsz]) ?_
  rw [List.flatMap_append,List.flatMap_cons,hcs]
  refine m1.app ?_
  rw [htl,Nat.zero_add (i*3)]
  refine m2.app ?_
  rw [rcIF_len,show i*3+3=(i+1)*3 by omega]
  exact m3)
 have HU:=Lib.hid (show Upd [g] w (W1.setRow g cur2) from hu1.setRow g _ (.inl (by simp)))
 obtain ⟨W2,hW2⟩:∃ W2,W2=W1.setRow g cur2:=⟨_,rfl⟩
 rw [← hW2] at hB HK HU
 have HA:=Lib.hid hA
 have HB:=Lib.hid hB
 have HO:=Lib.hid (fun lb cb=>ovlIF w vb g 0 ((i+1)*3) 1 1 lb cb (rcIF x).toArray.size cur.size 171 171 hvg (by unfold World.shape?;rw [show w.heap[vb]?=_ from hv]) (by unfold World.shape?;rw [hg]) (by omega) (hv.frozen 0) (hv.frozen _))
 clear hs hp hp1 hp2 hsz hg hdl htl h1c hfit hz k1 k2 hg1 hcs hcap hA hB hv hv1 hu1 hfx hz2 m1 m2 m3 hW1 hW2
 have HL:=Lib.hid (show True from trivial)
 generalize l.length=n at *
 have hc63:cap≤9223372036854775807:=by unfold maxLen at hm;omega
 have hz1:¬ ((i:Int)=(n:Int)):=by omega
 have hw1:IntKind.i64.wrap ((i:Int)+1)=(i:Int)+1:=by rw [IntKind.wrap_i64];omega
 have hw2:IntKind.i64.wrap ((n:Int)+1)=(n:Int)+1:=by rw [IntKind.wrap_i64];omega
 have b1:(0:Int)≤(i:Int)+1:=by omega
 have b2:(0:Int)≤(n:Int)+1:=by omega
 have t1:((i:Int)+1).toNat=i+1:=by omega
 have t2:((n:Int)+1).toNat=n+1:=by omega
 have b3:¬ (cap=i+1):=by omega
 have b4:¬ (cap=i):=by omega
 have b5:(i:Int)+1≤(n:Int)+1:=by omega
 have b6:(i:Int)≤(n:Int)+1:=by omega
 have b7:(n:Int)+1≤(cap:Int):=by omega
 have b8:i≤n:=by omega
 go_enter Tryz.func63,Tryz.ntmps63
 go_wp2_with (simp only [HO.out])
 go_region_law (refine step_copy_eq rfl (.tmp 73) (.tmp 76) 143 143 rfl (.slice (some ⟨g,(i+1)*3,none⟩) (n+1-(i+1)) (cap-(i+1))) (.slice (some ⟨g,i*3,none⟩) (n+1-i) (cap-i)) (by simp [Act.eval,Act.put]) (by simp [Act.eval,Act.put]) (HA.out _ _ _) ?_)
 go_wp2_with (with_reducible refine wpList_copy_eq rfl (.tmp 80) (.tmp 81) 143 143 rfl (.slice (some ⟨g,i*3,none⟩) (n+1-i) (cap-i)) (.slice (some ⟨vb,0,none⟩) 1 1) rfl rfl (HB.out _ _) ?_)
 go_ret
 exact ⟨_,rfl,HK.out,HU.out,fun y hy => .inl (by simpa [blk] using hy)⟩
set_option maxRecDepth 20000 in
set_option maxHeartbeats 2000000 in
theorem slInsIF_grow (w:World) (g n cap i:Nat) (vb:Nat) (x:Int×(ByteArray×Sl)) (hs:OwnN 3 rcIF base 171 w (.slice (some ⟨g,0,none⟩) n cap) l) (hi:i < l.length) (hroom:cap < l.length+1) (hlen:l.length≤100000) (hbs:base≤w.heap.size) (hv:Blk w vb 171 (rcIF x)) :
  Calls Tryz.prog 63 #[.slice (some ⟨g,0,none⟩) n cap,.int .i64 (i:Int),.slice (some ⟨vb,0,none⟩) 1 1] w fun e w'=>∃ v',e = .returned v'∧OwnN 3 rcIF base 171 w' v' (l.take i++x::l.drop i)∧Upd [g] w w'∧(∀ y∈blk v',y∈[g]∨w.heap.size≤y):=by
 obtain ⟨rfl,hb,hc,hm,cur,hg,hsz,hp⟩:=hs.open_ rcIF_len
 obtain ⟨i0,hi0,hz0,hzs,hzb⟩:=info_parts infoRowIF
 have hdl:((l.drop i).flatMap rcIF).length=(l.length-i)*3:=by rw [flatMap_len rcIF_len,List.length_drop]
 have htl:((l.take i).flatMap rcIF).length=i*3:=by rw [flatMap_len rcIF_len,List.length_take];congr 1;omega
 have hp1:Piece cur 0 ((l.take i).flatMap rcIF):=by rw [flat_split rcIF l i] at hp;exact hp.left
 have hp2:Piece cur (i*3) ((l.drop i).flatMap rcIF):=by rw [flat_split rcIF l i] at hp;have:=hp.right;rwa [htl,Nat.zero_add] at this
 have h1c:∀ u∈(l.drop i).flatMap rcIF,u.oneCell'=true:=mem_flat_one rcIF_one _
 have hgw:g < w.heap.size:=(Array.getElem?_eq_some_iff.1 hg).1
 have hold:(Builtin.firstCells i0.size i (.slice (some ⟨g,0,none⟩) i cap)).run Tryz.prog w.drew = .ok ((l.take i).flatMap rcIF).toArray w.drew:=by
  rw [hzs]
  exact run_firstCells_some w.drew 3 i ⟨g,0,none⟩ i cap _ htl (fun j u hu=>by rw [add_none];exact hp1.cell hg j u hu)
 have hkk:(l.length:Int)+1-(i:Int)=((l.length+1-i:Nat):Int):=by omega
 have hik:i+(l.length+1-i)=l.length+1:=by omega
 have u3:Tryz.prog.underlying 3=some (.int .i64):=by kernel_rfl
 have hrz:=fun ty=>Lib.run_append_grow_zeros (P:=Tryz.prog) w 143 3 ty 171 i0 _ .i64 .i64 undIF u3 hi0 hz0 (some ⟨g,0,none⟩) i cap _ hold (l.length+1-i) (by omega) (by omega) (by omega) (by omega) (by rw [hzb];omega) (by rw [hzb,hik];exact growslice_fits (by omega) (by omega))
 rw [hik] at hrz
 have hGe:=grownCap_ge w (l.length+1) cap 171
 have hGm:grownCap w (l.length+1) cap 171≤maxLen:=grownCap_le_maxLen w (l.length+1) cap _ (by unfold maxLen;omega)
 generalize grownCap w (l.length+1) cap 171=G at *
 obtain ⟨ROW,hROW⟩:∃ ROW:Array Value,ROW=((l.take i).flatMap rcIF).toArray++Builtin.zeroCells (Value.agg #[.int .i64 0,.string ⟨#[]⟩,.slice none 0 0]).cells (l.length+1-i)++Builtin.zeroCells (Value.agg #[.int .i64 0,.string ⟨#[]⟩,.slice none 0 0]).cells (G-(l.length+1)):=⟨_,rfl⟩
 rw [← hROW] at hrz
 have hzz:(Value.agg #[.int .i64 0,.string ⟨#[]⟩,.slice none 0 0]).cells.size=3:=rfl
 have hRs:ROW.size=G*3:=by
  rw [hROW]
  simp only [Array.size_append,List.size_toArray,size_zeroCells,hzz,htl]
  omega
 have hRp:Piece ROW 0 ((l.take i).flatMap rcIF):=fun j u hu=>by
  have hj:=(List.getElem?_eq_some_iff.1 hu).1
  rw [hROW,Array.append_assoc,Array.getElem?_append_left (by simp only [Array.size_append,List.size_toArray];omega),Nat.zero_add]
  simpa using hu
 clear hROW hold hp1
 obtain ⟨W1,hW1⟩:∃ W1,W1=w.drew.alloc (.cells ROW 171):=⟨_,rfl⟩
 rw [← hW1] at hrz
 have hg1:W1.heap[w.heap.size]?=some (.cells ROW 171 (0,0)):=by rw [hW1];exact heap_alloc_new w.drew _
 have hu1:Upd [] w W1:=by rw [hW1];exact (Upd.refl [] w).drew.alloc _
 have hv1:=hv.upd hu1 (by simp)
 have hgg:=hu1.heap hg (by simp)
 generalize hgn:w.heap.size=gn at *
 have hgne:g≠gn:=by omega
 have hvw:vb < gn:=by rw [← hgn];exact hv.lt
 have hvne:vb≠gn:=by omega
 have hfx:i*3+(rcIF x).length≤ROW.size:=by rw [hRs,rcIF_len];omega
 have hB:=(fun ty dc=>run_copy_lay (P:=Tryz.prog) (sz:=3) (dT:=143) (sT:=143) (ty:=ty) (dLen:=l.length+1-i) (dCap:=dc) (a:=⟨vb,0,none⟩) (sLen:=1) (sCap:=1) (k:=1) (cs:=rcIF x) undIF (by kernel_rfl) W1 hg1 (by simp only [Nat.min_def];split<;>omega) rfl (fun j u hu=>by rw [add_none,hv1.cell,Nat.zero_add];exact hu) hfx (rcIF_one x))
 have hz2:=lay_sz ROW (i*3) (rcIF x) hfx
 have m1:=hRp.stay (i*3) (rcIF x) hfx (.inl (by omega))
 have m2:=Piece.lay ROW (i*3) (rcIF x) hfx
 generalize lay_ ROW (i*3) (rcIF x)=cur1 at *
 have hg2:(W1.setRow gn cur1).heap[gn]?=some (.cells cur1 171 (0,0)):=setRow_heap W1 gn ROW cur1 _ _ hg1
 have hu2:Upd [gn] W1 (W1.setRow gn cur1):=(Upd.refl [gn] W1).setRow gn _ (.inl (by simp))
 have hgg2:=hu2.heap hgg (by simpa using hgne)
 obtain ⟨W2,hW2⟩:∃ W2,W2=W1.setRow gn cur1:=⟨_,rfl⟩
 rw [← hW2] at hB hg2 hu2 hgg2
 generalize hcs:(l.drop i).flatMap rcIF=cs at *
 have hfit:(i+1)*3+cs.length≤cur1.size:=by rw [hdl,hz2,hRs];omega
 have hA:=(fun ty dc sc=>run_copy_lay (P:=Tryz.prog) (sz:=3) (dT:=143) (sT:=143) (ty:=ty) (dLen:=l.length+1-(i+1)) (dCap:=dc) (a:=⟨g,i*3,none⟩) (sLen:=l.length-i) (sCap:=sc) (k:=l.length-i) undIF (by kernel_rfl) W2.drew hg2 (by simp only [Nat.min_def];split<;>omega) hdl (fun j u hu=>by rw [add_none];exact hp2.cell hgg2 j u hu) hfit h1c)
 have hz3:=lay_sz cur1 ((i+1)*3) cs hfit
 have k1:=m1.stay ((i+1)*3) cs hfit (.inl (by omega))
 have k2:=m2.stay ((i+1)*3) cs hfit (.inl (by rw [rcIF_len];omega))
 have k3:=Piece.lay cur1 ((i+1)*3) cs hfit
 generalize lay_ cur1 ((i+1)*3) cs=cur2 at *
 have HK:=Lib.hid (show OwnN 3 rcIF base 171 (W2.drew.setRow gn cur2) (.slice (some ⟨gn,0,none⟩) (l.length+1) G) (l.take i++x::l.drop i) from by
  refine OwnN.of_piece rcIF_len cur2 (by simp;omega) hbs (by simp;omega) hGm (setRow_heap W2.drew gn cur1 _ _ _ hg2) (by rw [hz3,hz2,hRs]) ?_
  rw [List.flatMap_append,List.flatMap_cons,hcs]
  refine k1.app ?_
  rw [htl,Nat.zero_add (i*3)]
  refine k2.app ?_
  rw [rcIF_len,show i*3+3=(i+1)*3 by omega]
  exact k3)
 have HU:=Lib.hid (show Upd [g] w (W2.drew.setRow gn cur2) from (((hu1.trans (T:=[g]) hu2 (by simp) (fun y hy => .inr (by simp at hy;omega))).drew).setRow gn _ (.inr (by omega))))
 obtain ⟨W3,hW3⟩:∃ W3,W3=W2.drew.setRow gn cur2:=⟨_,rfl⟩
 rw [← hW3] at hA HK HU
 have HA:=Lib.hid hA
 have HB:=Lib.hid hB
 have hrz':∀ ty,(Builtin.append_ #[143,3] ty #[.slice (some ⟨g,0,none⟩) i cap,.int .i64 ((l.length:Int)+1-(i:Int))]).run Tryz.prog w = .ok (.slice (some ⟨gn,0,none⟩) (l.length+1) G) W1:=fun ty=>by rw [hkk];exact hrz ty
 have HZ:=Lib.hid hrz'
 have HG:=Lib.hid hgn
 clear hs hp hp2 hsz hg hdl htl h1c hfit k1 k2 k3 hg1 hg2 hcs hA hB hv hv1 hu1 hu2 hfx hz2 hz3 m1 m2 hW1 hW2 hW3 hrz hrz' hgg hgg2 hRs hRp hgn hgw hi0 hz0 hzs hzb hkk hik hzz hgne hvw hvne
 generalize l.length=n at *
 obtain rfl:cap=n:=by omega
 have hc63:G≤9223372036854775807:=by unfold maxLen at hGm;omega
 have hz1:¬ ((i:Int)=(cap:Int)):=by omega
 have hw1:IntKind.i64.wrap ((i:Int)+1)=(i:Int)+1:=by rw [IntKind.wrap_i64];omega
 have hw2:IntKind.i64.wrap ((cap:Int)+1)=(cap:Int)+1:=by rw [IntKind.wrap_i64];omega
 have hw3:IntKind.i64.wrap ((cap:Int)+1-(i:Int))=(cap:Int)+1-(i:Int):=by rw [IntKind.wrap_i64];omega
 have b1:(0:Int)≤(i:Int)+1:=by omega
 have b2:(0:Int)≤(cap:Int)+1:=by omega
 have t1:((i:Int)+1).toNat=i+1:=by omega
 have t2:((cap:Int)+1).toNat=cap+1:=by omega
 have b3:¬ (G=i+1):=by omega
 have b4:¬ (G=i):=by omega
 have b5:(i:Int)+1≤(cap:Int)+1:=by omega
 have b6:(i:Int)≤(cap:Int)+1:=by omega
 have b7:¬ (cap=i):=by omega
 have b8:i≤cap:=by omega
 go_enter Tryz.func63,Tryz.ntmps63
 go_wp2_with (first
  | (at_builtin;refine wpList_app_eq rfl _ _ 143 3 rfl (.slice (some ⟨g,0,none⟩) i cap) (.int .i64 ((cap:Int)+1-(i:Int))) rfl rfl (HZ.out _) ?_)
  | (with_reducible refine wpList_copy_eq rfl (.tmp 43) (.tmp 44) 143 143 rfl (.slice (some ⟨gn,i*3,none⟩) (cap+1-i) (G-i)) (.slice (some ⟨vb,0,none⟩) 1 1) rfl rfl (HB.out _ _) ?_))
 go_region_law (refine step_copy_eq rfl (.tmp 50) (.tmp 53) 143 143 rfl (.slice (some ⟨gn,(i+1)*3,none⟩) (cap+1-(i+1)) (G-(i+1))) (.slice (some ⟨g,i*3,none⟩) (cap-i) (cap-i)) (by simp [Act.eval,Act.put]) (by simp [Act.eval,Act.put]) (HA.out _ _ _) ?_)
 go_wp2_with fail
 go_ret
 exact ⟨_,rfl,HK.out,HU.out,fun y hy => .inr (by simp [blk] at hy;have:=HG.out;omega)⟩
theorem slInsIF_any (w:World) (v:Value) (i:Nat) (vb:Nat) (x:Int×(ByteArray×Sl)) (hs:OwnN 3 rcIF base 171 w v l) (hi:i≤l.length) (hlen:l.length≤100000) (hbs:base≤w.heap.size) (hv:Blk w vb 171 (rcIF x)) (hvg:vb∉blk v) :
  Calls Tryz.prog 63 #[v,.int .i64 (i:Int),.slice (some ⟨vb,0,none⟩) 1 1] w fun e w'=>∃ v',e = .returned v'∧OwnN 3 rcIF base 171 w' v' (l.take i++x::l.drop i)∧Upd (blk v) w w'∧(∀ y∈blk v',y∈blk v∨w.heap.size≤y):=by
 by_cases he:i=l.length
 ·subst he
  rw [List.take_length,List.drop_length]
  exact slInsIF_end w v vb x hs hlen hbs hv
 ·rcases hs.2 with ⟨-,h0⟩|⟨g,cap,cur,rfl,-⟩
  ·omega
  ·by_cases hc:l.length+1≤cap
   ·exact slInsIF_shift w g l.length cap i vb x hs (by omega) hc hlen hv (by simpa [blk] using hvg)
   ·exact slInsIF_grow w g l.length cap i vb x hs (by omega) (by omega) hlen hbs hv
end
end Go.Proofs.YthgnlfikneipiaaGreat
namespace Go.Proofs.YthgnlfikneipiaaGreat
open Go.RowKit
theorem blk_two {w:World} {b:Nat} {e:TypeId} {x0 y0:Value} (h:Blk w b e [x0,y0]) (x y:Value):Blk ((w.setCell ⟨b,0,none⟩ x).setCell ⟨b,1,none⟩ y) b e [x,y]:=by
 have:=(h.set_ 0 x).set_ 1 y
 simpa using this
abbrev zF:ByteArray×Sl:=(⟨#[]⟩,⟨none,0,0⟩)
section
variable {base : Nat} {g : Nat} {lv : Value} {l : List (Int × (ByteArray × Sl))} {w w' : World}
set_option maxRecDepth 20000 in
set_option maxHeartbeats 400000 in
theorem tGetIF_no (w:World) (k:Int) (hs:TBIF base w g lv l) (hr:Rising ltIF l) (hlen:l.length≤100000) (hk:I64 k) (hn:isIn ltIF l k=false) :
  Calls Tryz.prog 39 #[.pointer (some ⟨g,0,none⟩),iv k] w fun e w'=>e = .returned (.tuple #[fv zF,.bool false])∧Upd [] w w':=by
 have hu0:=(Upd.refl [] w).alloc (.cells #[.string ⟨#[]⟩,.slice none 0 0] 103)
 have hc:=tFindIF_any _ k (hs.upd0 hu0) hr hlen hk
 rw [hn] at hc
 have HC:=Lib.hid hc
 have HU0:=Lib.hid hu0
 clear hs hr hlen hk hc hn hu0
 go_enter Tryz.func39,Tryz.ntmps39
 go_wp2_with fail
 (with_reducible refine HC.out.mono ?_)
 rintro e w1 ⟨rfl,hu1⟩
 have d0:w1.cell? ⟨w.heap.size,0,none⟩=some (.string ⟨#[]⟩):=hu1.cell (by go_simp) (by simp)
 have d1:w1.cell? ⟨w.heap.size,1,none⟩=some (.slice none 0 0):=hu1.cell (by go_simp) (by simp)
 have hB:=(Blk.new w 103 [.string ⟨#[]⟩,.slice none 0 0]).upd hu1 (by simp)
 have f0:=hB.frozen 0
 have f1:=hB.frozen 1
 have HB:=Lib.hid ((blk_two hB (.string ⟨#[]⟩) (.slice none 0 0)).upd ((Upd.refl [] _).alloc (.cells #[.string ⟨#[]⟩,.slice none 0 0] 103)) (by simp))
 have HU:Hid (Upd [] w (((w1.setCell ⟨w.heap.size,0,none⟩ (.string ⟨#[]⟩)).setCell ⟨w.heap.size,1,none⟩ (.slice none 0 0)).alloc (.cells #[.string ⟨#[]⟩,.slice none 0 0] 103))) :=
  (((HU0.out.seq hu1).setCell _ _ (.inr (Nat.le_refl _))).setCell _ _ (.inr (Nat.le_refl _))).alloc _
 have hlt:w.heap.size < w1.heap.size:=hB.lt
 clear hB
 go_wp2_with fail
 have e0:=HB.out.cell 0
 have e1:=HB.out.cell 1
 have hU:=HU.out
 clear HB HU
 generalize World.alloc _ _=W at *
 exact bodyPost_ret (v := .tuple #[fv zF,.bool false]) (by simp [results,Tryz.results39,go_sem,e0,e1];try rfl) rfl ⟨rfl,hU⟩
set_option maxRecDepth 20000 in
set_option maxHeartbeats 400000 in
theorem tGetIF_ok (w:World) (k:Int) (hs:TBIF base w g lv l) (hr:Rising ltIF l) (hlen:l.length≤100000) (hk:I64 k) (hn:isIn ltIF l k=true) :
  Calls Tryz.prog 39 #[.pointer (some ⟨g,0,none⟩),iv k] w fun e w'=>e = .returned (.tuple #[fv (nth l (below ltIF l k)).2,.bool true])∧Upd [] w w':=by
 have hu0:=(Upd.refl [] w).alloc (.cells #[.string ⟨#[]⟩,.slice none 0 0] 103)
 have hc:=tFindIF_any _ k (hs.upd0 hu0) hr hlen hk
 rw [hn] at hc
 have HC:=Lib.hid hc
 have HU0:=Lib.hid hu0
 unfold isIn at hn
 have hlt:=(of_decide_eq_true hn).1
 obtain ⟨ao,co,rfl,hlc,hcm,hcell⟩:=hs.rows.rd rcIF_len
 obtain ⟨b,off,rfl,hc'⟩:=hcell (by intro h;simp [h] at hlt)
 have D0:=Lib.hid (show w.cell? ⟨g,0,none⟩=some (.slice (some ⟨b,off,none⟩) l.length co) from hs.tab.cell 0)
 have D1:=Lib.hid (show w.cell? ⟨b,off+below ltIF l k*3+1,none⟩=some (sv (nth l (below ltIF l k)).2.1) from hc' _ hlt 1 (by omega))
 have D2:=Lib.hid (show w.cell? ⟨b,off+below ltIF l k*3+2,none⟩=some (slv (nth l (below ltIF l k)).2.2) from hc' _ hlt 2 (by omega))
 clear hs hr hk hc hn hcell hc' hcm hu0
 generalize (nth l (below ltIF l k)).2=x at *
 obtain ⟨nm,sl⟩:=x
 generalize below ltIF l k=i at *
 have q1:(0:Int)≤i:=by omega
 have q2:(i:Int) < l.length:=by omega
 go_enter Tryz.func39,Tryz.ntmps39
 go_wp2_with fail
 (with_reducible refine HC.out.mono ?_)
 rintro e w1 ⟨rfl,hu1⟩
 have dd0:=(HU0.out.seq hu1).cell D0.out (by simp)
 have dd1:=(HU0.out.seq hu1).cell D1.out (by simp)
 have dd2:=(HU0.out.seq hu1).cell D2.out (by simp)
 have d0:w1.cell? ⟨w.heap.size,0,none⟩=some (.string ⟨#[]⟩):=hu1.cell (by go_simp) (by simp)
 have d1:w1.cell? ⟨w.heap.size,1,none⟩=some (.slice none 0 0):=hu1.cell (by go_simp) (by simp)
 have hB:=(Blk.new w 103 [.string ⟨#[]⟩,.slice none 0 0]).upd hu1 (by simp)
 have f0:=hB.frozen 0
 have f1:=hB.frozen 1
 have HB:=Lib.hid (blk_two hB (sv nm) (slv sl))
 have HU:Hid (Upd [] w ((w1.setCell ⟨w.heap.size,0,none⟩ (sv nm)).setCell ⟨w.heap.size,1,none⟩ (slv sl))) :=
  ((HU0.out.seq hu1).setCell _ _ (.inr (Nat.le_refl _))).setCell _ _ (.inr (Nat.le_refl _))
 clear hB
 go_wp2_with fail
 have e0:=HB.out.cell 0
 have e1:=HB.out.cell 1
 have hU:=HU.out
 clear HB HU
 generalize World.setCell _ _ _=W at *
 exact bodyPost_ret (v := .tuple #[fv (nm,sl),.bool true]) (by simp [results,Tryz.results39,go_sem,e0,e1];try rfl) rfl ⟨rfl,hU⟩
end
end Go.Proofs.YthgnlfikneipiaaGreat
namespace Go.Proofs.YthgnlfikneipiaaGreat
open Go.RowKit
section
variable {base : Nat} {g : Nat} {lv : Value} {l : List (Int × (ByteArray × Sl))} {w w' : World}
set_option maxRecDepth 20000 in
set_option maxHeartbeats 400000 in
theorem tAtIF_ok (w:World) (i:Nat) (hs:TBIF base w g lv l) (hlen:l.length≤100000) (hi:i < l.length) :
  Calls Tryz.prog 61 #[.pointer (some ⟨g,0,none⟩),.int .i64 (i:Int)] w fun e w'=>e = .returned (.tuple #[iv (nth l i).1,fv (nth l i).2,.bool true])∧Upd [] w w':=by
 obtain ⟨ao,co,rfl,hlc,hcm,hcell⟩:=hs.rows.rd rcIF_len
 obtain ⟨b,off,rfl,hc'⟩:=hcell (by intro h;simp [h] at hi)
 have D0:=Lib.hid (show w.cell? ⟨g,0,none⟩=some (.slice (some ⟨b,off,none⟩) l.length co) from hs.tab.cell 0)
 have D1:=Lib.hid (show w.cell? ⟨b,off+i*3,none⟩=some (iv (nth l i).1) from hc' _ hi 0 (by omega))
 have D2:=Lib.hid (show w.cell? ⟨b,off+i*3+1,none⟩=some (sv (nth l i).2.1) from hc' _ hi 1 (by omega))
 have D3:=Lib.hid (show w.cell? ⟨b,off+i*3+2,none⟩=some (slv (nth l i).2.2) from hc' _ hi 2 (by omega))
 clear hs hcell hc' hcm
 generalize (nth l i).1=x at *
 generalize (nth l i).2=y at *
 obtain ⟨nm,sl⟩:=y
 have q1:(0:Int)≤i:=by omega
 have q2:(i:Int) < l.length:=by omega
 have HU0:=Lib.hid ((Upd.refl [] w).alloc (.cells #[.string ⟨#[]⟩,.slice none 0 0] 103))
 have hB:=Blk.new w 103 [.string ⟨#[]⟩,.slice none 0 0]
 have c0:=HU0.out.cell D0.out (by simp)
 go_enter Tryz.func61,Tryz.ntmps61
 go_wp2_with fail
 generalize w.alloc (.cells #[.string ⟨#[]⟩,.slice none 0 0] 103)=v at *
 have c1:=HU0.out.cell D1.out (by simp)
 have c2:=HU0.out.cell D2.out (by simp)
 have c3:=HU0.out.cell D3.out (by simp)
 have hB':Blk v w.heap.size 103 [.string ⟨#[]⟩,.slice none 0 0]:=hB
 have d0:=hB'.cell 0
 have d1:=hB'.cell 1
 have f0:=hB'.frozen 0
 have f1:=hB'.frozen 1
 have HB:Hid (Blk ((v.setCell ⟨w.heap.size,0,none⟩ (sv nm)).setCell ⟨w.heap.size,1,none⟩ (slv sl)).drew w.heap.size 103 [sv nm,slv sl]):=blk_two hB' (sv nm) (slv sl)
 have HU:Hid (Upd [] w ((v.setCell ⟨w.heap.size,0,none⟩ (sv nm)).setCell ⟨w.heap.size,1,none⟩ (slv sl)).drew) :=
  ((HU0.out.setCell _ _ (.inr (Nat.le_refl _))).setCell _ _ (.inr (Nat.le_refl _))).drew
 clear hB hB'
 go_region
 all_goals (go_wp2_with fail)
 have e0:=HB.out.cell 0
 have e1:=HB.out.cell 1
 have hU:=HU.out
 clear HB HU
 generalize World.drew _=W at *
 exact bodyPost_ret (v := .tuple #[iv x,fv (nm,sl),.bool true]) (by simp [results,Tryz.results61,go_sem,e0,e1];try rfl) rfl ⟨rfl,hU⟩
set_option maxRecDepth 20000 in
set_option maxHeartbeats 400000 in
theorem tAtIF_neg (w:World) (i:Int) (hi64:I64 i) (hs:TBIF base w g lv l) (hi:i < 0) :
  Calls Tryz.prog 61 #[.pointer (some ⟨g,0,none⟩),.int .i64 i] w fun e w'=>e = .returned (.tuple #[iv 0,fv zF,.bool false])∧Upd [] w w':=by
 obtain ⟨ao,co,rfl,hlc,hcm,hcell⟩:=hs.rows.rd rcIF_len
 have D0:=Lib.hid (show w.cell? ⟨g,0,none⟩=some (.slice ao l.length co) from hs.tab.cell 0)
 clear hs hcell hcm
 have HU0:=Lib.hid ((Upd.refl [] w).alloc (.cells #[.string ⟨#[]⟩,.slice none 0 0] 103))
 have hB0:=Blk.new w 103 [.string ⟨#[]⟩,.slice none 0 0]
 have c0:=HU0.out.cell D0.out (by simp)
 go_enter Tryz.func61,Tryz.ntmps61
 go_wp2_with fail
 have HUa:=Lib.hid (HU0.out.alloc (.cells #[.int .i64 0,.string ⟨#[]⟩,.slice none 0 0] 171))
 have hB:=hB0.upd ((Upd.refl [] _).alloc (.cells #[.int .i64 0,.string ⟨#[]⟩,.slice none 0 0] 171)) (by simp)
 have hR:=Blk.new (w.alloc (.cells #[.string ⟨#[]⟩,.slice none 0 0] 103)) 171 [.int .i64 0,.string ⟨#[]⟩,.slice none 0 0]
 have hne:w.heap.size≠w.heap.size+1:=by omega
 have hsz:(w.alloc (.cells #[.string ⟨#[]⟩,.slice none 0 0] 103)).heap.size=w.heap.size+1:=by simp
 rw [hsz] at hR
 clear hB0 HU0 c0 hsz
 change Blk ((w.alloc (.cells #[.string ⟨#[]⟩,.slice none 0 0] 103)).alloc (.cells #[.int .i64 0,.string ⟨#[]⟩,.slice none 0 0] 171)) _ _ _ at hR
 generalize (w.alloc (.cells #[.string ⟨#[]⟩,.slice none 0 0] 103)).alloc (.cells #[.int .i64 0,.string ⟨#[]⟩,.slice none 0 0] 171)=v at *
 have d0:=hB.cell 0
 have d1:=hB.cell 1
 have f0:=hB.frozen 0
 have f1:=hB.frozen 1
 have r0:=hR.cell 0
 have r1:=hR.cell 1
 have r2:=hR.cell 2
 simp only [List.getElem?_cons_zero,List.getElem?_cons_succ] at d0 d1 r0 r1 r2
 have HB:Hid (Blk ((v.setCell ⟨w.heap.size,0,none⟩ (.string ⟨#[]⟩)).setCell ⟨w.heap.size,1,none⟩ (.slice none 0 0)).drew w.heap.size 103 [.string ⟨#[]⟩,.slice none 0 0]):=blk_two hB _ _
 have HU:Hid (Upd [] w ((v.setCell ⟨w.heap.size,0,none⟩ (.string ⟨#[]⟩)).setCell ⟨w.heap.size,1,none⟩ (.slice none 0 0)).drew) :=
  ((HUa.out.setCell _ _ (.inr (Nat.le_refl _))).setCell _ _ (.inr (Nat.le_refl _))).drew
 clear hB hR HUa
 go_region
 all_goals (go_wp2_with fail)
 all_goals
  have e0:=HB.out.cell 0
  have e1:=HB.out.cell 1
  have hU:=HU.out
  clear HB HU
  generalize World.drew _=W at *
  exact bodyPost_ret (v := .tuple #[iv 0,fv zF,.bool false]) (by simp [results,Tryz.results61,go_sem,e0,e1];try rfl) rfl ⟨rfl,hU⟩
set_option maxRecDepth 20000 in
set_option maxHeartbeats 400000 in
theorem tAtIF_high (w:World) (i:Int) (hi64:I64 i) (hs:TBIF base w g lv l) (hlen:l.length≤100000) (hi:(l.length:Int)≤i) :
  Calls Tryz.prog 61 #[.pointer (some ⟨g,0,none⟩),.int .i64 i] w fun e w'=>e = .returned (.tuple #[iv 0,fv zF,.bool false])∧Upd [] w w':=by
 obtain ⟨ao,co,rfl,hlc,hcm,hcell⟩:=hs.rows.rd rcIF_len
 have D0:=Lib.hid (show w.cell? ⟨g,0,none⟩=some (.slice ao l.length co) from hs.tab.cell 0)
 have q1:(0:Int)≤i:=by omega
 clear hs hcell hcm
 have HU0:=Lib.hid ((Upd.refl [] w).alloc (.cells #[.string ⟨#[]⟩,.slice none 0 0] 103))
 have hB0:=Blk.new w 103 [.string ⟨#[]⟩,.slice none 0 0]
 have c0:=HU0.out.cell D0.out (by simp)
 go_enter Tryz.func61,Tryz.ntmps61
 go_wp2_with fail
 have HUa:=Lib.hid (HU0.out.alloc (.cells #[.int .i64 0,.string ⟨#[]⟩,.slice none 0 0] 171))
 have hB:=hB0.upd ((Upd.refl [] _).alloc (.cells #[.int .i64 0,.string ⟨#[]⟩,.slice none 0 0] 171)) (by simp)
 have hR:=Blk.new (w.alloc (.cells #[.string ⟨#[]⟩,.slice none 0 0] 103)) 171 [.int .i64 0,.string ⟨#[]⟩,.slice none 0 0]
 have hne:w.heap.size≠w.heap.size+1:=by omega
 have hsz:(w.alloc (.cells #[.string ⟨#[]⟩,.slice none 0 0] 103)).heap.size=w.heap.size+1:=by simp
 rw [hsz] at hR
 clear hB0 HU0 c0 hsz
 change Blk ((w.alloc (.cells #[.string ⟨#[]⟩,.slice none 0 0] 103)).alloc (.cells #[.int .i64 0,.string ⟨#[]⟩,.slice none 0 0] 171)) _ _ _ at hR
 generalize (w.alloc (.cells #[.string ⟨#[]⟩,.slice none 0 0] 103)).alloc (.cells #[.int .i64 0,.string ⟨#[]⟩,.slice none 0 0] 171)=v at *
 have d0:=hB.cell 0
 have d1:=hB.cell 1
 have f0:=hB.frozen 0
 have f1:=hB.frozen 1
 have r0:=hR.cell 0
 have r1:=hR.cell 1
 have r2:=hR.cell 2
 simp only [List.getElem?_cons_zero,List.getElem?_cons_succ] at d0 d1 r0 r1 r2
 have HB:Hid (Blk ((v.setCell ⟨w.heap.size,0,none⟩ (.string ⟨#[]⟩)).setCell ⟨w.heap.size,1,none⟩ (.slice none 0 0)).drew w.heap.size 103 [.string ⟨#[]⟩,.slice none 0 0]):=blk_two hB _ _
 have HU:Hid (Upd [] w ((v.setCell ⟨w.heap.size,0,none⟩ (.string ⟨#[]⟩)).setCell ⟨w.heap.size,1,none⟩ (.slice none 0 0)).drew) :=
  ((HUa.out.setCell _ _ (.inr (Nat.le_refl _))).setCell _ _ (.inr (Nat.le_refl _))).drew
 clear hB hR HUa
 go_region
 all_goals (go_wp2_with fail)
 all_goals
  have e0:=HB.out.cell 0
  have e1:=HB.out.cell 1
  have hU:=HU.out
  clear HB HU
  generalize World.drew _=W at *
  exact bodyPost_ret (v := .tuple #[iv 0,fv zF,.bool false]) (by simp [results,Tryz.results61,go_sem,e0,e1];try rfl) rfl ⟨rfl,hU⟩
end
end Go.Proofs.YthgnlfikneipiaaGreat
namespace Go.Proofs.YthgnlfikneipiaaGreat
open Go.RowKit
section
variable {base : Nat} {g : Nat} {lv : Value} {l : List (Int × (ByteArray × Sl))} {w w' : World}
set_option maxRecDepth 20000 in
set_option maxHeartbeats 400000 in
theorem tSetIF_old (w:World) (k:Int) (y:ByteArray×Sl) (hs:TBIF base w g lv l) (hr:Rising ltIF l) (hlen:l.length≤100000) (hk:I64 k) (hn:isIn ltIF l k=true) :
  Calls Tryz.prog 40 #[.pointer (some ⟨g,0,none⟩),iv k,fv y] w fun e w'=>e = .returned (.bool false)∧TBIF base w' g lv (l.set (below ltIF l k) ((nth l (below ltIF l k)).1,y))∧Upd (blk lv) w w':=by
 obtain ⟨nm,sl⟩:=y
 have hu0:=(Upd.refl [] w).alloc (.cells #[sv nm,slv sl] 103)
 have hs0:=hs.upd0 hu0
 have hc:=tFindIF_any _ k hs0 hr hlen hk
 rw [hn] at hc
 have HC:=Lib.hid hc
 have HS:=Lib.hid hs0
 unfold isIn at hn
 have hlt:=(of_decide_eq_true hn).1
 have hgl:=hs.g_lv
 rcases hs0.rows.2 with ⟨-,h0⟩|⟨b,co,cur,rfl,hb,hg,-⟩
 ·omega
 have hbw:b < w.heap.size:=(hs.rows.ge b (by simp [blk])).2
 have HL:=Lib.hid hlt
 obtain ⟨ao',co',e',-,-,hcell⟩:=hs.rows.rd rcIF_len
 injection e' with e1 e2 e3
 obtain ⟨b',off,e4,hc'⟩:=hcell (by intro h;simp [h] at hlt)
 rw [e4] at e1
 injection e1 with e1;injection e1 with e1 e5
 subst e1;subst e5
 have D0:=Lib.hid (show w.cell? ⟨g,0,none⟩=some (.slice (some ⟨b,0,none⟩) l.length co) from hs.tab.cell 0)
 have D1:=Lib.hid (show w.cell? ⟨b,below ltIF l k*3+1,none⟩=some (sv (nth l (below ltIF l k)).2.1) from by simpa using hc' _ hlt 1 (by omega))
 have D2:=Lib.hid (show w.cell? ⟨b,below ltIF l k*3+2,none⟩=some (slv (nth l (below ltIF l k)).2.2) from by simpa using hc' _ hlt 2 (by omega))
 have HG:=Lib.hid hg
 have HU0:=Lib.hid hu0
 clear hs hs0 hr hk hc hn hgl hg hcell hc' e2 e3 e4 hu0
 generalize below ltIF l k=i at *
 have q1:(0:Int)≤i:=by omega
 have q2:(i:Int) < l.length:=by omega
 go_enter Tryz.func40,Tryz.ntmps40
 go_wp2_with fail
 (with_reducible refine HC.out.mono ?_)
 rintro e w1 ⟨rfl,hu1⟩
 have x0:=hu1.cell (p:=⟨w.heap.size,0,none⟩) (v:=sv nm) (by go_simp) (by simp)
 have x1:=hu1.cell (p:=⟨w.heap.size,1,none⟩) (v:=slv sl) (by go_simp) (by simp)
 have HU1:=Lib.hid (HU0.out.seq hu1)
 have d0:=HU1.out.cell D0.out (by simp)
 have d1:=HU1.out.cell D1.out (by simp)
 have d2:=HU1.out.cell D2.out (by simp)
 have hg1:=hu1.heap HG.out (by simp)
 have f1:w1.frozen? ⟨b,i*3+1,none⟩=false:=frozen_of_row w1 b _ cur _ hg1
 have f2:w1.frozen? ⟨b,i*3+2,none⟩=false:=frozen_of_row w1 b _ cur _ hg1
 have HS1:=Lib.hid (HS.out.upd0 hu1)
 clear hu1 hg1
 go_wp2_with fail
 go_region
 all_goals (go_wp2_with fail)
 all_goals
  go_ret
  have hl:=HL.out
  have hs1:=HS1.out
  have hgb:g≠b:=fun e=>hs1.g_lv (by rw [e];simp [blk])
  have hst:Upd [b] w1 ((w1.setCell ⟨b,i*3+1,none⟩ (sv nm)).setCell ⟨b,i*3+2,none⟩ (slv sl)):=((Upd.refl [b] w1).setCell _ _ (.inl (by simp))).setCell _ _ (.inl (by simp))
  refine ⟨rfl,⟨(hs1.tab.upd hst (by simpa using hgb)).upd (Upd.refl [] _).drew (by simp),?_,hs1.gb⟩,?_⟩
  ·have h1:=OwnN.set_ rcIF_len hs1.rows i 1 hl (by omega) (sv nm) (l[i].1,nm,l[i].2.2) rfl
   have h2:=OwnN.set_ rcIF_len h1 i 2 (by rw [List.length_set];exact hl) (by omega) (slv sl) (l[i].1,nm,sl) (by rw [List.getElem_set_self];rfl)
   rw [List.set_set] at h2
   rw [nth_get l i hl]
   exact h2.upd (Upd.refl [] _).drew (by simp)
  ·exact (((show Upd [b] w w1 from HU1.out.mono (by simp)).setCell _ _ (.inl (by simp))).setCell _ _ (.inl (by simp))).drew
set_option maxRecDepth 20000 in
set_option maxHeartbeats 1000000 in
theorem tSetIF_new (w:World) (k:Int) (y:ByteArray×Sl) (hs:TBIF base w g lv l) (hr:Rising ltIF l) (hlen:l.length≤100000) (hbs:base≤w.heap.size) (hk:I64 k) (hn:isIn ltIF l k=false) :
  Calls Tryz.prog 40 #[.pointer (some ⟨g,0,none⟩),iv k,fv y] w fun e w'=>e = .returned (.bool true)∧∃ lv',TBIF base w' g lv' (l.take (below ltIF l k)++(k,y)::l.drop (below ltIF l k))∧Upd (g::blk lv) w w'∧(∀ x∈blk lv',x∈blk lv∨w.heap.size≤x):=by
 obtain ⟨nm,sl⟩:=y
 have hu0:=(Upd.refl [] w).alloc (.cells #[sv nm,slv sl] 103)
 have hs0:=hs.upd0 hu0
 have hc:=tFindIF_any _ k hs0 hr hlen hk
 rw [hn] at hc
 have HC:=Lib.hid hc
 have HS:=Lib.hid hs
 have HU0:=Lib.hid hu0
 have hle:=below_le (lt:=ltIF) l k
 have HD:Hid (∀ (w1 W:World) (G:Nat),Upd [] w w1→Upd [] w1 W→w1.heap.size≤G→Blk W G 171 [iv k,sv nm,slv sl]→Calls Tryz.prog 63 #[lv,.int .i64 ((below ltIF l k:Nat):Int),.slice (some ⟨G,0,none⟩) 1 1] W fun e w'=>∃ v',e = .returned v'∧OwnN 3 rcIF base 171 w' v' (l.take (below ltIF l k)++(k,nm,sl)::l.drop (below ltIF l k))∧Upd (blk lv) W w'∧(∀ y∈blk v',y∈blk lv∨W.heap.size≤y)):=fun w1 W G h1 h2 hG hB =>
  slInsIF_any W lv (below ltIF l k) G (k,nm,sl) (hs.rows.upd (h1.seq h2) (by simp)) hle hlen (by have:=h1.size;have:=h2.size;omega) hB (fun hx=>by have:=(hs.rows.ge _ hx).2;have:=h1.size;omega)
 have D0:=Lib.hid (show w.cell? ⟨g,0,none⟩=some lv from hs.tab.cell 0)
 obtain ⟨ao,n,co,rfl⟩:=hs.rows.slice_
 clear hs hs0 hr hk hc hn hbs hle hu0
 generalize below ltIF l k=i at *
 go_enter Tryz.func40,Tryz.ntmps40
 go_wp2_with fail
 (with_reducible refine HC.out.mono ?_)
 rintro e w1 ⟨rfl,hu1⟩
 have x0:=hu1.cell (p:=⟨w.heap.size,0,none⟩) (v:=sv nm) (by go_simp) (by simp)
 have x1:=hu1.cell (p:=⟨w.heap.size,1,none⟩) (v:=slv sl) (by go_simp) (by simp)
 have HU1:=Lib.hid (HU0.out.seq hu1)
 have d0:=HU1.out.cell D0.out (by simp)
 have hgl:=HS.out.g_lv
 have htab:=HS.out.tab.upd HU1.out (by simp)
 have hua:=(Upd.refl [] w1).alloc (.cells #[iv k,sv nm,slv sl] 171)
 have d0a:=hua.cell d0 (by simp)
 have x0a:=hua.cell x0 (by simp)
 have x1a:=hua.cell x1 (by simp)
 clear hu1 hua
 go_wp2_with fail
 go_region_law
  (first
   | (go_simp;go_at_call 63;(with_reducible refine (HD.out w1 _ w1.heap.size HU1.out ?_ (Nat.le_refl _) ?_).mono ?_);(repeat (first|exact Upd.refl _ _|apply Upd.drew|apply Upd.drewN|apply Upd.alloc));(refine Blk.fresh (w:=w1) (C:=#[iv k,sv nm,slv sl]) (xs:=[iv k,sv nm,slv sl]) rfl rfl ?_;(repeat (first|exact Upd.refl _ _|apply Upd.drew|apply Upd.drewN|apply Upd.alloc)));(rintro e w2 ⟨v2,rfl,ho2,hu2,hb2⟩;obtain ⟨ao2,n2,co2,rfl⟩:=ho2.slice_;have hu3:Upd [] w1 _:=Upd.alloc (Upd.drew (Upd.refl [] w1)) (.cells #[iv k,sv nm,slv sl] 171);have ht2:Blk w2 g 145 _:=(htab.upd hu3 (by simp)).upd hu2 hgl;have f0:=ht2.frozen 0;have e0:=ht2.cell 0;dsimp only)))
 all_goals
  have hua:=((Upd.refl [] w1).alloc (.cells #[iv k,sv nm,slv sl] 171)).drew
  have hu4:Upd (g::blk (.slice ao n co)) w (w2.setCell ⟨g,0,none⟩ (.slice ao2 n2 co2)):=((HU1.out.seq hua).trans (T:=g::blk (.slice ao n co)) hu2 (by simp) (fun x hx => .inl (by simp [hx]))).setCell _ _ (.inl (by simp))
  have hb3:∀ x∈blk (.slice ao2 n2 co2),x∈blk (.slice ao n co)∨w.heap.size≤x:=fun x hx=>(hb2 x hx).imp id (fun h=>by have:=(HU1.out.seq hua).size;omega)
  have hg2:g∉blk (.slice ao2 n2 co2):=fun hx=>by
   rcases hb3 g hx with q|q
   ·exact hgl q
   ·have:=HS.out.tab.lt;omega
  have HT:Hid (TBIF base (w2.setCell ⟨g,0,none⟩ (.slice ao2 n2 co2)) g (.slice ao2 n2 co2) (l.take i++(k,nm,sl)::l.drop i)) :=
   ⟨by simpa using ht2.set_ 0 (.slice ao2 n2 co2),ho2.upd ((Upd.refl [g] _).setCell _ _ (.inl (by simp))) (by intro x hx;simp;rintro rfl;exact hg2 hx),HS.out.gb⟩
  have HU4:=Lib.hid hu4
  have HB3:=Lib.hid hb3
  clear hua hu4 hb3 hg2 hu2 ho2 hb2 ht2 hgl
  go_wp2_with fail
  go_ret
  exact ⟨rfl,_,HT.out,HU4.out,HB3.out⟩
theorem tSetIF_any (w:World) (k:Int) (y:ByteArray×Sl) (hs:TBIF base w g lv l) (hr:Rising ltIF l) (hlen:l.length≤100000) (hbs:base≤w.heap.size) (hk:I64 k) :
  Calls Tryz.prog 40 #[.pointer (some ⟨g,0,none⟩),iv k,fv y] w fun e w'=>e = .returned (.bool (!isIn ltIF l k))∧∃ lv',TBIF base w' g lv' (tSet ltIF l k y)∧Upd (g::blk lv) w w'∧(∀ x∈blk lv',x∈blk lv∨w.heap.size≤x):=by
 cases hn:isIn ltIF l k with
 | false =>
  refine (tSetIF_new w k y hs hr hlen hbs hk hn).mono ?_
  rintro e w' ⟨rfl,v',ht,hu,hb⟩
  exact ⟨rfl,v',by unfold tSet;rw [hn];exact ht,hu,hb⟩
 | true =>
  refine (tSetIF_old w k y hs hr hlen hk hn).mono ?_
  rintro e w' ⟨rfl,ht,hu⟩
  refine ⟨rfl,lv,?_,hu.mono (fun x hx => .inl (by simp [hx])),fun x hx => .inl hx⟩
  rw [tSet_in l k y hn];exact ht
end
end Go.Proofs.YthgnlfikneipiaaGreat
namespace Go.Proofs.YthgnlfikneipiaaGreat
open Go.RowKit
structure TXIF (w0 w:World) (g:Nat) (F:List Nat) (l:List (Int×(ByteArray×Sl))):Prop where
 ex:∃ lv,F=g::blk lv∧TBIF w0.heap.size w g lv l
 ris:Rising ltIF l
 old:Upd [] w0 w
section
variable {w0 w w' : World} {g : Nat} {F : List Nat} {l : List (Int × (ByteArray × Sl))}
theorem TXIF.ge (h:TXIF w0 w g F l):∀ x∈F,w0.heap.size≤x∧x < w.heap.size:=by
 obtain ⟨lv,rfl,ht⟩:=h.ex
 exact ht.lt
theorem TXIF.upd (h:TXIF w0 w g F l) {S:List Nat} (hu:Upd S w w') (hs:∀ x∈F,x∉S) (hS:∀ x∈S,w0.heap.size≤x):TXIF w0 w' g F l:=by
 obtain ⟨lv,rfl,ht⟩:=h.ex
 exact ⟨⟨lv,rfl,ht.upd hu hs⟩,h.ris,h.old.trans hu (by simp) (fun x hx => .inr (hS x hx))⟩
theorem TXIF.upd0 (h:TXIF w0 w g F l) (hu:Upd [] w w'):TXIF w0 w' g F l:=h.upd hu (by simp) (by simp)
theorem txIF_New (w0 w:World) (hu:Upd [] w0 w) :
  Calls Tryz.prog 30 #[] w fun e w'=>∃ g F,e = .returned (.pointer (some ⟨g,0,none⟩))∧TXIF w0 w' g F []∧Upd [] w w'∧(∀ x∈F,w.heap.size≤x):=by
 refine (tNewIF_any w).mono ?_
 rintro e w' ⟨rfl,ht,hu'⟩
 exact ⟨_,_,rfl,⟨⟨_,rfl,⟨ht.tab,OwnN.nil _ _ _,hu.size⟩⟩,Rising.nil,hu.seq hu'⟩,hu',fun x hx=>(ht.lt x hx).1⟩
theorem txIF_Set (k:Int) (y:(ByteArray×Sl)) (r:Bool) (l':List (Int×(ByteArray×Sl))) (hs:TXIF w0 w g F l) (hlen:l.length≤100000) (hk:I64 k) (h1:(!isIn ltIF l k)=r) (h2:tSet ltIF l k y=l') :
  Calls Tryz.prog 40 #[.pointer (some ⟨g,0,none⟩),iv k,fv y] w fun e w'=>e = .returned (.bool r)∧∃ F',TXIF w0 w' g F' l'∧Upd F w w'∧(∀ x∈F',x∈F∨w.heap.size≤x):=by
 subst h1;subst h2
 have hold:=hs.old
 obtain ⟨⟨lv,rfl,ht⟩,hr,-⟩:=hs
 refine (tSetIF_any w k y ht hr hlen hold.size hk).mono ?_
 rintro e w' ⟨rfl,lv',ht',hu,hb⟩
 refine ⟨rfl,g::blk lv',⟨⟨lv',rfl,ht'⟩,hr.set_ intOrd k y,hold.trans hu (by simp) (fun x hx => .inr (ht.lt x hx).1)⟩,hu,fun x hx=>?_⟩
 rcases List.mem_cons.1 hx with rfl|hx
 ·exact .inl (by simp)
 ·exact (hb x hx).imp (fun q=>by simp [q]) id
theorem txIF_Get (k:Int) (y:(ByteArray×Sl)) (r:Bool) (hs:TXIF w0 w g F l) (hlen:l.length≤100000) (hk:I64 k) (h:tGet ltIF (((⟨#[]⟩:ByteArray),(⟨none,0,0⟩:Sl)):ByteArray×Sl) l k=(y,r)) :
  Calls Tryz.prog 39 #[.pointer (some ⟨g,0,none⟩),iv k] w fun e w'=>e = .returned (.tuple #[fv y,.bool r])∧Upd [] w w':=by
 obtain ⟨⟨lv,rfl,ht⟩,hr,-⟩:=hs
 unfold tGet at h
 cases hn:isIn ltIF l k with
 | false=>rw [hn] at h;injection h with h1 h2;subst h1;subst h2;exact tGetIF_no w k ht hr hlen hk hn
 | true=>rw [hn] at h;injection h with h1 h2;subst h1;subst h2;exact tGetIF_ok w k ht hr hlen hk hn
theorem txIF_Len (n:Int) (hs:TXIF w0 w g F l) (h:(l.length:Int)=n) :
  Calls Tryz.prog 38 #[.pointer (some ⟨g,0,none⟩)] w fun e w'=>e = .returned (.int .i64 n)∧w=w':=by
 subst h
 obtain ⟨⟨lv,rfl,ht⟩,hr,-⟩:=hs
 exact tLenIF_any w ht
theorem txIF_At (i:Int) (k:Int) (y:(ByteArray×Sl)) (r:Bool) (hi:I64 i) (hs:TXIF w0 w g F l) (hlen:l.length≤100000) (h:tAt (0:Int) (((⟨#[]⟩:ByteArray),(⟨none,0,0⟩:Sl)):ByteArray×Sl) l i=(k,y,r)) :
  Calls Tryz.prog 61 #[.pointer (some ⟨g,0,none⟩),.int .i64 i] w fun e w'=>e = .returned (.tuple #[iv k,fv y,.bool r])∧Upd [] w w':=by
 obtain ⟨⟨lv,rfl,ht⟩,hr,-⟩:=hs
 unfold tAt at h
 split at h
 ·rename_i hd
  obtain ⟨j,rfl⟩:=Int.eq_ofNat_of_zero_le hd.1
  injection h with h1 h2;injection h2 with h2 h3;subst h1;subst h2;subst h3
  exact tAtIF_ok w j ht hlen (by omega)
 ·rename_i hd
  injection h with h1 h2;injection h2 with h2 h3;subst h1;subst h2;subst h3
  by_cases h0:i < 0
  ·exact tAtIF_neg w i hi ht h0
  ·exact tAtIF_high w i hi ht hlen (by omega)
end
end Go.Proofs.YthgnlfikneipiaaGreat
namespace Go.Proofs.YthgnlfikneipiaaGreat
open Go.RowKit
abbrev rcIJ (p:Int×Int):List Value:=[iv p.1,iv p.2]
theorem rcIJ_len:∀ p,(rcIJ p).length=2:=fun _=>rfl
theorem infoRowIJ:(Tryz.prog.info? 389).map (fun i=>(i.zero,i.size,i.bytes))=some (some (.agg #[.int .i64 0,.int .i64 0]),2,16):=by kernel_rfl
abbrev ltIJ:Int→Int→Bool:=fun a b=>decide (a < b)
structure TBIJ (base:Nat) (w:World) (g:Nat) (lv:Value) (l:List (Int×Int)):Prop where
 tab:Blk w g 148 [lv]
 rows:OwnN 2 rcIJ base 389 w lv l
 gb:base≤g
section
variable {base : Nat} {g : Nat} {lv : Value} {l : List (Int × Int)} {w w' : World}
theorem TBIJ.upd (h:TBIJ base w g lv l) {S:List Nat} (hu:Upd S w w') (hs:∀ x∈g::blk lv,x∉S):TBIJ base w' g lv l :=
 ⟨h.tab.upd hu (hs g (by simp)),h.rows.upd hu (fun x hx=>hs x (by simp [hx])),h.gb⟩
theorem TBIJ.upd0 (h:TBIJ base w g lv l) (hu:Upd [] w w'):TBIJ base w' g lv l:=h.upd hu (by simp)
theorem TBIJ.g_lv (h:TBIJ base w g lv l):g∉blk lv:=fun e=>by
 obtain ⟨C,f,hq⟩:=h.rows.typ g e
 exact h.tab.ne g hq (by decide) rfl
theorem TBIJ.lt (h:TBIJ base w g lv l):∀ x∈g::blk lv,base≤x∧x < w.heap.size:=by
 intro x hx
 rcases List.mem_cons.1 hx with rfl|hx
 ·exact ⟨h.gb,h.tab.lt⟩
 ·exact h.rows.ge x hx
theorem tNewIJ_any (w:World) :
  Calls Tryz.prog 31 #[] w fun e w'=>e = .returned (.pointer (some ⟨w.heap.size,0,none⟩))∧TBIJ w.heap.size w' w.heap.size (.slice none 0 0) []∧Upd [] w w':=by
 go_enter Tryz.func31,Tryz.ntmps31
 go_wp2
 go_ret
 exact ⟨rfl,⟨Blk.new w _ [.slice none 0 0],OwnN.nil _ _ _,Nat.le_refl _⟩,(Upd.refl [] w).alloc _⟩
set_option maxRecDepth 20000 in
set_option maxHeartbeats 1000000 in
theorem tFindIJ_any (w:World) (k:Int) (hs:TBIJ base w g lv l) (hr:Rising ltIJ l) (hlen:l.length≤100000) (hk:I64 k) :
  Calls Tryz.prog 215 #[.pointer (some ⟨g,0,none⟩),iv k] w fun e w'=>e = .returned (.tuple #[.int .i64 (below ltIJ l k:Int),.bool (isIn ltIJ l k)])∧Upd [] w w':=by
 have HS:=Lib.hid hs
 have HR:=Lib.hid hr
 obtain ⟨ao,co,rfl,hlc,hcm,hcell⟩:=hs.rows.rd rcIJ_len
 have c0:w.cell? ⟨g,0,none⟩=some (.slice ao l.length co):=hs.tab.cell 0
 have HC:=Lib.hid hcell
 clear hs hr hcell hcm
 go_enter Tryz.func215,Tryz.ntmps215
 go_wp2_with fail
 go_quiet (fail)
 have HU:=Lib.hid ((Upd.refl [] w).drewN nq)
 generalize w.drewN nq=v at *
 replace c0:=HU.out.cell c0 (by simp)
 go_wp2_with fail
 go_loop [6,7] (fun lo hi=>∃ a b:Nat,lo = .int .i64 a∧hi = .int .i64 b∧a≤b∧b≤l.length∧Hid (∀ j,j < a→ltIJ (nth l j).1 k=true)∧Hid (∀ j,b≤j→j < l.length→ltIJ (nth l j).1 k=false)) (fun lo hi=>(intOf hi).toNat-(intOf lo).toNat)
 case atStart=>exact ⟨0,l.length,rfl,rfl,Nat.zero_le _,Nat.le_refl _,fun j h=>absurd h (by omega),fun j h1 h2=>absurd h1 (by omega)⟩
 case round =>
  obtain ⟨a,b,rfl,rfl,hab,hbl,hlo,hhi⟩:=hrel
  by_cases hlt:a < b
  ·have hmid:(a+b) / 2 < l.length:=by omega
   obtain ⟨bl,off,rfl,hc⟩:=HC.out (by intro h;simp [h] at hmid)
   have d0:v.cell? ⟨bl,off+(a+b) / 2*2,none⟩=some (iv (nth l ((a+b) / 2)).1):=HU.out.cell (hc _ hmid 0 (by omega)) (by simp)
   clear hc
   cases hcmp:ltIJ (nth l ((a+b) / 2)).1 k with
   | true =>
    have HLO:Hid (∀ j,j < (a+b) / 2+1→ltIJ (nth l j).1 k=true):=fun j hj=>HR.out.mono intOrd k j ((a+b) / 2) (by omega) hmid hcmp
    generalize (nth l ((a+b) / 2)).1=m at *
    have hc1:m < k:=by simpa using hcmp
    clear hcmp
    go_wp2
    go_round
    case rel=>exact ⟨(a+b) / 2+1,b,by go_num,rfl,by omega,hbl,HLO,hhi⟩
    case measure=>simp [intOf];omega
   | false =>
    have HHI:Hid (∀ j,(a+b) / 2≤j→j < l.length→ltIJ (nth l j).1 k=false):=fun j h1 h2=>by
     cases hq:ltIJ (nth l j).1 k with
     | false=>rfl
     | true=>exact absurd ((HR.out.mono intOrd k _ j h1 h2 hq).symm.trans hcmp) (by simp)
    generalize (nth l ((a+b) / 2)).1=m at *
    have hc1:¬ m < k:=by simpa using hcmp
    clear hcmp
    go_wp2
    go_round
    case rel=>exact ⟨a,(a+b) / 2,rfl,by go_num,by omega,by omega,hlo,HHI⟩
    case measure=>simp [intOf];omega
  ·obtain rfl:a=b:=by omega
   have hbel:below ltIJ l k=a:=below_eq l k a hbl hlo.out (fun h=>hhi.out a (Nat.le_refl _) h)
   have HIN:Hid (isIn ltIJ l k=decide (a < l.length∧(nth l a).1=k)):=by unfold Hid isIn;rw [hbel]
   have HBEL:=Lib.hid hbel
   clear hbel
   by_cases hal:a < l.length
   ·obtain ⟨bl,off,rfl,hc⟩:=HC.out (by intro h;simp [h] at hal)
    have d0:v.cell? ⟨bl,off+a*2,none⟩=some (iv (nth l a).1):=HU.out.cell (hc _ hal 0 (by omega)) (by simp)
    have HIN2:Hid (isIn ltIJ l k=decide ((nth l a).1=k)):=by unfold Hid;rw [HIN.out];simp [hal]
    clear hc
    generalize (nth l a).1=m at *
    have q1:(0:Int)≤a:=by omega
    have q2:(a:Int) < l.length:=by omega
    by_cases he:m=k
    ·have t1:(m==k)=true:=by simpa using he
     have HF:Hid (isIn ltIJ l k=true):=by unfold Hid;rw [HIN2.out];simp [he]
     clear he
     go_wp2_with fail
     go_quiet (fail)
     go_wp2_with fail
     go_ret2
     exact ⟨by rw [HBEL.out,HF.out];rfl,by first|exact HU.out.drewN _|exact HU.out.drew⟩
    ·have t1:(m==k)=false:=by simpa using he
     have HF:Hid (isIn ltIJ l k=false):=by unfold Hid;rw [HIN2.out];simp [he]
     clear he
     go_wp2_with fail
     go_quiet (fail)
     go_wp2_with fail
     go_ret2
     exact ⟨by rw [HBEL.out,HF.out];rfl,by first|exact HU.out.drewN _|exact HU.out.drew⟩
   ·have HF:Hid (isIn ltIJ l k=false):=by unfold Hid;rw [HIN.out];simp [hal]
    have hd:decide (a < l.length)=false:=by simpa using hal
    go_wp2_with fail
    go_quiet (fail)
    go_wp2_with fail
    go_ret2
    exact ⟨by rw [HBEL.out,HF.out];rfl,by first|exact HU.out.drewN _|exact HU.out.drew⟩
end
end Go.Proofs.YthgnlfikneipiaaGreat
namespace Go.Proofs.YthgnlfikneipiaaGreat
open Go.RowKit
theorem rcIJ_one:∀ p,∀ u∈rcIJ p,u.oneCell'=true:=by intro p u hu;simp [rcIJ] at hu;rcases hu with rfl|rfl<;>rfl
theorem undIJ:Tryz.prog.underlying 146=some (.slice 389):=by kernel_rfl
section
variable {base : Nat} {g : Nat} {lv : Value} {l : List (Int × Int)} {w w' : World}
end
section
variable {base : Nat} {g : Nat} {lv : Value} {l : List (Int × Int)} {w w' : World}
end
end Go.Proofs.YthgnlfikneipiaaGreat
