/- Texts of the proof, joined. -/
import Derived.Test.YthgnlfikneipiaaGreatMz9
import Derived.Test.YthgnlfikneipiaaGreatMz6
import Derived.Laws.Externs
import Derived.Lib.JoinLaws
import Derived.Deep.RegionHeld3
import Derived.StillTailTactics
import Derived.Deep.RegionLaw
import Derived.Test.YthgnlfikneipiaaGreatMz5
set_option linter.unusedSimpArgs false
set_option linter.unusedVariables false
set_option linter.unusedSectionVars false
namespace Go.Proofs.YthgnlfikneipiaaGreat
open Go.RowKit
theorem rcSL_one:∀ p,∀ u∈rcSL p,u.oneCell'=true:=by intro p u hu;simp [rcSL] at hu;rcases hu with rfl|rfl<;>rfl
theorem undSL:Tryz.prog.underlying 149=some (.slice 242):=by kernel_rfl
section
variable {base : Nat} {g : Nat} {lv : Value} {l : List (ByteArray × Sl)} {w w' : World}
set_option maxRecDepth 20000 in
set_option maxHeartbeats 1000000 in
theorem slDelSL (w:World) (v:Value) (i:Nat) (hs:OwnN 2 rcSL base 242 w v l) (hi:i < l.length) (hlen:l.length≤100000) :
  Calls Tryz.prog 103 #[v,.int .i64 (i:Int),.int .i64 ((i:Int)+1)] w fun e w'=>∃ v',e = .returned v'∧OwnN 2 rcSL base 242 w' v' (l.take i++l.drop (i+1))∧Upd (blk v) w w'∧blk v'=blk v:=by
 rcases hs.2 with ⟨-,h0⟩|⟨g,cap,cur0,rfl,-⟩
 ·omega
 obtain ⟨-,hb,hc,hm,cur,hg,hsz,hp⟩:=hs.open_ rcSL_len
 obtain ⟨m,hlm⟩:∃ m,l.length=i+1+m:=⟨l.length-(i+1),by omega⟩
 have hcl:((l.drop (i+1)).flatMap rcSL).length=m*2:=by rw [flatMap_len rcSL_len,List.length_drop,hlm];congr 1;omega
 have htl:((l.take i).flatMap rcSL).length=i*2:=by rw [flatMap_len rcSL_len,List.length_take];congr 1;omega
 have htl':((l.take (i+1)).flatMap rcSL).length=(i+1)*2:=by rw [flatMap_len rcSL_len,List.length_take];congr 1;omega
 have hp1:Piece cur 0 ((l.take i).flatMap rcSL):=by rw [flat_split rcSL l i] at hp;exact hp.left
 have hp2:Piece cur ((i+1)*2) ((l.drop (i+1)).flatMap rcSL):=by rw [flat_split rcSL l (i+1)] at hp;have:=hp.right;rwa [htl',Nat.zero_add] at this
 generalize hcs:(l.drop (i+1)).flatMap rcSL=cs at *
 have hcap:(i+1+m)*2≤cur.size:=by rw [hsz];exact Nat.mul_le_mul_right 2 (by omega)
 have hfit:i*2+cs.length≤cur.size:=by rw [hcl];omega
 obtain ⟨A,hA,hsrc⟩:∃ A:Addr,(if cap=i+1 then some (⟨g,0,none⟩:Addr) else some ⟨g,(i+1)*2,none⟩)=some A∧∀ j u,cs[j]?=some u→w.cell? (A.add j)=some u:=by
  by_cases h:cap=i+1
  ·refine ⟨⟨g,0,none⟩,by simp [h],fun j u hu=>?_⟩
   have h0:cs.length=0:=by rw [hcl];omega
   rw [List.length_eq_zero_iff.1 h0] at hu
   simp at hu
  ·refine ⟨⟨g,(i+1)*2,none⟩,by simp [h],fun j u hu=>?_⟩
   rw [add_none];exact hp2.cell hg j u hu
 have h1c:∀ u∈cs,u.oneCell'=true:=by rw [← hcs];exact mem_flat_one rcSL_one _
 have HA:=Lib.hid (fun ty c=>run_app_lay (P:=Tryz.prog) (ty:=ty) (n:=i) (m:=m) (cap:=cap) (c:=c) (sz:=2) undSL (by kernel_rfl) w.drew hg hcl hsrc h1c (by omega) hfit)
 have hz:=lay_sz cur (i*2) cs hfit
 have k1:=hp1.stay (i*2) cs hfit (.inl (by omega))
 have k2:=Piece.lay cur (i*2) cs hfit
 generalize lay_ cur (i*2) cs=cur1 at *
 have hg1:(w.drew.setRow g cur1).heap[g]?=some (.cells cur1 242 (0,0)):=setRow_heap w.drew g cur cur1 _ _ hg
 have hfit1:(i+m)*2+1*2≤cur1.size:=by rw [hz];omega
 have q7:i+1+m-(i+m)=1:=by omega
 have hB:=(fun ty c=>run_clear_lay (P:=Tryz.prog) (ty:=ty) (c:=c) (n:=1) undSL infoRowSL rfl (by intro u hu;simp [Value.cells] at hu;rcases hu with rfl|rfl<;>rfl) (w.drew.setRow g cur1) (by omega) hg1 hfit1)
 have HB:Hid (∀ ty c,(Builtin.clear_ #[149] ty #[.slice (some ⟨g,(i+m)*2,none⟩) (i+1+m-(i+m)) c]).run Tryz.prog (w.drew.setRow g cur1) = .ok (.tuple #[]) ((w.drew.setRow g cur1).setRow g (lay_ cur1 ((i+m)*2) (Builtin.zeroCells (Value.agg #[.string ⟨#[]⟩,.slice none 0 0]).cells 1).toList))):=fun ty c=>by rw [q7];exact hB ty c
 clear hB
 have HK:=Lib.hid (show OwnN 2 rcSL base 242 ((w.drew.setRow g cur1).setRow g (lay_ cur1 ((i+m)*2) (Builtin.zeroCells (Value.agg #[.string ⟨#[]⟩,.slice none 0 0]).cells 1).toList)) (.slice (some ⟨g,0,none⟩) (i+m) cap) (l.take i++l.drop (i+1)) from by
  have hzl:(Builtin.zeroCells (Value.agg #[.string ⟨#[]⟩,.slice none 0 0]).cells 1).toList.length=2:=by rw [Array.length_toList,size_zeroCells];rfl
  have hf2:(i+m)*2+(Builtin.zeroCells (Value.agg #[.string ⟨#[]⟩,.slice none 0 0]).cells 1).toList.length≤cur1.size:=by rw [hzl];omega
  refine OwnN.of_piece rcSL_len _ (by simp;omega) hb (by simp;omega) hm (setRow_heap _ g cur1 _ _ _ hg1) (by rw [lay_sz _ _ _ hf2,hz,hsz]) ?_
  rw [List.flatMap_append,hcs]
  refine (k1.stay _ _ hf2 (.inl (by omega))).app ?_
  rw [htl,Nat.zero_add (i*2)]
  exact k2.stay _ _ hf2 (.inl (by omega)))
 clear hs hp hp1 hp2 hsz hg hcl htl htl' hsrc h1c hfit hz k1 k2 hg1 hfit1 hcs hcap
 rw [hlm] at hlen hc ⊢
 have hwr:IntKind.i64.wrap ((i:Int)+1)=(i:Int)+1:=by rw [IntKind.wrap_i64];omega
 have q1:(0:Int)≤(i:Int)+1:=by omega
 have q2:(i:Int)+1≤(i:Int)+1+(m:Int):=by omega
 have q3:((i:Int)+1).toNat=i+1:=by omega
 have q4:i+1+m-(i+1)=m:=by omega
 have q5:i≤cap:=by omega
 have q6:¬ (cap=i+m):=by omega
 have q8:i+m≤i+1+m:=by omega
 have q9:(i:Int)+(m:Int)≤(i:Int)+1+(m:Int):=by omega
 go_enter Tryz.func103,Tryz.ntmps103
 go_wp2_with fail
 go_region_law (refine step_app_eq rfl (.tmp 22) (.tmp 25) 149 rfl (.slice (some ⟨g,0,none⟩) i cap) (.slice (some A) m (cap-(i+1))) (by simp [Act.eval,Act.put]) (by simp [Act.eval,Act.put]) (HA.out _ _) ?_)
 go_wp2_with (with_reducible refine wpList_clear_eq rfl (.tmp 31) 149 rfl (.slice (some ⟨g,(i+m)*2,none⟩) (i+1+m-(i+m)) (cap-(i+m))) rfl (HB.out _ _) ?_)
 go_ret
 exact ⟨_,rfl,HK.out,((Upd.refl [g] w).drew.setRow g _ (.inl (by simp))).setRow g _ (.inl (by simp)),rfl⟩
set_option maxRecDepth 20000 in
set_option maxHeartbeats 400000 in
theorem tDelSL_no (w:World) (k:ByteArray) (hs:TBSL base w g lv l) (hr:Rising ltSL l) (hlen:l.length≤100000) (hk:True) (hn:isIn ltSL l k=false) :
  Calls Tryz.prog 58 #[.pointer (some ⟨g,0,none⟩),sv k] w fun e w'=>e = .returned (.bool false)∧Upd [] w w':=by
 have hc:=tFindSL_any w k hs hr hlen hk
 rw [hn] at hc
 have HC:=Lib.hid hc
 clear hs hr hlen hk hc hn
 go_enter Tryz.func58,Tryz.ntmps58
 go_wp2_with fail
 with_reducible refine HC.out.mono ?_
 rintro e w1 ⟨rfl,hu1⟩
 go_wp2_with fail
 go_ret
 exact ⟨rfl,hu1⟩
set_option maxRecDepth 20000 in
set_option maxHeartbeats 400000 in
theorem tDelSL_yes (w:World) (k:ByteArray) (hs:TBSL base w g lv l) (hr:Rising ltSL l) (hlen:l.length≤100000) (hk:True) (hn:isIn ltSL l k=true) :
  Calls Tryz.prog 58 #[.pointer (some ⟨g,0,none⟩),sv k] w fun e w'=>e = .returned (.bool true)∧∃ lv',TBSL base w' g lv' (l.take (below ltSL l k)++l.drop (below ltSL l k+1))∧Upd (g::blk lv) w w'∧blk lv'=blk lv:=by
 have hc:=tFindSL_any w k hs hr hlen hk
 rw [hn] at hc
 have HC:=Lib.hid hc
 have HS:=Lib.hid hs
 unfold isIn at hn
 have hlt:=(of_decide_eq_true hn).1
 have HD:=Lib.hid (fun w1 (h:Upd [] w w1)=>slDelSL w1 lv (below ltSL l k) (hs.rows.upd h (by simp)) hlt hlen)
 have D0:=Lib.hid (show w.cell? ⟨g,0,none⟩=some lv from hs.tab.cell 0)
 obtain ⟨ao,n,co,rfl⟩:=hs.rows.slice_
 clear hs hr hk hc hn
 generalize below ltSL l k=i at *
 have hwr:IntKind.i64.wrap ((i:Int)+1)=(i:Int)+1:=by rw [IntKind.wrap_i64];omega
 go_enter Tryz.func58,Tryz.ntmps58
 go_wp2_with fail
 with_reducible refine HC.out.mono ?_
 rintro e w1 ⟨rfl,hu1⟩
 have d0:=hu1.cell D0.out (by simp)
 have HU1:=Lib.hid hu1
 go_wp2_with fail
 with_reducible refine (HD.out w1 HU1.out).mono ?_
 rintro e w2 ⟨v2,rfl,ho2,hu2,hb2⟩
 have hgl:=HS.out.g_lv
 have f0:w2.frozen? ⟨g,0,none⟩=false:=((HS.out.tab.upd HU1.out (by simp)).upd hu2 hgl).frozen 0
 have d2:w2.cell? ⟨g,0,none⟩=some (.slice ao n co):=hu2.cell d0 hgl
 obtain ⟨ao2,n2,co2,rfl⟩:=ho2.slice_
 have HT:=Lib.hid (show TBSL base (w2.setCell ⟨g,0,none⟩ (.slice ao2 n2 co2)) g (.slice ao2 n2 co2) (l.take i++l.drop (i+1)) from
  ⟨by simpa using ((HS.out.tab.upd HU1.out (by simp)).upd hu2 hgl).set_ 0 (.slice ao2 n2 co2),ho2.upd ((Upd.refl [g] _).setCell _ _ (.inl (by simp))) (by rw [hb2];intro x hx;simp;rintro rfl;exact hgl hx),HS.out.gb⟩)
 have HU2:=Lib.hid (show Upd (g::blk (.slice ao n co)) w (w2.setCell ⟨g,0,none⟩ (.slice ao2 n2 co2)) from (HU1.out.trans (T:=g::blk (.slice ao n co)) hu2 (by simp) (fun x hx => .inl (by simp [hx]))).setCell _ _ (.inl (by simp)))
 clear ho2 hu1 hu2 hgl
 go_wp2_with fail
 go_ret
 exact ⟨rfl,_,HT.out,HU2.out,hb2⟩
end
section
variable {base : Nat} {g : Nat} {lv : Value} {l : List (ByteArray × Sl)} {w w' : World}
theorem tDelSL_any (w:World) (k:ByteArray) (hs:TBSL base w g lv l) (hr:Rising ltSL l) (hlen:l.length≤100000) (hk:True) :
  Calls Tryz.prog 58 #[.pointer (some ⟨g,0,none⟩),sv k] w fun e w'=>e = .returned (.bool (isIn ltSL l k))∧∃ lv',TBSL base w' g lv' (tDel ltSL l k)∧Upd (g::blk lv) w w'∧(∀ x∈blk lv',x∈blk lv∨w.heap.size≤x):=by
 cases hn:isIn ltSL l k with
 | false =>
  refine (tDelSL_no w k hs hr hlen hk hn).mono ?_
  rintro e w' ⟨rfl,hu⟩
  exact ⟨rfl,lv,by unfold tDel;rw [hn];exact hs.upd0 hu,hu.mono (by simp),fun x hx => .inl hx⟩
 | true =>
  refine (tDelSL_yes w k hs hr hlen hk hn).mono ?_
  rintro e w' ⟨rfl,v',ht,hu,hb⟩
  exact ⟨rfl,v',by unfold tDel;rw [hn];exact ht,hu,fun x hx => .inl (by rw [← hb];exact hx)⟩
end
end Go.Proofs.YthgnlfikneipiaaGreat
namespace Go.Proofs.YthgnlfikneipiaaGreat
open Go.RowKit
section
variable {base : Nat} {g : Nat} {lv : Value} {l : List (ByteArray × Sl)} {w w' : World}
set_option maxRecDepth 20000 in
set_option maxHeartbeats 400000 in
theorem tGetSL_no (w:World) (k:ByteArray) (hs:TBSL base w g lv l) (hr:Rising ltSL l) (hlen:l.length≤100000) (hk:True) (hn:isIn ltSL l k=false) :
  Calls Tryz.prog 56 #[.pointer (some ⟨g,0,none⟩),sv k] w fun e w'=>e = .returned (.tuple #[.slice none 0 0,.bool false])∧Upd [] w w':=by
 have hc:=tFindSL_any w k hs hr hlen hk
 rw [hn] at hc
 have HC:=Lib.hid hc
 clear hs hr hlen hk hc hn
 go_enter Tryz.func56,Tryz.ntmps56
 go_wp2_with fail
 refine HC.out.mono ?_
 rintro e w1 ⟨rfl,hu1⟩
 go_wp2_with fail
 go_ret2
 exact ⟨rfl,hu1⟩
set_option maxRecDepth 20000 in
set_option maxHeartbeats 400000 in
theorem tGetSL_ok (w:World) (k:ByteArray) (hs:TBSL base w g lv l) (hr:Rising ltSL l) (hlen:l.length≤100000) (hk:True) (hn:isIn ltSL l k=true) :
  Calls Tryz.prog 56 #[.pointer (some ⟨g,0,none⟩),sv k] w fun e w'=>e = .returned (.tuple #[slv (nth l (below ltSL l k)).2,.bool true])∧Upd [] w w':=by
 have hc:=tFindSL_any w k hs hr hlen hk
 rw [hn] at hc
 have HC:=Lib.hid hc
 unfold isIn at hn
 have hlt:=(of_decide_eq_true hn).1
 obtain ⟨ao,co,rfl,hlc,hcm,hcell⟩:=hs.rows.rd rcSL_len
 obtain ⟨b,off,rfl,hc'⟩:=hcell (by intro h;simp [h] at hlt)
 have D0:=Lib.hid (show w.cell? ⟨g,0,none⟩=some (.slice (some ⟨b,off,none⟩) l.length co) from hs.tab.cell 0)
 have D1:=Lib.hid (show w.cell? ⟨b,off+below ltSL l k*2+1,none⟩=some (slv (nth l (below ltSL l k)).2) from hc' _ hlt 1 (by omega))
 clear hs hr hk hc hn hcell hc' hcm
 generalize (nth l (below ltSL l k)).2=x at *
 generalize below ltSL l k=i at *
 have q1:(0:Int)≤i:=by omega
 have q2:(i:Int) < l.length:=by omega
 go_enter Tryz.func56,Tryz.ntmps56
 go_wp2_with fail
 refine HC.out.mono ?_
 rintro e w1 ⟨rfl,hu1⟩
 have d0:=hu1.cell D0.out (by simp)
 have d1:=hu1.cell D1.out (by simp)
 go_wp2_with fail
 go_ret2
 exact ⟨rfl,hu1⟩
set_option maxRecDepth 20000 in
set_option maxHeartbeats 400000 in
theorem tAtSL_ok (w:World) (i:Nat) (hs:TBSL base w g lv l) (hlen:l.length≤100000) (hi:i < l.length) :
  Calls Tryz.prog 60 #[.pointer (some ⟨g,0,none⟩),.int .i64 (i:Int)] w fun e w'=>e = .returned (.tuple #[sv (nth l i).1,slv (nth l i).2,.bool true])∧Upd [] w w':=by
 obtain ⟨ao,co,rfl,hlc,hcm,hcell⟩:=hs.rows.rd rcSL_len
 obtain ⟨b,off,rfl,hc'⟩:=hcell (by intro h;simp [h] at hi)
 have d0:w.cell? ⟨g,0,none⟩=some (.slice (some ⟨b,off,none⟩) l.length co):=hs.tab.cell 0
 have d1:w.cell? ⟨b,off+i*2,none⟩=some (sv (nth l i).1):=hc' _ hi 0 (by omega)
 have d2:w.cell? ⟨b,off+i*2+1,none⟩=some (slv (nth l i).2):=hc' _ hi 1 (by omega)
 clear hs hcell hc' hcm
 generalize (nth l i).1=x at *
 generalize (nth l i).2=y at *
 have q1:(0:Int)≤i:=by omega
 have q2:(i:Int) < l.length:=by omega
 go_enter Tryz.func60,Tryz.ntmps60
 go_wp2_with fail
 go_quiet (fail)
 go_wp2_with fail
 go_ret3
 exact ⟨rfl,by first|exact (Upd.refl [] _).drewN _|exact (Upd.refl [] _).drew⟩
end
end Go.Proofs.YthgnlfikneipiaaGreat
namespace Go.Proofs.YthgnlfikneipiaaGreat
open Go.RowKit
section
variable {base : Nat} {g : Nat} {lv : Value} {l : List (ByteArray × Sl)} {w w' : World}
set_option maxRecDepth 20000 in
set_option maxHeartbeats 400000 in
theorem tSetSL_old (w:World) (k:ByteArray) (v:Sl) (hs:TBSL base w g lv l) (hr:Rising ltSL l) (hlen:l.length≤100000) (hk:True) (hn:isIn ltSL l k=true) :
  Calls Tryz.prog 57 #[.pointer (some ⟨g,0,none⟩),sv k,slv v] w fun e w'=>e = .returned (.bool false)∧TBSL base w' g lv (l.set (below ltSL l k) ((nth l (below ltSL l k)).1,v))∧Upd (blk lv) w w':=by
 have hc:=tFindSL_any w k hs hr hlen hk
 rw [hn] at hc
 have HC:=Lib.hid hc
 have HS:=Lib.hid hs
 unfold isIn at hn
 have hlt:=(of_decide_eq_true hn).1
 have hgl:=hs.g_lv
 rcases hs.rows.2 with ⟨-,h0⟩|⟨b,co,cur,rfl,hb,hg,-⟩
 ·omega
 have D0:=Lib.hid (show w.cell? ⟨g,0,none⟩=some (.slice (some ⟨b,0,none⟩) l.length co) from hs.tab.cell 0)
 have HL:=Lib.hid hlt
 have D1:=Lib.hid (show ∃ u,w.cell? ⟨b,below ltSL l k*2+1,none⟩=some u from by
  obtain ⟨ao',co',e',-,-,hcell⟩:=hs.rows.rd rcSL_len
  injection e' with e1 e2 e3
  obtain ⟨b',off,e4,hc'⟩:=hcell (by intro h;simp [h] at hlt)
  rw [e4] at e1
  injection e1 with e1;injection e1 with e1 e5
  subst e1;subst e5
  exact ⟨_,by simpa using hc' _ hlt 1 (by omega)⟩)
 have HG:=Lib.hid hg
 clear hs hr hk hc hn hgl hg
 generalize below ltSL l k=i at *
 have q1:(0:Int)≤i:=by omega
 have q2:(i:Int) < l.length:=by omega
 go_enter Tryz.func57,Tryz.ntmps57
 go_wp2_with fail
 with_reducible refine HC.out.mono ?_
 rintro e w1 ⟨rfl,hu1⟩
 have d0:=hu1.cell D0.out (by simp)
 obtain ⟨u,hu⟩:=D1.out
 have d1:=hu1.cell hu (by simp)
 have f1:w1.frozen? ⟨b,i*2+1,none⟩=false:=frozen_of_row w1 b _ cur _ (hu1.heap HG.out (by simp))
 go_wp2_with fail
 go_ret
 have hst:Upd [b] w1 (w1.setCell ⟨b,i*2+1,none⟩ (slv v)):=(Upd.refl [b] w1).setCell _ _ (.inl (by simp))
 have hs1:=HS.out.upd0 hu1
 have hl:=HL.out
 have hgb:g≠b:=fun e=>HS.out.g_lv (by rw [e];simp [blk])
 refine ⟨rfl,⟨hs1.tab.upd hst (by simpa using hgb),?_,hs1.gb⟩,?_⟩
 ·refine OwnN.set_ rcSL_len hs1.rows i 1 hl (by omega) (slv v) _ ?_
  rw [nth_get l i hl]
  rfl
 ·exact (show Upd [b] w w1 from hu1.mono (by simp)).setCell _ _ (.inl (by simp))
end
end Go.Proofs.YthgnlfikneipiaaGreat
namespace Go.Proofs.YthgnlfikneipiaaGreat
open Go.RowKit
section
variable {base : Nat} {g : Nat} {lv : Value} {l : List (ByteArray × Sl)} {w w' : World}
set_option maxRecDepth 20000 in
set_option maxHeartbeats 1000000 in
theorem slInsSL_end (w:World) (v:Value) (vb:Nat) (x:ByteArray×Sl) (hs:OwnN 2 rcSL base 242 w v l) (hlen:l.length≤100000) (hbs:base≤w.heap.size) (hv:Blk w vb 242 (rcSL x)) :
  Calls Tryz.prog 102 #[v,.int .i64 (l.length:Int),.slice (some ⟨vb,0,none⟩) 1 1] w fun e w'=>∃ v',e = .returned v'∧OwnN 2 rcSL base 242 w' v' (l++[x])∧Upd (blk v) w w'∧(∀ y∈blk v',y∈blk v∨w.heap.size≤y):=by
 have hrd:RdN 2 rcSL w (.slice (some ⟨vb,0,none⟩) 1 1) [x]:=⟨_,1,rfl,by simp,by simp [maxLen],fun _=>⟨vb,0,rfl,fun j hj i hi=>by
  simp at hj;subst hj
  rw [hv.cell];simp [nth_cons_zero]⟩⟩
 have HR:=Lib.hid (fun ty=>run_appN (P:=Tryz.prog) (ty:=ty) rcSL_len (by decide) rcSL_one undSL infoRowSL rfl v _ l [x] hs hrd (by simp;omega) (by simp [maxLen];omega) hbs)
 obtain ⟨ao,n,co,rfl⟩:=hs.slice_
 have hn:n=l.length∧l.length≤co:=by
  rcases hs.2 with ⟨he,h0⟩|⟨_,_,_,he,_,_,hc,_⟩
  ·injection he with e1 e2 e3;subst e2;subst e3;exact ⟨h0.symm,by omega⟩
  ·injection he with e1 e2 e3;subst e2;subst e3;exact ⟨rfl,hc⟩
 obtain ⟨rfl,hco⟩:=hn
 clear hs hrd hv
 have hd:co=l.length∨¬ co=l.length:=by omega
 rcases hd with hd|hd
 all_goals
  go_enter Tryz.func102,Tryz.ntmps102
  go_wp2_with (at_builtin;refine wpList_app_of rfl _ _ rfl (.slice ao l.length co) (.slice (some ⟨vb,0,none⟩) 1 1) rfl rfl (HR.out _) ?_;rintro v1 w3 ⟨ho3,hu3,hb3⟩;have HO3:=Lib.hid ho3;obtain ⟨a1,n1,c1,rfl⟩:=ho3.slice_;clear ho3)
  go_ret
  exact ⟨_,rfl,HO3.out,hu3,hb3⟩
theorem ovlSL (w:World) (vb gb vo go_ la ca lb cb kA kB:Nat) (tA tB:TypeId) (hne:vb≠gb) (hsa:w.shape? vb=some (tA,kA)) (hsb:w.shape? gb=some (tB,kB)) (hkB:kB≠0) (hfa:w.frozen? ⟨vb,vo,none⟩=false) (hfe:w.frozen? ⟨vb,kA,none⟩=false) :
  (callFunc 160 #[.slice (some ⟨vb,vo,none⟩) la ca,.slice (some ⟨gb,go_,none⟩) lb cb]).run Tryz.prog w = .ok (.value (.bool false)) w:=by
 have hz:∀ w,(sizeOf 242).run Tryz.prog w = .ok 2 w:=by
  intro w
  obtain ⟨i,h1,h2,h3,h4⟩:=info_parts infoRowSL
  simp [sizeOf,typeInfo,h1,h3]
 rw [run_callFunc_extern Tryz.func160 (by kernel_rfl) (by kernel_rfl) (by kernel_rfl) (e:=Extern.SlicesOverlaps.overlaps #[149,149] #[4]) (by kernel_rfl),
  Lib.run_overlaps_apart w 149 4 242 undSL 2 hz ⟨vb,vo,none⟩ ⟨gb,go_,none⟩ la ca lb cb hne tA tB kA kB hsa hsb hkB hfa hfe]
 rfl
set_option maxRecDepth 20000 in
set_option maxHeartbeats 2000000 in
theorem slInsSL_shift (w:World) (g n cap i:Nat) (vb:Nat) (x:ByteArray×Sl) (hs:OwnN 2 rcSL base 242 w (.slice (some ⟨g,0,none⟩) n cap) l) (hi:i < l.length) (hroom:l.length+1≤cap) (hlen:l.length≤100000) (hv:Blk w vb 242 (rcSL x)) (hvg:vb≠g) :
  Calls Tryz.prog 102 #[.slice (some ⟨g,0,none⟩) n cap,.int .i64 (i:Int),.slice (some ⟨vb,0,none⟩) 1 1] w fun e w'=>∃ v',e = .returned v'∧OwnN 2 rcSL base 242 w' v' (l.take i++x::l.drop i)∧Upd [g] w w'∧(∀ y∈blk v',y∈[g]∨w.heap.size≤y):=by
 obtain ⟨rfl,hb,hc,hm,cur,hg,hsz,hp⟩:=hs.open_ rcSL_len
 have hdl:((l.drop i).flatMap rcSL).length=(l.length-i)*2:=by rw [flatMap_len rcSL_len,List.length_drop]
 have htl:((l.take i).flatMap rcSL).length=i*2:=by rw [flatMap_len rcSL_len,List.length_take];congr 1;omega
 have hp1:Piece cur 0 ((l.take i).flatMap rcSL):=by rw [flat_split rcSL l i] at hp;exact hp.left
 have hp2:Piece cur (i*2) ((l.drop i).flatMap rcSL):=by rw [flat_split rcSL l i] at hp;have:=hp.right;rwa [htl,Nat.zero_add] at this
 have h1c:∀ u∈(l.drop i).flatMap rcSL,u.oneCell'=true:=mem_flat_one rcSL_one _
 generalize hcs:(l.drop i).flatMap rcSL=cs at *
 have hcap:(l.length+1)*2≤cur.size:=by rw [hsz];exact Nat.mul_le_mul_right 2 (by omega)
 have hfit:(i+1)*2+cs.length≤cur.size:=by rw [hdl];omega
 have hA:=(fun ty dc sc=>run_copy_lay (P:=Tryz.prog) (sz:=2) (dT:=149) (sT:=149) (ty:=ty) (dLen:=l.length+1-(i+1)) (dCap:=dc) (a:=⟨g,i*2,none⟩) (sLen:=l.length+1-i) (sCap:=sc) (k:=l.length-i) undSL (by kernel_rfl) w.drew hg (by simp only [Nat.min_def];split<;>omega) hdl (fun j u hu=>by rw [add_none];exact hp2.cell hg j u hu) hfit h1c)
 have hz:=lay_sz cur ((i+1)*2) cs hfit
 have k1:=hp1.stay ((i+1)*2) cs hfit (.inl (by omega))
 have k2:=Piece.lay cur ((i+1)*2) cs hfit
 generalize lay_ cur ((i+1)*2) cs=cur1 at *
 have hg1:(w.drew.setRow g cur1).heap[g]?=some (.cells cur1 242 (0,0)):=setRow_heap w.drew g cur cur1 _ _ hg
 have hu1:Upd [g] w (w.drew.setRow g cur1):=(Upd.refl [g] w).drew.setRow g _ (.inl (by simp))
 have hv1:=hv.upd hu1 (by simpa using hvg)
 obtain ⟨W1,hW1⟩:∃ W1,W1=w.drew.setRow g cur1:=⟨_,rfl⟩
 rw [← hW1] at hA hg1 hu1 hv1
 have hfx:i*2+(rcSL x).length≤cur1.size:=by rw [hz,rcSL_len];omega
 have hB:=(fun ty dc=>run_copy_lay (P:=Tryz.prog) (sz:=2) (dT:=149) (sT:=149) (ty:=ty) (dLen:=l.length+1-i) (dCap:=dc) (a:=⟨vb,0,none⟩) (sLen:=1) (sCap:=1) (k:=1) (cs:=rcSL x) undSL (by kernel_rfl) W1 hg1 (by simp only [Nat.min_def];split<;>omega) rfl (fun j u hu=>by rw [add_none,hv1.cell,Nat.zero_add];exact hu) hfx (rcSL_one x))
 have hz2:=lay_sz cur1 (i*2) (rcSL x) hfx
 have m1:=k1.stay (i*2) (rcSL x) hfx (.inl (by omega))
 have m2:=Piece.lay cur1 (i*2) (rcSL x) hfx
 have m3:=k2.stay (i*2) (rcSL x) hfx (.inr (by rw [rcSL_len];omega))
 generalize lay_ cur1 (i*2) (rcSL x)=cur2 at *
 have HK:=Lib.hid (show OwnN 2 rcSL base 242 (W1.setRow g cur2) (.slice (some ⟨g,0,none⟩) (l.length+1) cap) (l.take i++x::l.drop i) from by
  refine OwnN.of_piece rcSL_len cur2 (by simp;omega) hb (by simp;omega) hm (setRow_heap _ g cur1 _ _ _ hg1) (by rw [hz2,hz,hsz]) ?_
  rw [List.flatMap_append,List.flatMap_cons,hcs]
  refine m1.app ?_
  rw [htl,Nat.zero_add (i*2)]
  refine m2.app ?_
  rw [rcSL_len,show i*2+2=(i+1)*2 by omega]
  exact m3)
 have HU:=Lib.hid (show Upd [g] w (W1.setRow g cur2) from hu1.setRow g _ (.inl (by simp)))
 obtain ⟨W2,hW2⟩:∃ W2,W2=W1.setRow g cur2:=⟨_,rfl⟩
 rw [← hW2] at hB HK HU
 have HA:=Lib.hid hA
 have HB:=Lib.hid hB
 have HO:=Lib.hid (fun lb cb=>ovlSL w vb g 0 ((i+1)*2) 1 1 lb cb (rcSL x).toArray.size cur.size 242 242 hvg (by unfold World.shape?;rw [show w.heap[vb]?=_ from hv]) (by unfold World.shape?;rw [hg]) (by omega) (hv.frozen 0) (hv.frozen _))
 clear hs hp hp1 hp2 hsz hg hdl htl h1c hfit hz k1 k2 hg1 hcs hcap hA hB hv hv1 hu1 hfx hz2 m1 m2 m3 hW1 hW2
 have HL:=Lib.hid (show True from trivial)
 generalize l.length=n at *
 have hc63:cap≤9223372036854775807:=by unfold maxLen at hm;omega
 have hz1:¬ ((i:Int)=(n:Int)):=by omega
 have hw1:IntKind.i64.wrap ((i:Int)+1)=(i:Int)+1:=by rw [IntKind.wrap_i64];omega
 have hw2:IntKind.i64.wrap ((n:Int)+1)=(n:Int)+1:=by rw [IntKind.wrap_i64];omega
 have b1:(0:Int)≤(i:Int)+1:=by omega
 have b2:(0:Int)≤(n:Int)+1:=by omega
 have t1:((i:Int)+1).toNat=i+1:=by omega
 have t2:((n:Int)+1).toNat=n+1:=by omega
 have b3:¬ (cap=i+1):=by omega
 have b4:¬ (cap=i):=by omega
 have b5:(i:Int)+1≤(n:Int)+1:=by omega
 have b6:(i:Int)≤(n:Int)+1:=by omega
 have b7:(n:Int)+1≤(cap:Int):=by omega
 have b8:i≤n:=by omega
 go_enter Tryz.func102,Tryz.ntmps102
 go_wp2_with (simp only [HO.out])
 go_region_law (refine step_copy_eq rfl (.tmp 73) (.tmp 76) 149 149 rfl (.slice (some ⟨g,(i+1)*2,none⟩) (n+1-(i+1)) (cap-(i+1))) (.slice (some ⟨g,i*2,none⟩) (n+1-i) (cap-i)) (by simp [Act.eval,Act.put]) (by simp [Act.eval,Act.put]) (HA.out _ _ _) ?_)
 go_wp2_with (with_reducible refine wpList_copy_eq rfl (.tmp 80) (.tmp 81) 149 149 rfl (.slice (some ⟨g,i*2,none⟩) (n+1-i) (cap-i)) (.slice (some ⟨vb,0,none⟩) 1 1) rfl rfl (HB.out _ _) ?_)
 go_ret
 exact ⟨_,rfl,HK.out,HU.out,fun y hy => .inl (by simpa [blk] using hy)⟩
set_option maxRecDepth 20000 in
set_option maxHeartbeats 2000000 in
theorem slInsSL_grow (w:World) (g n cap i:Nat) (vb:Nat) (x:ByteArray×Sl) (hs:OwnN 2 rcSL base 242 w (.slice (some ⟨g,0,none⟩) n cap) l) (hi:i < l.length) (hroom:cap < l.length+1) (hlen:l.length≤100000) (hbs:base≤w.heap.size) (hv:Blk w vb 242 (rcSL x)) :
  Calls Tryz.prog 102 #[.slice (some ⟨g,0,none⟩) n cap,.int .i64 (i:Int),.slice (some ⟨vb,0,none⟩) 1 1] w fun e w'=>∃ v',e = .returned v'∧OwnN 2 rcSL base 242 w' v' (l.take i++x::l.drop i)∧Upd [g] w w'∧(∀ y∈blk v',y∈[g]∨w.heap.size≤y):=by
 obtain ⟨rfl,hb,hc,hm,cur,hg,hsz,hp⟩:=hs.open_ rcSL_len
 obtain ⟨i0,hi0,hz0,hzs,hzb⟩:=info_parts infoRowSL
 have hdl:((l.drop i).flatMap rcSL).length=(l.length-i)*2:=by rw [flatMap_len rcSL_len,List.length_drop]
 have htl:((l.take i).flatMap rcSL).length=i*2:=by rw [flatMap_len rcSL_len,List.length_take];congr 1;omega
 have hp1:Piece cur 0 ((l.take i).flatMap rcSL):=by rw [flat_split rcSL l i] at hp;exact hp.left
 have hp2:Piece cur (i*2) ((l.drop i).flatMap rcSL):=by rw [flat_split rcSL l i] at hp;have:=hp.right;rwa [htl,Nat.zero_add] at this
 have h1c:∀ u∈(l.drop i).flatMap rcSL,u.oneCell'=true:=mem_flat_one rcSL_one _
 have hgw:g < w.heap.size:=(Array.getElem?_eq_some_iff.1 hg).1
 have hold:(Builtin.firstCells i0.size i (.slice (some ⟨g,0,none⟩) i cap)).run Tryz.prog w.drew = .ok ((l.take i).flatMap rcSL).toArray w.drew:=by
  rw [hzs]
  exact run_firstCells_some w.drew 2 i ⟨g,0,none⟩ i cap _ htl (fun j u hu=>by rw [add_none];exact hp1.cell hg j u hu)
 have hkk:(l.length:Int)+1-(i:Int)=((l.length+1-i:Nat):Int):=by omega
 have hik:i+(l.length+1-i)=l.length+1:=by omega
 have u3:Tryz.prog.underlying 3=some (.int .i64):=by kernel_rfl
 have hrz:=fun ty=>Lib.run_append_grow_zeros (P:=Tryz.prog) w 149 3 ty 242 i0 _ .i64 .i64 undSL u3 hi0 hz0 (some ⟨g,0,none⟩) i cap _ hold (l.length+1-i) (by omega) (by omega) (by omega) (by omega) (by rw [hzb];omega) (by rw [hzb,hik];exact growslice_fits (by omega) (by omega))
 rw [hik] at hrz
 have hGe:=grownCap_ge w (l.length+1) cap 242
 have hGm:grownCap w (l.length+1) cap 242≤maxLen:=grownCap_le_maxLen w (l.length+1) cap _ (by unfold maxLen;omega)
 generalize grownCap w (l.length+1) cap 242=G at *
 obtain ⟨ROW,hROW⟩:∃ ROW:Array Value,ROW=((l.take i).flatMap rcSL).toArray++Builtin.zeroCells (Value.agg #[.string ⟨#[]⟩,.slice none 0 0]).cells (l.length+1-i)++Builtin.zeroCells (Value.agg #[.string ⟨#[]⟩,.slice none 0 0]).cells (G-(l.length+1)):=⟨_,rfl⟩
 rw [← hROW] at hrz
 have hzz:(Value.agg #[.string ⟨#[]⟩,.slice none 0 0]).cells.size=2:=rfl
 have hRs:ROW.size=G*2:=by
  rw [hROW]
  simp only [Array.size_append,List.size_toArray,size_zeroCells,hzz,htl]
  omega
 have hRp:Piece ROW 0 ((l.take i).flatMap rcSL):=fun j u hu=>by
  have hj:=(List.getElem?_eq_some_iff.1 hu).1
  rw [hROW,Array.append_assoc,Array.getElem?_append_left (by simp only [Array.size_append,List.size_toArray];omega),Nat.zero_add]
  simpa using hu
 clear hROW hold hp1
 obtain ⟨W1,hW1⟩:∃ W1,W1=w.drew.alloc (.cells ROW 242):=⟨_,rfl⟩
 rw [← hW1] at hrz
 have hg1:W1.heap[w.heap.size]?=some (.cells ROW 242 (0,0)):=by rw [hW1];exact heap_alloc_new w.drew _
 have hu1:Upd [] w W1:=by rw [hW1];exact (Upd.refl [] w).drew.alloc _
 have hv1:=hv.upd hu1 (by simp)
 have hgg:=hu1.heap hg (by simp)
 generalize hgn:w.heap.size=gn at *
 have hgne:g≠gn:=by omega
 have hvw:vb < gn:=by rw [← hgn];exact hv.lt
 have hvne:vb≠gn:=by omega
 have hfx:i*2+(rcSL x).length≤ROW.size:=by rw [hRs,rcSL_len];omega
 have hB:=(fun ty dc=>run_copy_lay (P:=Tryz.prog) (sz:=2) (dT:=149) (sT:=149) (ty:=ty) (dLen:=l.length+1-i) (dCap:=dc) (a:=⟨vb,0,none⟩) (sLen:=1) (sCap:=1) (k:=1) (cs:=rcSL x) undSL (by kernel_rfl) W1 hg1 (by simp only [Nat.min_def];split<;>omega) rfl (fun j u hu=>by rw [add_none,hv1.cell,Nat.zero_add];exact hu) hfx (rcSL_one x))
 have hz2:=lay_sz ROW (i*2) (rcSL x) hfx
 have m1:=hRp.stay (i*2) (rcSL x) hfx (.inl (by omega))
 have m2:=Piece.lay ROW (i*2) (rcSL x) hfx
 generalize lay_ ROW (i*2) (rcSL x)=cur1 at *
 have hg2:(W1.setRow gn cur1).heap[gn]?=some (.cells cur1 242 (0,0)):=setRow_heap W1 gn ROW cur1 _ _ hg1
 have hu2:Upd [gn] W1 (W1.setRow gn cur1):=(Upd.refl [gn] W1).setRow gn _ (.inl (by simp))
 have hgg2:=hu2.heap hgg (by simpa using hgne)
 obtain ⟨W2,hW2⟩:∃ W2,W2=W1.setRow gn cur1:=⟨_,rfl⟩
 rw [← hW2] at hB hg2 hu2 hgg2
 generalize hcs:(l.drop i).flatMap rcSL=cs at *
 have hfit:(i+1)*2+cs.length≤cur1.size:=by rw [hdl,hz2,hRs];omega
 have hA:=(fun ty dc sc=>run_copy_lay (P:=Tryz.prog) (sz:=2) (dT:=149) (sT:=149) (ty:=ty) (dLen:=l.length+1-(i+1)) (dCap:=dc) (a:=⟨g,i*2,none⟩) (sLen:=l.length-i) (sCap:=sc) (k:=l.length-i) undSL (by kernel_rfl) W2.drew hg2 (by simp only [Nat.min_def];split<;>omega) hdl (fun j u hu=>by rw [add_none];exact hp2.cell hgg2 j u hu) hfit h1c)
 have hz3:=lay_sz cur1 ((i+1)*2) cs hfit
 have k1:=m1.stay ((i+1)*2) cs hfit (.inl (by omega))
 have k2:=m2.stay ((i+1)*2) cs hfit (.inl (by rw [rcSL_len];omega))
 have k3:=Piece.lay cur1 ((i+1)*2) cs hfit
 generalize lay_ cur1 ((i+1)*2) cs=cur2 at *
 have HK:=Lib.hid (show OwnN 2 rcSL base 242 (W2.drew.setRow gn cur2) (.slice (some ⟨gn,0,none⟩) (l.length+1) G) (l.take i++x::l.drop i) from by
  refine OwnN.of_piece rcSL_len cur2 (by simp;omega) hbs (by simp;omega) hGm (setRow_heap W2.drew gn cur1 _ _ _ hg2) (by rw [hz3,hz2,hRs]) ?_
  rw [List.flatMap_append,List.flatMap_cons,hcs]
  refine k1.app ?_
  rw [htl,Nat.zero_add (i*2)]
  refine k2.app ?_
  rw [rcSL_len,show i*2+2=(i+1)*2 by omega]
  exact k3)
 have HU:=Lib.hid (show Upd [g] w (W2.drew.setRow gn cur2) from (((hu1.trans (T:=[g]) hu2 (by simp) (fun y hy => .inr (by simp at hy;omega))).drew).setRow gn _ (.inr (by omega))))
 obtain ⟨W3,hW3⟩:∃ W3,W3=W2.drew.setRow gn cur2:=⟨_,rfl⟩
 rw [← hW3] at hA HK HU
 have HA:=Lib.hid hA
 have HB:=Lib.hid hB
 have hrz':∀ ty,(Builtin.append_ #[149,3] ty #[.slice (some ⟨g,0,none⟩) i cap,.int .i64 ((l.length:Int)+1-(i:Int))]).run Tryz.prog w = .ok (.slice (some ⟨gn,0,none⟩) (l.length+1) G) W1:=fun ty=>by rw [hkk];exact hrz ty
 have HZ:=Lib.hid hrz'
 have HG:=Lib.hid hgn
 clear hs hp hp2 hsz hg hdl htl h1c hfit k1 k2 k3 hg1 hg2 hcs hA hB hv hv1 hu1 hu2 hfx hz2 hz3 m1 m2 hW1 hW2 hW3 hrz hrz' hgg hgg2 hRs hRp hgn hgw hi0 hz0 hzs hzb hkk hik hzz hgne hvw hvne
 generalize l.length=n at *
 obtain rfl:cap=n:=by omega
 have hc63:G≤9223372036854775807:=by unfold maxLen at hGm;omega
 have hz1:¬ ((i:Int)=(cap:Int)):=by omega
 have hw1:IntKind.i64.wrap ((i:Int)+1)=(i:Int)+1:=by rw [IntKind.wrap_i64];omega
 have hw2:IntKind.i64.wrap ((cap:Int)+1)=(cap:Int)+1:=by rw [IntKind.wrap_i64];omega
 have hw3:IntKind.i64.wrap ((cap:Int)+1-(i:Int))=(cap:Int)+1-(i:Int):=by rw [IntKind.wrap_i64];omega
 have b1:(0:Int)≤(i:Int)+1:=by omega
 have b2:(0:Int)≤(cap:Int)+1:=by omega
 have t1:((i:Int)+1).toNat=i+1:=by omega
 have t2:((cap:Int)+1).toNat=cap+1:=by omega
 have b3:¬ (G=i+1):=by omega
 have b4:¬ (G=i):=by omega
 have b5:(i:Int)+1≤(cap:Int)+1:=by omega
 have b6:(i:Int)≤(cap:Int)+1:=by omega
 have b7:¬ (cap=i):=by omega
 have b8:i≤cap:=by omega
 go_enter Tryz.func102,Tryz.ntmps102
 go_wp2_with (first
  | (at_builtin;refine wpList_app_eq rfl _ _ 149 3 rfl (.slice (some ⟨g,0,none⟩) i cap) (.int .i64 ((cap:Int)+1-(i:Int))) rfl rfl (HZ.out _) ?_)
  | (with_reducible refine wpList_copy_eq rfl (.tmp 43) (.tmp 44) 149 149 rfl (.slice (some ⟨gn,i*2,none⟩) (cap+1-i) (G-i)) (.slice (some ⟨vb,0,none⟩) 1 1) rfl rfl (HB.out _ _) ?_))
 go_region_law (refine step_copy_eq rfl (.tmp 50) (.tmp 53) 149 149 rfl (.slice (some ⟨gn,(i+1)*2,none⟩) (cap+1-(i+1)) (G-(i+1))) (.slice (some ⟨g,i*2,none⟩) (cap-i) (cap-i)) (by simp [Act.eval,Act.put]) (by simp [Act.eval,Act.put]) (HA.out _ _ _) ?_)
 go_wp2_with fail
 go_ret
 exact ⟨_,rfl,HK.out,HU.out,fun y hy => .inr (by simp [blk] at hy;have:=HG.out;omega)⟩
theorem slInsSL_any (w:World) (v:Value) (i:Nat) (vb:Nat) (x:ByteArray×Sl) (hs:OwnN 2 rcSL base 242 w v l) (hi:i≤l.length) (hlen:l.length≤100000) (hbs:base≤w.heap.size) (hv:Blk w vb 242 (rcSL x)) (hvg:vb∉blk v) :
  Calls Tryz.prog 102 #[v,.int .i64 (i:Int),.slice (some ⟨vb,0,none⟩) 1 1] w fun e w'=>∃ v',e = .returned v'∧OwnN 2 rcSL base 242 w' v' (l.take i++x::l.drop i)∧Upd (blk v) w w'∧(∀ y∈blk v',y∈blk v∨w.heap.size≤y):=by
 by_cases he:i=l.length
 ·subst he
  rw [List.take_length,List.drop_length]
  exact slInsSL_end w v vb x hs hlen hbs hv
 ·rcases hs.2 with ⟨-,h0⟩|⟨g,cap,cur,rfl,-⟩
  ·omega
  ·by_cases hc:l.length+1≤cap
   ·exact slInsSL_shift w g l.length cap i vb x hs (by omega) hc hlen hv (by simpa [blk] using hvg)
   ·exact slInsSL_grow w g l.length cap i vb x hs (by omega) (by omega) hlen hbs hv
set_option maxRecDepth 20000 in
set_option maxHeartbeats 400000 in
theorem tSetSL_new (w:World) (k:ByteArray) (y:Sl) (hs:TBSL base w g lv l) (hr:Rising ltSL l) (hlen:l.length≤100000) (hbs:base≤w.heap.size) (hk:True) (hn:isIn ltSL l k=false) :
  Calls Tryz.prog 57 #[.pointer (some ⟨g,0,none⟩),sv k,slv y] w fun e w'=>e = .returned (.bool true)∧∃ lv',TBSL base w' g lv' (l.take (below ltSL l k)++(k,y)::l.drop (below ltSL l k))∧Upd (g::blk lv) w w'∧(∀ x∈blk lv',x∈blk lv∨w.heap.size≤x):=by
 have hc:=tFindSL_any w k hs hr hlen hk
 rw [hn] at hc
 have HC:=Lib.hid hc
 have HS:=Lib.hid hs
 have hle:=below_le (lt:=ltSL) l k
 have HD:=Lib.hid (fun w1 (h:Upd [] w w1)=>slInsSL_any (w1.alloc (.cells #[sv k,slv y] 242)) lv (below ltSL l k) w1.heap.size (k,y) (hs.rows.upd (h.alloc _) (by simp)) hle hlen (by have:=h.size;simp;omega) (Blk.new w1 _ [sv k,slv y]) (fun hx=>by have:=(hs.rows.ge _ hx).2;have:=h.size;omega))
 have D0:=Lib.hid (show w.cell? ⟨g,0,none⟩=some lv from hs.tab.cell 0)
 obtain ⟨ao,n,co,rfl⟩:=hs.rows.slice_
 clear hs hr hk hc hn hbs hle
 generalize below ltSL l k=i at *
 go_enter Tryz.func57,Tryz.ntmps57
 go_wp2_with fail
 with_reducible refine HC.out.mono ?_
 rintro e w1 ⟨rfl,hu1⟩
 have d0:=hu1.cell D0.out (by simp)
 have HU1:=Lib.hid hu1
 go_wp2_with fail
 with_reducible refine (HD.out w1 HU1.out).mono ?_
 rintro e w2 ⟨v2,rfl,ho2,hu2,hb2⟩
 have hgl:=HS.out.g_lv
 have hu1':=HU1.out.alloc (.cells #[sv k,slv y] 242)
 have f0:w2.frozen? ⟨g,0,none⟩=false:=((HS.out.tab.upd hu1' (by simp)).upd hu2 hgl).frozen 0
 have d2:w2.cell? ⟨g,0,none⟩=some (.slice ao n co):=hu2.cell (hu1'.cell D0.out (by simp)) hgl
 obtain ⟨ao2,n2,co2,rfl⟩:=ho2.slice_
 have hg2:g∉blk (.slice ao2 n2 co2):=fun hx=>by
  rcases hb2 g hx with q|q
  ·exact hgl q
  ·have:=HS.out.tab.lt;have:=hu1'.size;omega
 have HT:=Lib.hid (show TBSL base (w2.setCell ⟨g,0,none⟩ (.slice ao2 n2 co2)) g (.slice ao2 n2 co2) (l.take i++(k,y)::l.drop i) from
  ⟨by simpa using ((HS.out.tab.upd hu1' (by simp)).upd hu2 hgl).set_ 0 (.slice ao2 n2 co2),ho2.upd ((Upd.refl [g] _).setCell _ _ (.inl (by simp))) (by intro x hx;simp;rintro rfl;exact hg2 hx),HS.out.gb⟩)
 have HU2:=Lib.hid (show Upd (g::blk (.slice ao n co)) w (w2.setCell ⟨g,0,none⟩ (.slice ao2 n2 co2)) from (hu1'.trans (T:=g::blk (.slice ao n co)) hu2 (by simp) (fun x hx => .inl (by simp [hx]))).setCell _ _ (.inl (by simp)))
 have HB2:=Lib.hid (show ∀ x∈blk (.slice ao2 n2 co2),x∈blk (.slice ao n co)∨w.heap.size≤x from fun x hx=>(hb2 x hx).imp id (fun h=>by have:=hu1'.size;omega))
 clear ho2 hu1 hu2 hgl hg2 hb2 hu1'
 go_wp2_with fail
 go_ret
 exact ⟨rfl,_,HT.out,HU2.out,HB2.out⟩
theorem tSetSL_any (w:World) (k:ByteArray) (y:Sl) (hs:TBSL base w g lv l) (hr:Rising ltSL l) (hlen:l.length≤100000) (hbs:base≤w.heap.size) (hk:True) :
  Calls Tryz.prog 57 #[.pointer (some ⟨g,0,none⟩),sv k,slv y] w fun e w'=>e = .returned (.bool (!isIn ltSL l k))∧∃ lv',TBSL base w' g lv' (tSet ltSL l k y)∧Upd (g::blk lv) w w'∧(∀ x∈blk lv',x∈blk lv∨w.heap.size≤x):=by
 cases hn:isIn ltSL l k with
 | false =>
  refine (tSetSL_new w k y hs hr hlen hbs hk hn).mono ?_
  rintro e w' ⟨rfl,v',ht,hu,hb⟩
  exact ⟨rfl,v',by unfold tSet;rw [hn];exact ht,hu,hb⟩
 | true =>
  refine (tSetSL_old w k y hs hr hlen hk hn).mono ?_
  rintro e w' ⟨rfl,ht,hu⟩
  refine ⟨rfl,lv,?_,hu.mono (fun x hx => .inl (by simp [hx])),fun x hx => .inl hx⟩
  rw [tSet_in l k y hn];exact ht
end
end Go.Proofs.YthgnlfikneipiaaGreat
namespace Go.Proofs.YthgnlfikneipiaaGreat
open Go.RowKit
section
variable {base : Nat} {g : Nat} {lv : Value} {l : List (ByteArray × Sl)} {w w' : World}
set_option maxRecDepth 20000 in
set_option maxHeartbeats 400000 in
theorem tAtSL_neg (w:World) (i:Int) (hi64:I64 i) (hs:TBSL base w g lv l) (hi:i < 0) :
  Calls Tryz.prog 60 #[.pointer (some ⟨g,0,none⟩),.int .i64 i] w fun e w'=>e = .returned (.tuple #[.string ⟨#[]⟩,.slice none 0 0,.bool false])∧Upd [] w w':=by
 obtain ⟨ao,co,rfl,hlc,hcm,hcell⟩:=hs.rows.rd rcSL_len
 have d0:w.cell? ⟨g,0,none⟩=some (.slice ao l.length co):=hs.tab.cell 0
 clear hs hcell hcm
 go_enter Tryz.func60,Tryz.ntmps60
 go_wp2_with fail
 go_quiet (fail)
 go_wp2_with fail
 go_ret3
 exact ⟨rfl,by first|exact Upd.refl [] _|exact (Upd.refl [] _).alloc _|exact ((Upd.refl [] _).alloc _).drewN _⟩
set_option maxRecDepth 20000 in
set_option maxHeartbeats 400000 in
theorem tAtSL_high (w:World) (i:Int) (hi64:I64 i) (hs:TBSL base w g lv l) (hlen:l.length≤100000) (hi:(l.length:Int)≤i) :
  Calls Tryz.prog 60 #[.pointer (some ⟨g,0,none⟩),.int .i64 i] w fun e w'=>e = .returned (.tuple #[.string ⟨#[]⟩,.slice none 0 0,.bool false])∧Upd [] w w':=by
 obtain ⟨ao,co,rfl,hlc,hcm,hcell⟩:=hs.rows.rd rcSL_len
 have d0:w.cell? ⟨g,0,none⟩=some (.slice ao l.length co):=hs.tab.cell 0
 have q1:(0:Int)≤i:=by omega
 clear hs hcell hcm
 go_enter Tryz.func60,Tryz.ntmps60
 go_wp2_with fail
 go_quiet (fail)
 go_wp2_with fail
 go_ret3
 exact ⟨rfl,by first|exact Upd.refl [] _|exact (Upd.refl [] _).alloc _|exact ((Upd.refl [] _).alloc _).drewN _⟩
end
end Go.Proofs.YthgnlfikneipiaaGreat
namespace Go.Proofs.YthgnlfikneipiaaGreat
open Go.RowKit
structure TXSL (w0 w:World) (g:Nat) (F:List Nat) (l:List (ByteArray×Sl)):Prop where
 ex:∃ lv,F=g::blk lv∧TBSL w0.heap.size w g lv l
 ris:Rising ltSL l
 old:Upd [] w0 w
section
variable {w0 w w' : World} {g : Nat} {F : List Nat} {l : List (ByteArray × Sl)}
theorem TXSL.ge (h:TXSL w0 w g F l):∀ x∈F,w0.heap.size≤x∧x < w.heap.size:=by
 obtain ⟨lv,rfl,ht⟩:=h.ex
 exact ht.lt
theorem TXSL.upd (h:TXSL w0 w g F l) {S:List Nat} (hu:Upd S w w') (hs:∀ x∈F,x∉S) (hS:∀ x∈S,w0.heap.size≤x):TXSL w0 w' g F l:=by
 obtain ⟨lv,rfl,ht⟩:=h.ex
 exact ⟨⟨lv,rfl,ht.upd hu hs⟩,h.ris,h.old.trans hu (by simp) (fun x hx => .inr (hS x hx))⟩
theorem TXSL.upd0 (h:TXSL w0 w g F l) (hu:Upd [] w w'):TXSL w0 w' g F l:=h.upd hu (by simp) (by simp)
theorem txSL_New (w0 w:World) (hu:Upd [] w0 w) :
  Calls Tryz.prog 32 #[] w fun e w'=>∃ g F,e = .returned (.pointer (some ⟨g,0,none⟩))∧TXSL w0 w' g F []∧Upd [] w w'∧(∀ x∈F,w.heap.size≤x):=by
 refine (tNewSL_any w).mono ?_
 rintro e w' ⟨rfl,ht,hu'⟩
 exact ⟨_,_,rfl,⟨⟨_,rfl,⟨ht.tab,OwnN.nil _ _ _,hu.size⟩⟩,Rising.nil,hu.seq hu'⟩,hu',fun x hx=>(ht.lt x hx).1⟩
theorem txSL_Set (k:ByteArray) (y:Sl) (r:Bool) (l':List (ByteArray×Sl)) (hs:TXSL w0 w g F l) (hlen:l.length≤100000) (hk:True) (h1:(!isIn ltSL l k)=r) (h2:tSet ltSL l k y=l') :
  Calls Tryz.prog 57 #[.pointer (some ⟨g,0,none⟩),sv k,slv y] w fun e w'=>e = .returned (.bool r)∧∃ F',TXSL w0 w' g F' l'∧Upd F w w'∧(∀ x∈F',x∈F∨w.heap.size≤x):=by
 subst h1;subst h2
 have hold:=hs.old
 obtain ⟨⟨lv,rfl,ht⟩,hr,-⟩:=hs
 refine (tSetSL_any w k y ht hr hlen hold.size hk).mono ?_
 rintro e w' ⟨rfl,lv',ht',hu,hb⟩
 refine ⟨rfl,g::blk lv',⟨⟨lv',rfl,ht'⟩,hr.set_ strOrd k y,hold.trans hu (by simp) (fun x hx => .inr (ht.lt x hx).1)⟩,hu,fun x hx=>?_⟩
 rcases List.mem_cons.1 hx with rfl|hx
 ·exact .inl (by simp)
 ·exact (hb x hx).imp (fun q=>by simp [q]) id
theorem txSL_Del (k:ByteArray) (r:Bool) (l':List (ByteArray×Sl)) (hs:TXSL w0 w g F l) (hlen:l.length≤100000) (hk:True) (h1:isIn ltSL l k=r) (h2:tDel ltSL l k=l') :
  Calls Tryz.prog 58 #[.pointer (some ⟨g,0,none⟩),sv k] w fun e w'=>e = .returned (.bool r)∧∃ F',TXSL w0 w' g F' l'∧Upd F w w'∧(∀ x∈F',x∈F∨w.heap.size≤x):=by
 subst h1;subst h2
 have hold:=hs.old
 obtain ⟨⟨lv,rfl,ht⟩,hr,-⟩:=hs
 refine (tDelSL_any w k ht hr hlen hk).mono ?_
 rintro e w' ⟨rfl,lv',ht',hu,hb⟩
 refine ⟨rfl,g::blk lv',⟨⟨lv',rfl,ht'⟩,hr.del strOrd k,hold.trans hu (by simp) (fun x hx => .inr (ht.lt x hx).1)⟩,hu,fun x hx=>?_⟩
 rcases List.mem_cons.1 hx with rfl|hx
 ·exact .inl (by simp)
 ·exact (hb x hx).imp (fun q=>by simp [q]) id
theorem txSL_Get (k:ByteArray) (y:Sl) (r:Bool) (hs:TXSL w0 w g F l) (hlen:l.length≤100000) (hk:True) (h:tGet ltSL (⟨none,0,0⟩:Sl) l k=(y,r)) :
  Calls Tryz.prog 56 #[.pointer (some ⟨g,0,none⟩),sv k] w fun e w'=>e = .returned (.tuple #[slv y,.bool r])∧Upd [] w w':=by
 obtain ⟨⟨lv,rfl,ht⟩,hr,-⟩:=hs
 unfold tGet at h
 cases hn:isIn ltSL l k with
 | false=>rw [hn] at h;injection h with h1 h2;subst h1;subst h2;exact tGetSL_no w k ht hr hlen hk hn
 | true=>rw [hn] at h;injection h with h1 h2;subst h1;subst h2;exact tGetSL_ok w k ht hr hlen hk hn
theorem txSL_Len (n:Int) (hs:TXSL w0 w g F l) (h:(l.length:Int)=n) :
  Calls Tryz.prog 59 #[.pointer (some ⟨g,0,none⟩)] w fun e w'=>e = .returned (.int .i64 n)∧w=w':=by
 subst h
 obtain ⟨⟨lv,rfl,ht⟩,hr,-⟩:=hs
 exact tLenSL_any w ht
theorem txSL_At (i:Int) (k:ByteArray) (y:Sl) (r:Bool) (hi:I64 i) (hs:TXSL w0 w g F l) (hlen:l.length≤100000) (h:tAt (⟨#[]⟩:ByteArray) (⟨none,0,0⟩:Sl) l i=(k,y,r)) :
  Calls Tryz.prog 60 #[.pointer (some ⟨g,0,none⟩),.int .i64 i] w fun e w'=>e = .returned (.tuple #[sv k,slv y,.bool r])∧Upd [] w w':=by
 obtain ⟨⟨lv,rfl,ht⟩,hr,-⟩:=hs
 unfold tAt at h
 split at h
 ·rename_i hd
  obtain ⟨j,rfl⟩:=Int.eq_ofNat_of_zero_le hd.1
  injection h with h1 h2;injection h2 with h2 h3;subst h1;subst h2;subst h3
  exact tAtSL_ok w j ht hlen (by omega)
 ·rename_i hd
  injection h with h1 h2;injection h2 with h2 h3;subst h1;subst h2;subst h3
  by_cases h0:i < 0
  ·exact tAtSL_neg w i hi ht h0
  ·exact tAtSL_high w i hi ht hlen (by omega)
end
end Go.Proofs.YthgnlfikneipiaaGreat
namespace Go.Proofs.YthgnlfikneipiaaGreat
open Go.RowKit
abbrev CF:=List (ByteArray×(Sl×List UInt8))
abbrev rowsF (cs:CF):List (ByteArray×Sl):=tMap id (·.1) cs
abbrev dfOf (cs:CF):DF:=tMap id (·.2) cs
section
variable {ν μ : Type} [Inhabited ν] [Inhabited μ]
theorem strLt_irr (a b:ByteArray) (h:strLt a b=true):a≠b:=by rintro rfl;rw [strOrd.irr] at h;exact absurd h (by simp)
theorem mem_take_nthS {α:Type} [Inhabited α] {l:List α} {n:Nat} {p:α} (h:p∈l.take n):∃ i,i < n∧i < l.length∧nth l i=p:=by
 obtain ⟨i,hi,rfl⟩:=List.mem_iff_getElem.1 h
 rw [List.length_take] at hi
 exact ⟨i,by omega,by omega,by rw [nth_get l i (by omega)];simp⟩
theorem mem_drop_nthS {α:Type} [Inhabited α] {l:List α} {n:Nat} {p:α} (h:p∈l.drop n):∃ i,n≤i∧i < l.length∧nth l i=p:=by
 obtain ⟨i,hi,rfl⟩:=List.mem_iff_getElem.1 h
 rw [List.length_drop] at hi
 exact ⟨n+i,by omega,by omega,by rw [nth_get l _ (by omega)];simp⟩
theorem tSet_memS {l:List (ByteArray×ν)} (h:Rising strLt l) (k:ByteArray) (v:ν) (p:ByteArray×ν) (hp:p∈tSet strLt l k v):p=(k,v)∨(p∈l∧p.1≠k):=by
 unfold tSet at hp
 rcases List.mem_append.1 hp with hp|hp
 ·obtain ⟨i,hi,hl,rfl⟩:=mem_take_nthS hp
  exact .inr ⟨nth_mem i hl,strLt_irr _ _ (below_lt l k i hi)⟩
 ·rcases List.mem_cons.1 hp with hp|hp
  ·exact .inl hp
  ·obtain ⟨i,hi,hl,rfl⟩:=mem_drop_nthS hp
   exact .inr ⟨nth_mem i hl,(strLt_irr _ _ (above strOrd h k i hi hl)).symm⟩
theorem tDel_memS {l:List (ByteArray×ν)} (h:Rising strLt l) (k:ByteArray) (p:ByteArray×ν) (hp:p∈tDel strLt l k):p∈l∧(isIn strLt l k=true→p.1≠k):=by
 refine ⟨tDel_mem l k p hp,fun hin=>?_⟩
 unfold tDel at hp
 rw [if_pos hin] at hp
 rcases List.mem_append.1 hp with hp|hp
 ·obtain ⟨i,hi,hl,rfl⟩:=mem_take_nthS hp
  exact strLt_irr _ _ (below_lt l k i hi)
 ·obtain ⟨i,hi,hl,rfl⟩:=mem_drop_nthS hp
  exact (strLt_irr _ _ (above strOrd h k i (by rw [if_pos hin];exact hi) hl)).symm
variable (f : ν → μ)
theorem mapS_isIn (l:List (ByteArray×ν)) (k:ByteArray):isIn strLt (tMap id f l) k=isIn strLt l k:=tMap_isIn (lt:=strLt) (lt':=strLt) id f (fun _=>True) (fun _ _ _ _=>rfl) (fun _ _ _ _ h=>h) l (fun _ _=>trivial) k trivial
theorem mapS_below (l:List (ByteArray×ν)) (k:ByteArray):below strLt (tMap id f l) k=below strLt l k:=tMap_below (lt:=strLt) (lt':=strLt) id f (fun _=>True) (fun _ _ _ _=>rfl) l (fun _ _=>trivial) k trivial
theorem mapS_set (l:List (ByteArray×ν)) (k:ByteArray) (v:ν):tSet strLt (tMap id f l) k (f v)=tMap id f (tSet strLt l k v):=tMap_set (lt:=strLt) (lt':=strLt) id f (fun _=>True) (fun _ _ _ _=>rfl) (fun _ _ _ _ h=>h) l (fun _ _=>trivial) k trivial v
theorem mapS_del (l:List (ByteArray×ν)) (k:ByteArray):tDel strLt (tMap id f l) k=tMap id f (tDel strLt l k):=tMap_del (lt:=strLt) (lt':=strLt) id f (fun _=>True) (fun _ _ _ _=>rfl) (fun _ _ _ _ h=>h) l (fun _ _=>trivial) k trivial
theorem mapS_len (l:List (ByteArray×ν)):(tMap (κ':=ByteArray) id f l).length=l.length:=by simp [tMap]
theorem mapS_rising {l:List (ByteArray×ν)} (h:Rising strLt (tMap (κ':=ByteArray) id f l)):Rising strLt l:=fun i j hij hj=>by
 have hl:=mapS_len f l
 have:=h i j hij (by rw [hl];exact hj)
 rwa [tMap_nth id f l i (by omega),tMap_nth id f l j hj] at this
theorem mapS_rising' {l:List (ByteArray×ν)} (h:Rising strLt l):Rising strLt (tMap (κ':=ByteArray) id f l):=fun i j hij hj=>by
 have hl:=mapS_len f l
 rw [tMap_nth id f l i (by omega),tMap_nth id f l j (by omega)]
 exact h i j hij (by omega)
end
theorem df_len (cs:CF):(dfOf cs).length=cs.length:=by simp [tMap]
theorem rowsF_len (cs:CF):(rowsF cs).length=cs.length:=by simp [tMap]
structure TD (w0 w:World) (g:Nat) (F B:List Nat) (K:KB) (cs:CF):Prop where
 tab:TXSL w0 w g F (rowsF cs)
 sh:∀ c∈cs,Sh B K c.2.1 c.2.2
 gr:∀ c∈cs,Gr B K c.2.1 c.2.2
 ap:∀ c∈cs,∀ d∈cs,c.1≠d.1→Ap (gb c.2.1) (gb d.2.1)
theorem sl_ty {w0 w:World} {g:Nat} {F:List Nat} {l:List (ByteArray×Sl)} (h:TXSL w0 w g F l):∀ x∈F,∃ C f e,w.heap[x]?=some (.cells C e f)∧(e=151∨e=242):=by
 intro x hx
 obtain ⟨lv,rfl,ht⟩:=h.ex
 rcases List.mem_cons.1 hx with rfl|hx
 ·exact ⟨_,_,_,ht.tab,.inl rfl⟩
 ·obtain ⟨C,f,hq⟩:=ht.rows.typ x hx
  exact ⟨C,f,_,hq,.inr rfl⟩
theorem ty_eq {w:World} {x:Nat} {C C':Array Value} {e e':TypeId} {f f':Nat×Nat} (h:w.heap[x]?=some (.cells C e f)) (h':w.heap[x]?=some (.cells C' e' f')):e=e':=by
 rw [h] at h'
 injection h' with h1;injection h1
theorem sl_bks {w0 w:World} {g base:Nat} {F B:List Nat} {K:KB} {l:List (ByteArray×Sl)} (h:TXSL w0 w g F l) (k:Bks base w B K):Ap F B:=by
 intro x hx hB
 obtain ⟨C,f,e,h1,h2⟩:=sl_ty h x hx
 obtain ⟨C',f',h1'⟩:=k.typ x hB
 have:=ty_eq h1 h1'
 rcases h2 with h2|h2<;>(rw [h2] at this;exact absurd this (by decide))
section
variable {w0 w w' : World} {g : Nat} {F B B' : List Nat} {K K' : KB} {cs : CF}
theorem TD.ris (h:TD w0 w g F B K cs):Rising strLt cs:=mapS_rising (fun x:Sl×List UInt8=>x.1) h.tab.ris
theorem TD.risD (h:TD w0 w g F B K cs):Rising strLt (dfOf cs):=mapS_rising' (fun x:Sl×List UInt8=>x.2) h.ris
theorem TD.upd (h:TD w0 w g F B K cs) {S:List Nat} (hu:Upd S w w') (hs:∀ x∈F,x∉S) (hS:∀ x∈S,w0.heap.size≤x):TD w0 w' g F B K cs:=⟨h.tab.upd hu hs hS,h.sh,h.gr,h.ap⟩
theorem TD.upd0 (h:TD w0 w g F B K cs) (hu:Upd [] w w'):TD w0 w' g F B K cs:=h.upd hu (by simp) (by simp)
theorem TD.keep (h:TD w0 w g F B K cs) (he:Ext B K B' K') (hk:∀ x∈B,K' x=K x):TD w0 w g F B' K' cs :=
 ⟨h.tab,fun c hc=>(h.sh c hc).ext he,fun c hc=>(h.gr c hc).keep he.sub hk,h.ap⟩
def Full (cs:CF):Prop:=∀ c∈cs,c.2.1.k≤c.2.1.n
theorem TD.ext (h:TD w0 w g F B K cs) (hf:Full cs) (he:Ext B K B' K'):TD w0 w g F B' K' cs :=
 ⟨h.tab,fun c hc=>(h.sh c hc).ext he,fun c hc=>Gr.full (hf c hc),h.ap⟩
theorem get_rows (cs:CF) (k:ByteArray) (h:isIn strLt cs k=true):tGet strLt (⟨none,0,0⟩:Sl) (rowsF cs) k=((nth cs (below strLt cs k)).2.1,true):=by
 have hlt:below strLt cs k < cs.length:=by unfold isIn at h;exact (of_decide_eq_true h).1
 unfold tGet
 rw [mapS_isIn (·.1) cs k,h,if_pos rfl,mapS_below (·.1) cs k,tMap_nth id (·.1) cs _ hlt]
theorem get_rows_no (cs:CF) (k:ByteArray) (h:isIn strLt cs k=false):tGet strLt (⟨none,0,0⟩:Sl) (rowsF cs) k=(⟨none,0,0⟩,false):=by
 unfold tGet
 rw [mapS_isIn (·.1) cs k,h];rfl
theorem get_df (cs:CF) (k:ByteArray) (h:isIn strLt cs k=true):dGet (dfOf cs) k=((nth cs (below strLt cs k)).2.2,true):=by
 have hlt:below strLt cs k < cs.length:=by unfold isIn at h;exact (of_decide_eq_true h).1
 unfold dGet tGet
 rw [mapS_isIn (·.2) cs k,h,if_pos rfl,mapS_below (·.2) cs k,tMap_nth id (·.2) cs _ hlt]
theorem in_df (cs:CF) (k:ByteArray):inD (dfOf cs) k=isIn strLt cs k:=mapS_isIn (·.2) cs k
theorem TD.found (h:TD w0 w g F B K cs) (k:ByteArray):∃ s l b,tGet strLt (⟨none,0,0⟩:Sl) (rowsF cs) k=(s,b)∧dGet (dfOf cs) k=(l,b)∧inD (dfOf cs) k=b∧Sh B K s l∧Gr B K s l∧(∀ d∈cs,d.1≠k→Gr B K d.2.1 d.2.2∧Ap (gb d.2.1) (gb s)):=by
 cases hin:isIn strLt cs k with
 | true =>
  have hd:below strLt cs k < cs.length∧(nth cs (below strLt cs k)).1=k:=by unfold isIn at hin;exact of_decide_eq_true hin
  have hm:=nth_mem (l:=cs) _ hd.1
  exact ⟨_,_,true,get_rows cs k hin,get_df cs k hin,by rw [in_df,hin],h.sh _ hm,h.gr _ hm,fun d hd' hne=>⟨h.gr d hd',h.ap d hd' _ hm (by rw [hd.2];exact hne)⟩⟩
 | false =>
  refine ⟨⟨none,0,0⟩,[],false,get_rows_no cs k hin,dGet_no (by rw [in_df,hin]),by rw [in_df,hin],Sh.nil,Gr.full (Nat.le_refl _),fun d hd _=>⟨h.gr d hd,fun x _ hx=>?_⟩⟩
  rw [gb_full (Nat.le_refl _)] at hx;simp at hx
def TDoes (w0 w:World) (g:Nat) (F B:List Nat) (K:KB) (fs':DF) (w':World):Prop :=
 ∃ F' B' K' cs',TD w0 w' g F' B' K' cs'∧Bks w0.heap.size w' B' K'∧Ext B K B' K'∧dfOf cs'=fs'∧Upd (F++B) w w'∧(∀ x∈F',x∈F∨w.heap.size≤x)∧(∀ x∈B',x∈B∨w.heap.size≤x)
theorem td_set (k:ByteArray) (s:Sl) (l:List UInt8) (ht:TXSL w0 w g F (rowsF cs)) (hB:Bks w0.heap.size w B K) (hlen:cs.length≤100000) (hc:∀ d∈cs,d.1≠k→Sh B K d.2.1 d.2.2∧Gr B K d.2.1 d.2.2∧Ap (gb d.2.1) (gb s)) (hap:∀ c∈cs,∀ d∈cs,c.1≠d.1→Ap (gb c.2.1) (gb d.2.1)) (hs:Sh B K s l) (hg:Gr B K s l) :
  Calls Tryz.prog 57 #[.pointer (some ⟨g,0,none⟩),sv k,slv s] w fun e w'=>(∃ r,e = .returned (.bool r))∧∃ F',TD w0 w' g F' B K (tSet strLt cs k (s,l))∧Bks w0.heap.size w' B K∧Upd F w w'∧(∀ x∈F',x∈F∨w.heap.size≤x):=by
 have hr:Rising strLt cs:=mapS_rising (fun x:Sl×List UInt8=>x.1) ht.ris
 refine (txSL_Set k s _ _ ht (by rw [rowsF_len];exact hlen) trivial rfl rfl).mono ?_
 rintro e w' ⟨rfl,F',hf,hu,hfr⟩
 have hrow:tSet ltSL (rowsF cs) k s=rowsF (tSet strLt cs k (s,l)):=mapS_set (·.1) cs k (s,l)
 rw [hrow] at hf
 refine ⟨⟨_,rfl⟩,F',⟨hf,fun c hm=>?_,fun c hm=>?_,fun c hm d hd hne=>?_⟩,hB.upd hu (sl_bks ht hB).symm,hu,hfr⟩
 ·rcases tSet_memS hr k _ c hm with rfl|⟨q,qk⟩
  ·exact hs
  ·exact (hc c q qk).1
 ·rcases tSet_memS hr k _ c hm with rfl|⟨q,qk⟩
  ·exact hg
  ·exact (hc c q qk).2.1
 ·rcases tSet_memS hr k _ c hm with rfl|⟨q,qk⟩<;>rcases tSet_memS hr k _ d hd with rfl|⟨r,rk⟩
  ·exact absurd rfl hne
  ·exact (hc d r rk).2.2.symm
  ·exact (hc c q qk).2.2
  ·exact hap c q d r hne
theorem td_del (k:ByteArray) (h:TD w0 w g F B K cs) (hB:Bks w0.heap.size w B K) (hlen:cs.length≤100000) :
  Calls Tryz.prog 58 #[.pointer (some ⟨g,0,none⟩),sv k] w fun e w'=>(∃ r,e = .returned (.bool r))∧∃ F',TD w0 w' g F' B K (tDel strLt cs k)∧Bks w0.heap.size w' B K∧Upd F w w'∧(∀ x∈F',x∈F∨w.heap.size≤x):=by
 refine (txSL_Del k _ _ h.tab (by rw [rowsF_len];exact hlen) trivial rfl rfl).mono ?_
 rintro e w' ⟨rfl,F',hf,hu,hfr⟩
 have hrow:tDel ltSL (rowsF cs) k=rowsF (tDel strLt cs k):=mapS_del (·.1) cs k
 rw [hrow] at hf
 exact ⟨⟨_,rfl⟩,F',⟨hf,fun c hm=>h.sh c (tDel_mem cs k c hm),fun c hm=>h.gr c (tDel_mem cs k c hm),fun c hm d hd hne=>h.ap c (tDel_mem cs k c hm) d (tDel_mem cs k d hd) hne⟩,hB.upd hu (sl_bks h.tab hB).symm,hu,hfr⟩
theorem df_set (cs:CF) (k:ByteArray) (s:Sl) (l:List UInt8):dfOf (tSet strLt cs k (s,l))=tSet strLt (dfOf cs) k l:=(mapS_set (·.2) cs k (s,l)).symm
theorem df_del (cs:CF) (k:ByteArray):dfOf (tDel strLt cs k)=tDel strLt (dfOf cs) k:=(mapS_del (·.2) cs k).symm
end
end Go.Proofs.YthgnlfikneipiaaGreat
namespace Go.Proofs.YthgnlfikneipiaaGreat
open Go.RowKit
abbrev wrv (x:Wr) (sl:Sl):Value := .agg #[.int .i64 x.kd,sv x.nm,sv x.tn,slv sl,.int .i64 x.n]
section
variable {w0 w w' : World} {g : Nat} {F B : List Nat} {K : KB} {cs : CF}
theorem TDoes.of {w1 w2:World} {F' B':List Nat} {K':KB} {cs':CF} {fs':DF} (h1:TD w0 w2 g F' B' K' cs') (h2:Bks w0.heap.size w2 B' K') (h3:Ext B K B' K') (h4:dfOf cs'=fs') (hu:Upd [] w w1) (hu2:Upd (F++B) w1 w2) (hf:∀ x∈F',x∈F∨w.heap.size≤x) (hb:∀ x∈B',x∈B∨w.heap.size≤x):TDoes w0 w g F B K fs' w2 :=
 ⟨F',B',K',cs',h1,h2,h3,h4,hu.trans hu2 (by simp) (fun x hx => .inl hx),hf,hb⟩
theorem ap_full {F:List Nat} {s:Sl} (h:s.k≤s.n):Ap F (gb s):=fun x _ hx=>by rw [gb_full h] at hx;simp at hx
theorem wApply_1 (nm tn:ByteArray) (p:List UInt8) (n:Int) (fs:DF):wApply ⟨1,nm,tn,p,n⟩ fs=tSet strLt fs nm []:=by unfold wApply;simp
theorem wApply_2 (nm tn:ByteArray) (p:List UInt8) (n:Int) (fs:DF):wApply ⟨2,nm,tn,p,n⟩ fs=tSet strLt fs nm ((dGet fs nm).1++p):=by unfold wApply;simp
theorem wApply_3 (nm tn:ByteArray) (p:List UInt8) (n:Int) (fs:DF):wApply ⟨3,nm,tn,p,n⟩ fs=if inD fs nm then tSet strLt (tDel strLt fs nm) tn (dGet fs nm).1 else fs:=by unfold wApply;simp
theorem wApply_4 (nm tn:ByteArray) (p:List UInt8) (n:Int) (fs:DF):wApply ⟨4,nm,tn,p,n⟩ fs=tSet strLt fs nm ((dGet fs nm).1.take n.toNat):=by unfold wApply;simp
theorem wApply_5 (nm tn:ByteArray) (p:List UInt8) (n:Int) (fs:DF):wApply ⟨5,nm,tn,p,n⟩ fs=tDel strLt fs nm:=by unfold wApply;simp
theorem later {F:List Nat} {w w2:World} {x:Nat} (hu:Upd [] w w2) (h:x∈F∨w2.heap.size≤x):x∈F∨w.heap.size≤x:=h.imp id (fun q=>by have:=hu.size;omega)
set_option maxRecDepth 20000 in
set_option maxHeartbeats 4000000 in
theorem apply_any (x:Wr) (sl:Sl) (hx:WrOk x (dfOf cs)) (ht:TD w0 w g F B K cs) (hB:Bks w0.heap.size w B K) (hp:Sh B K sl x.p) :
  Calls Tryz.prog 34 #[wrv x sl,.pointer (some ⟨g,0,none⟩)] w fun e w'=>e = .returned (.tuple #[])∧TDoes w0 w g F B K (wApply x (dfOf cs)) w':=by
 obtain ⟨kd,nm,tn,p,n⟩:=x
 obtain ⟨pa,pn,pk⟩:=sl
 obtain ⟨⟨oa,on,ok⟩,old,b,hget,hdg,hin,hsh,hgr,hoth⟩:=ht.found nm
 have hlen:cs.length≤100000:=by have:=hx.len;rw [df_len] at this;omega
 have hrl:(rowsF cs).length≤100000:=by rw [rowsF_len];exact hlen
 have hbase:=hB
 have hu1:Upd [] w (w.alloc (.cells #[.int .i64 kd,sv nm,sv tn,.slice pa pn pk,.int .i64 n] 116)):=(Upd.refl [] w).alloc _
 have HT:=Lib.hid (ht.upd0 hu1)
 have HB:=Lib.hid (hB.upd hu1 (by simp))
 have HBX:=Lib.hid (Blk.new w 116 [.int .i64 kd,sv nm,sv tn,.slice pa pn pk,.int .i64 n])
 have HGET:=Lib.hid hget
 have HX:=Lib.hid hx
 have HU1:=Lib.hid hu1
 have HSH:=Lib.hid hsh
 have HGR:=Lib.hid hgr
 have HOTH:=Lib.hid hoth
 have HP:=Lib.hid hp
 have HDG:=Lib.hid hdg
 have HIN:=Lib.hid hin
 have HRL:=Lib.hid hrl
 have HLEN:=Lib.hid hlen
 have hkd:=hx.kd
 clear ht hB hget hx hu1 hsh hgr hoth hp hdg hin hbase hrl hlen
 go_enter Tryz.func34,Tryz.ntmps34
 go_wp2_with fail
 (with_reducible refine (txSL_Get nm ⟨oa,on,ok⟩ b HT.out.tab HRL.out trivial HGET.out).mono ?_)
 rintro e w2 ⟨rfl,hu2⟩
 have hB2:=HBX.out.upd hu2 (by simp)
 have d0:=hB2.cell 0
 have d1:=hB2.cell 1
 have d2:=hB2.cell 2
 have d3:=hB2.cell 3
 have d4:=hB2.cell 4
 simp only [List.getElem?_cons_zero,List.getElem?_cons_succ] at d0 d1 d2 d3 d4
 have HT2:=Lib.hid (HT.out.upd0 hu2)
 have HB2:=Lib.hid (HB.out.upd hu2 (by simp))
 have HU2:=Lib.hid (HU1.out.seq hu2)
 have HNF:Hid (w.heap.size∉F):=fun hx=>by
  obtain ⟨C,f,e,h1,h2⟩:=sl_ty HT2.out.tab _ hx
  have:=ty_eq h1 hB2
  rcases h2 with h2|h2<;>(rw [h2] at this;exact absurd this (by decide))
 have HNB:Hid (w.heap.size∉B):=fun hx=>by
  obtain ⟨C,f,h1⟩:=HB2.out.typ _ hx
  exact absurd (ty_eq h1 hB2) (by decide)
 clear hB2 hu2 HT HB HBX HU1
 rcases (show kd=1∨kd=2∨kd=3∨kd=4∨kd=5 by have:=hkd.1;have:=hkd.2;omega) with rfl|rfl|rfl|rfl|rfl
 ·clear hkd
  go_wp2_with fail
  (with_reducible refine (td_set nm ⟨none,0,0⟩ [] HT2.out.tab HB2.out HLEN.out (fun d hd hne=>⟨HT2.out.sh d hd,HT2.out.gr d hd,ap_full (Nat.le_refl _)⟩) HT2.out.ap Sh.nil (Gr.full (Nat.le_refl _))).mono ?_)
  rintro e w3 ⟨⟨r,rfl⟩,F3,h3,hb3,hu3,hf3⟩
  have H9:=Lib.hid (TDoes.of (fs':=wApply ⟨1,nm,tn,p,n⟩ (dfOf cs)) (w:=w) (B:=B) (K:=K) (F:=F) h3 hb3 (Ext.refl _ _) (by rw [df_set,wApply_1 nm tn p n]) HU2.out (hu3.mono (fun x hx => .inl (by simp [hx]))) (fun x hx=>later HU2.out (hf3 x hx)) (fun x hx => .inl hx))
  clear h3 hb3 hu3 hf3
  go_wp2_with fail
  go_end0
  exact ⟨rfl,H9.out⟩
 ·clear hkd
  obtain ⟨hne,hpl⟩:=HX.out.put rfl
  dsimp only at hne hpl
  rw [HDG.out] at hpl
  dsimp only at hpl
  have HRUN:Hid (∀ ty,∃ v' w',(Builtin.append_ #[33,33] ty #[slv ⟨oa,on,ok⟩,slv ⟨pa,pn,pk⟩]).run Tryz.prog w2.drew = .ok v' w'∧Grew w0.heap.size w2.drew B K ⟨oa,on,ok⟩ (old++p) v' w'):=fun ty=>app_step (HB2.out.upd (Upd.refl [] w2).drew (by simp)) HSH.out HGR.out (HP.out.rd (HB2.out.upd (Upd.refl [] w2).drew (by simp))) hne (by omega) (by have:=HT2.out.tab.old.size;exact this)
  clear hne hpl
  have HFB:Hid (∀ x∈F,x∉B):=sl_bks HT2.out.tab HB2.out
  go_wp2_with fail
  go_region_held3 (fun w'=>w'.cell? ⟨w.heap.size,1,none⟩=some (sv nm)∧w'.cell? ⟨w.heap.size,3,none⟩=some (.slice pa pn pk)) (first|go_keep|exact k5|exact k4)
   (first
    | ((with_reducible refine step_app_of rfl (.tmp 26) (.tmp 28) rfl (.slice oa on ok) (.slice pa pn pk) rfl rfl (HRUN.out _) ?_);(rintro v3 w3 ⟨⟨sa,sn,sk⟩,B3,K3,rfl,hb3,he3,hn3,hs3,hg3,hu3,ho3⟩;have k4:=And.intro (hu3.cell (p:=⟨w.heap.size,1,none⟩) d1 HNB.out) (hu3.cell (p:=⟨w.heap.size,3,none⟩) d3 HNB.out);have HB3:=Lib.hid hb3;have HE3:=Lib.hid he3;have HN3:=Lib.hid hn3;have HS3:=Lib.hid hs3;have HG3:=Lib.hid hg3;have HU3:=Lib.hid hu3;have HO3:=Lib.hid ho3;clear hb3 he3 hn3 hs3 hg3 hu3 ho3;dsimp only))
    | (go_at_call 57;(with_reducible refine (td_set nm ⟨sa,sn,sk⟩ (old++p) (HT2.out.tab.upd (S:=B) ((Upd.refl [] w2).drew.trans HU3.out (by simp) (fun x hx => .inl hx)) HFB.out (fun x hx=>(HB2.out.ge x hx).1)) HB3.out HLEN.out (fun d hd hne=>⟨(HT2.out.sh d hd).ext HE3.out,HO3.out _ _ (HOTH.out d hd hne).1 (HOTH.out d hd hne).2⟩) HT2.out.ap HS3.out HG3.out).mono ?_);(rintro e w4 ⟨⟨r,rfl⟩,F4,h4,hb4,hu4,hf4⟩;have k5:=And.intro (hu4.cell (p:=⟨w.heap.size,1,none⟩) k4.1 HNF.out) (hu4.cell (p:=⟨w.heap.size,3,none⟩) k4.2 HNF.out);dsimp only)))
  have hu3':Upd B w w3:=HU2.out.drew.trans HU3.out (by simp) (fun x hx => .inl hx)
  have H9:Hid (TDoes w0 w g F B K (wApply ⟨2,nm,tn,p,n⟩ (dfOf cs)) w4):=⟨F4,B3,K3,_,h4,hb4,HE3.out,by rw [df_set,wApply_2,HDG.out],hu3'.trans hu4 (fun x hx=>by simp [hx]) (fun x hx => .inl (by simp [hx])),fun x hx=>(hf4 x hx).imp id (fun q=>by have:=hu3'.size;omega),fun x hx=>(HN3.out x hx).imp id (fun q=>by have:=HU2.out.size;have:w2.drew.heap.size=w2.heap.size:=rfl;omega)⟩
  clear h4 hb4 hu4 hf4 hu3'
  go_wp2_with fail
  go_end0
  exact ⟨rfl,H9.out⟩
 ·clear hkd
  cases b with
  | false =>
   go_wp2_with fail
   go_end0
   exact ⟨rfl,TDoes.of (w:=w) (B:=B) (K:=K) (F:=F) HT2.out HB2.out (Ext.refl _ _) (by rw [wApply_3,HIN.out];rfl) (Upd.refl _ _) (HU2.out.mono (by simp)) (fun x hx => .inl hx) (fun x hx => .inl hx)⟩
  | true =>
   go_wp2_with fail
   (with_reducible refine (td_del nm HT2.out HB2.out HLEN.out).mono ?_)
   rintro e w3 ⟨⟨r,rfl⟩,F3,h3,hb3,hu3,hf3⟩
   have e2:=hu3.cell d2 (HNF.out)
   have H3:=Lib.hid h3
   have HB3:=Lib.hid hb3
   have HU3:=Lib.hid hu3
   have HF3:=Lib.hid hf3
   clear h3 hb3 hu3 hf3 d0 d1 d2 d3 d4
   have HL3:Hid (List.length (tDel strLt cs nm)≤100000):=Nat.le_trans (tDel_len cs nm) HLEN.out
   have HO3:Hid (∀ d∈tDel strLt cs nm,Gr B K d.2.1 d.2.2∧Ap (gb d.2.1) (gb ⟨oa,on,ok⟩)):=fun d hd=>by
    obtain ⟨h1,h2⟩:=tDel_memS HT2.out.ris nm d hd
    exact HOTH.out d h1 (h2 (by rw [← in_df];exact HIN.out))
   go_wp2_with fail
   (with_reducible refine (td_set tn ⟨oa,on,ok⟩ old H3.out.tab HB3.out HL3.out (fun d hd hne=>⟨H3.out.sh d hd,HO3.out d hd⟩) H3.out.ap HSH.out HGR.out).mono ?_)
   rintro e w4 ⟨⟨r,rfl⟩,F4,h4,hb4,hu4,hf4⟩
   have H9:Hid (TDoes w0 w g F B K (wApply ⟨3,nm,tn,p,n⟩ (dfOf cs)) w4):=⟨F4,B,K,_,h4,hb4,Ext.refl _ _,by rw [df_set,df_del,wApply_3,HIN.out,HDG.out];rfl,HU2.out.trans (HU3.out.trans (T:=F++B) hu4 (fun x hx=>by simp [hx]) (fun x hx=>(HF3.out x hx).imp (fun q=>by simp [q]) id)) (by simp) (fun x hx => .inl hx),fun x hx=>by
    have:=HU2.out.size
    have:=HU3.out.size
    rcases hf4 x hx with q|q
    ·exact later HU2.out (HF3.out x q)
    ·exact .inr (by omega),fun x hx => .inl hx⟩
   clear h4 hb4 hu4 hf4
   go_wp2_with fail
   go_end0
   exact ⟨rfl,H9.out⟩
 ·clear hkd
  obtain ⟨h0,hn⟩:=HX.out.cut rfl
  dsimp only at h0 hn
  rw [HDG.out] at hn
  dsimp only at hn
  obtain ⟨m,rfl⟩:=Int.eq_ofNat_of_zero_le h0
  have hml:m≤old.length:=by omega
  have hmk:m≤ok:=by have:=HSH.out.n;have:=HSH.out.k;dsimp only at *;omega
  have hcut:=fun W=>run_cut_hm (P:=Tryz.prog) (size:=1) Tryz.underlying33 (by kernel_rfl) oa on ok m hmk W
  have HML:=Lib.hid hml
  clear h0 hn hml hmk
  go_wp2_with fail
  go_still_tail 9,(by kernel_rfl)
  change wpList _ _ _ _ _ w2.drew
  go_wp2_with fail
  (with_reducible refine (td_set nm ⟨oa,m,m⟩ (old.take m) (HT2.out.tab.upd0 (Upd.refl [] w2).drew) (HB2.out.upd (Upd.refl [] w2).drew (by simp)) HLEN.out (fun d hd hne=>⟨HT2.out.sh d hd,HT2.out.gr d hd,ap_full (Nat.le_refl _)⟩) HT2.out.ap (HSH.out.cut m HML.out) (Gr.full (Nat.le_refl _))).mono ?_)
  rintro e w3 ⟨⟨r,rfl⟩,F3,h3,hb3,hu3,hf3⟩
  have H9:=Lib.hid (TDoes.of (fs':=wApply ⟨4,nm,tn,p,(m:Int)⟩ (dfOf cs)) (w:=w) (B:=B) (K:=K) (F:=F) h3 hb3 (Ext.refl _ _) (by rw [df_set,wApply_4,HDG.out,Int.toNat_natCast]) HU2.out.drew (hu3.mono (fun x hx => .inl (by simp [hx]))) (fun x hx=>later HU2.out (hf3 x hx)) (fun x hx => .inl hx))
  clear h3 hb3 hu3 hf3
  go_wp2_with fail
  go_end0
  exact ⟨rfl,H9.out⟩
 ·clear hkd
  go_wp2_with fail
  (with_reducible refine (td_del nm HT2.out HB2.out HLEN.out).mono ?_)
  rintro e w3 ⟨⟨r,rfl⟩,F3,h3,hb3,hu3,hf3⟩
  have H9:=Lib.hid (TDoes.of (fs':=wApply ⟨5,nm,tn,p,n⟩ (dfOf cs)) (w:=w) (B:=B) (K:=K) (F:=F) h3 hb3 (Ext.refl _ _) (by rw [df_del,wApply_5 nm tn p n]) HU2.out (hu3.mono (fun x hx => .inl (by simp [hx]))) (fun x hx=>later HU2.out (hf3 x hx)) (fun x hx => .inl hx))
  clear h3 hb3 hu3 hf3
  go_wp2_with fail
  go_end0
  exact ⟨rfl,H9.out⟩
end
end Go.Proofs.YthgnlfikneipiaaGreat
namespace Go.Proofs.YthgnlfikneipiaaGreat
open Go.RowKit
abbrev LW:=Wr×Sl
abbrev lwCells (x:LW):List Value:=[.int .i64 x.1.kd,sv x.1.nm,sv x.1.tn,slv x.2,.int .i64 x.1.n]
theorem lwCells_len:∀ x,(lwCells x).length=5:=fun _=>rfl
theorem lwCells_one:∀ x,∀ u∈lwCells x,u.oneCell'=true:=by intro x u hu;simp [lwCells] at hu;rcases hu with rfl|rfl|rfl|rfl|rfl<;>rfl
theorem infoLW:(Tryz.prog.info? 116).map (fun i=>(i.zero,i.size,i.bytes))=some (some (.agg #[.int .i64 0,.string ⟨#[]⟩,.string ⟨#[]⟩,.slice none 0 0,.int .i64 0]),5,72):=by kernel_rfl
theorem undLW:Tryz.prog.underlying 110=some (.slice 116):=by kernel_rfl
theorem ownN_sl {base:Nat} {e:TypeId} {w:World} {v:Value} {l:List LW} (h:OwnN 5 lwCells base e w v l):∃ s:Sl,v = .slice s.a s.n s.k:=by
 obtain ⟨a,k,h,_⟩:=h.rd lwCells_len
 exact ⟨⟨a,_,k⟩,h⟩
structure DC (w0 w:World) (gd gn gm:Nat) (Fn Fm B:List Nat) (K:KB) (cn cm:CF) (lv:Value) (lg:List LW):Prop where
 dk:Blk w gd 112 [.pointer (some ⟨gn,0,none⟩),.pointer (some ⟨gm,0,none⟩),lv]
 gdb:w0.heap.size≤gd
 now:TD w0 w gn Fn B K cn
 mark:TD w0 w gm Fm B K cm
 full:Full cm
 apt:Ap Fn Fm
 bks:Bks w0.heap.size w B K
 log:OwnN 5 lwCells w0.heap.size 116 w lv lg
 lsh:∀ x∈lg,Sh B K x.2 x.1.p
def dfoot (gd:Nat) (Fn Fm B:List Nat) (lv:Value):List Nat:=gd::(Fn++Fm++B++blk lv)
theorem dfoot_mem (gd:Nat) (Fn Fm B:List Nat) (lv:Value) (x:Nat):x∈dfoot gd Fn Fm B lv↔x=gd∨x∈Fn∨x∈Fm∨x∈B∨x∈blk lv:=by
 unfold dfoot
 simp only [List.mem_cons,List.mem_append]
 constructor
 ·rintro (h|((h|h)|h)|h)
  ·exact .inl h
  ·exact .inr (.inl h)
  ·exact .inr (.inr (.inl h))
  ·exact .inr (.inr (.inr (.inl h)))
  ·exact .inr (.inr (.inr (.inr h)))
 ·rintro (h|h|h|h|h)
  ·exact .inl h
  ·exact .inr (.inl (.inl (.inl h)))
  ·exact .inr (.inl (.inl (.inr h)))
  ·exact .inr (.inl (.inr h))
  ·exact .inr (.inr h)
section
variable {w0 w w' : World} {gd gn gm : Nat} {Fn Fm B : List Nat} {K : KB} {cn cm : CF} {lv : Value} {lg : List LW}
theorem DC.old (h:DC w0 w gd gn gm Fn Fm B K cn cm lv lg):Upd [] w0 w:=h.now.tab.old
theorem DC.upd (h:DC w0 w gd gn gm Fn Fm B K cn cm lv lg) {S:List Nat} (hu:Upd S w w') (hs:∀ x∈dfoot gd Fn Fm B lv,x∉S) (hS:∀ x∈S,w0.heap.size≤x):DC w0 w' gd gn gm Fn Fm B K cn cm lv lg :=
 ⟨h.dk.upd hu (hs gd ((dfoot_mem _ _ _ _ _ _).2 (.inl rfl))),h.gdb,h.now.upd hu (fun x hx=>hs x ((dfoot_mem _ _ _ _ _ _).2 (.inr (.inl hx)))) hS,h.mark.upd hu (fun x hx=>hs x ((dfoot_mem _ _ _ _ _ _).2 (.inr (.inr (.inl hx))))) hS,h.full,h.apt,
  h.bks.upd hu (fun x hx=>hs x ((dfoot_mem _ _ _ _ _ _).2 (.inr (.inr (.inr (.inl hx)))))),h.log.upd hu (fun x hx=>hs x ((dfoot_mem _ _ _ _ _ _).2 (.inr (.inr (.inr (.inr hx)))))),h.lsh⟩
theorem DC.upd0 (h:DC w0 w gd gn gm Fn Fm B K cn cm lv lg) (hu:Upd [] w w'):DC w0 w' gd gn gm Fn Fm B K cn cm lv lg:=h.upd hu (by simp) (by simp)
theorem DC.ge (h:DC w0 w gd gn gm Fn Fm B K cn cm lv lg):∀ x∈dfoot gd Fn Fm B lv,w0.heap.size≤x∧x < w.heap.size:=by
 intro x hx
 rcases (dfoot_mem _ _ _ _ _ _).1 hx with rfl|hx|hx|hx|hx
 ·exact ⟨h.gdb,h.dk.lt⟩
 ·exact h.now.tab.ge x hx
 ·exact h.mark.tab.ge x hx
 ·exact h.bks.ge x hx
 ·exact h.log.ge x hx
theorem dk_F {l:List (ByteArray×Sl)} {g:Nat} {F:List Nat} {xs:List Value} (h:Blk w gd 112 xs) (k:TXSL w0 w g F l):gd∉F:=fun hx=>by
 obtain ⟨C,f,e,h1,h2⟩:=sl_ty k gd hx
 have:=ty_eq h1 h
 rcases h2 with h2|h2<;>(rw [h2] at this;exact absurd this (by decide))
theorem dk_B {base:Nat} {xs:List Value} (h:Blk w gd 112 xs) (k:Bks base w B K):gd∉B:=fun hx=>by
 obtain ⟨C,f,h1⟩:=k.typ gd hx
 exact absurd (ty_eq h1 h) (by decide)
theorem dk_L {base:Nat} {xs:List Value} {v:Value} {l:List LW} (h:Blk w gd 112 xs) (k:OwnN 5 lwCells base 116 w v l):gd∉blk v:=fun hx=>by
 obtain ⟨C,f,h1⟩:=k.typ gd hx
 exact absurd (ty_eq h1 h) (by decide)
theorem log_F {base:Nat} {v:Value} {lg:List LW} {l:List (ByteArray×Sl)} {g:Nat} {F:List Nat} (h:OwnN 5 lwCells base 116 w v lg) (k:TXSL w0 w g F l):Ap (blk v) F:=fun x hx hF=>by
 obtain ⟨C',f',h1'⟩:=h.typ x hx
 obtain ⟨C,f,e,h1,h2⟩:=sl_ty k x hF
 have:=ty_eq h1 h1'
 rcases h2 with h2|h2<;>(rw [h2] at this;exact absurd this (by decide))
theorem log_B {base base':Nat} {v:Value} {lg:List LW} (h:OwnN 5 lwCells base 116 w v lg) (k:Bks base' w B K):Ap (blk v) B:=fun x hx hF=>by
 obtain ⟨C',f',h1'⟩:=h.typ x hx
 obtain ⟨C,f,h1⟩:=k.typ x hF
 exact absurd (ty_eq h1 h1') (by decide)
theorem DC.step (h:DC w0 w gd gn gm Fn Fm B K cn cm lv lg) {Fn' B':List Nat} {K':KB} {cn':CF} (h1:TD w0 w' gn Fn' B' K' cn') (h2:Bks w0.heap.size w' B' K') (h3:Ext B K B' K') (hu:Upd (Fn++B) w w') (hf:∀ x∈Fn',x∈Fn∨w.heap.size≤x):DC w0 w' gd gn gm Fn' Fm B' K' cn' cm lv lg :=
 have hge:∀ x∈Fn++B,w0.heap.size≤x:=fun x hx=>by
  rcases List.mem_append.1 hx with q|q
  ·exact (h.now.tab.ge x q).1
  ·exact (h.bks.ge x q).1
 ⟨h.dk.upd hu (fun hx=>by
   rcases List.mem_append.1 hx with q|q
   ·exact dk_F h.dk h.now.tab q
   ·exact dk_B h.dk h.bks q),h.gdb,h1,(h.mark.upd hu (fun x hx hx'=>by
   rcases List.mem_append.1 hx' with q|q
   ·exact h.apt x q hx
   ·exact sl_bks h.mark.tab h.bks x hx q) hge).ext h.full h3,h.full,h.apt.next hf (fun x hx=>(h.mark.tab.ge x hx).2),h2,h.log.upd hu (fun x hx hx'=>by
   rcases List.mem_append.1 hx' with q|q
   ·exact log_F h.log h.now.tab x hx q
   ·exact log_B h.log h.bks x hx q),fun x hx=>(h.lsh x hx).ext h3⟩
end
structure DD (w0 w:World) (gd:Nat) (G:List Nat) (s:DS):Prop where
 ex:∃ gn gm Fn Fm B K cn cm lv lg,DC w0 w gd gn gm Fn Fm B K cn cm lv lg∧s=⟨dfOf cn,dfOf cm,lg.map (·.1)⟩∧DOk s∧G=dfoot gd Fn Fm B lv
def DOut (w0 w:World) (gd:Nat) (G:List Nat) (s':DS) (w':World):Prop:=∃ G',DD w0 w' gd G' s'∧Upd G w w'∧(∀ x∈G',x∈G∨w.heap.size≤x)
section
variable {w0 w w' : World} {gd : Nat} {G : List Nat} {s : DS}
theorem DD.old (h:DD w0 w gd G s):Upd [] w0 w:=by
 obtain ⟨gn,gm,Fn,Fm,B,K,cn,cm,lv,lg,hc,-⟩:=h.ex
 exact hc.old
theorem DD.ge (h:DD w0 w gd G s):∀ x∈G,w0.heap.size≤x∧x < w.heap.size:=by
 obtain ⟨gn,gm,Fn,Fm,B,K,cn,cm,lv,lg,hc,-,-,rfl⟩:=h.ex
 exact hc.ge
theorem DD.ok (h:DD w0 w gd G s):DOk s:=by
 obtain ⟨gn,gm,Fn,Fm,B,K,cn,cm,lv,lg,hc,-,ho,-⟩:=h.ex
 exact ho
theorem DD.upd (h:DD w0 w gd G s) {S:List Nat} (hu:Upd S w w') (hs:∀ x∈G,x∉S) (hS:∀ x∈S,w0.heap.size≤x):DD w0 w' gd G s:=by
 obtain ⟨gn,gm,Fn,Fm,B,K,cn,cm,lv,lg,hc,e,ho,rfl⟩:=h.ex
 exact ⟨gn,gm,Fn,Fm,B,K,cn,cm,lv,lg,hc.upd hu hs hS,e,ho,rfl⟩
theorem DD.upd0 (h:DD w0 w gd G s) (hu:Upd [] w w'):DD w0 w' gd G s:=h.upd hu (by simp) (by simp)
theorem DD.out0 (h:DD w0 w gd G s) (hu:Upd [] w w'):DOut w0 w gd G s w':=⟨G,h.upd0 hu,hu.mono (by simp),fun x hx => .inl hx⟩
end
end Go.Proofs.YthgnlfikneipiaaGreat
namespace Go.Proofs.YthgnlfikneipiaaGreat
open Go.RowKit
section
variable {w0 w w' : World} {gd gn gm : Nat} {Fn Fm B : List Nat} {K : KB} {cn cm : CF} {lv : Value} {lg : List LW}
set_option maxRecDepth 20000 in
set_option maxHeartbeats 4000000 in
theorem do_any (x:Wr) (sl:Sl) (h:DC w0 w gd gn gm Fn Fm B K cn cm lv lg) (hx:WrOk x (dfOf cn)) (hp:Sh B K sl x.p) (hl:lg.length≤1000000000) :
  Calls Tryz.prog 148 #[.pointer (some ⟨gd,0,none⟩),wrv x sl] w fun e w'=>e = .returned (.tuple #[])∧∃ Fn' B' K' cn' lv',DC w0 w' gd gn gm Fn' Fm B' K' cn' cm lv' (lg++[(x,sl)])∧Ext B K B' K'∧dfOf cn'=wApply x (dfOf cn)∧Upd (dfoot gd Fn Fm B lv) w w'∧(∀ y∈dfoot gd Fn' Fm B' lv',y∈dfoot gd Fn Fm B lv∨w.heap.size≤y):=by
 obtain ⟨ao,co,rfl,hlc,hcm,-⟩:=h.log.rd lwCells_len
 obtain ⟨kd,nm,tn,p,n⟩:=x
 obtain ⟨pa,pn,pk⟩:=sl
 have hu1:Upd [] w (w.alloc (.cells #[.int .i64 kd,sv nm,sv tn,.slice pa pn pk,.int .i64 n] 116)):=(Upd.refl [] w).alloc _
 have H1:=Lib.hid (h.upd0 hu1)
 have HBX:=Lib.hid (Blk.new w 116 [.int .i64 kd,sv nm,sv tn,.slice pa pn pk,.int .i64 n])
 have HGE:=Lib.hid h.ge
 have HX:=Lib.hid hx
 have HP:=Lib.hid hp
 have HU1:=Lib.hid hu1
 have c0:(w.alloc (.cells #[.int .i64 kd,sv nm,sv tn,.slice pa pn pk,.int .i64 n] 116)).cell? ⟨gd,0,none⟩=some (.pointer (some ⟨gn,0,none⟩)):=hu1.cell (h.dk.cell 0) (by simp)
 have hgd:gd < w.heap.size:=h.dk.lt
 clear h hx hp hu1
 go_enter Tryz.func148,Tryz.ntmps148
 go_wp2_with fail
 have d0:=HBX.out.cell 0
 have d1:=HBX.out.cell 1
 have d2:=HBX.out.cell 2
 have d3:=HBX.out.cell 3
 have d4:=HBX.out.cell 4
 simp only [List.getElem?_cons_zero,List.getElem?_cons_succ] at d0 d1 d2 d3 d4
 have hw1:=HU1.out.size
 have HW1:Hid (w.heap.size < (w.alloc (.cells #[.int .i64 kd,sv nm,sv tn,.slice pa pn pk,.int .i64 n] 116)).heap.size):=HBX.out.lt
 generalize w.alloc (.cells #[.int .i64 kd,sv nm,sv tn,.slice pa pn pk,.int .i64 n] 116)=w1 at *
 go_still_tail 5,(by kernel_rfl)
 change wpList _ _ _ _ _ w1.drew
 go_wp2_with fail
 (with_reducible refine (apply_any ⟨kd,nm,tn,p,n⟩ ⟨pa,pn,pk⟩ HX.out (H1.out.now.upd0 (Upd.refl [] w1).drew) (H1.out.bks.upd (Upd.refl [] w1).drew (by simp)) HP.out).mono ?_)
 rintro e w2 ⟨rfl,F2,B2,K2,cs2,h2,hb2,he2,hfs2,hu2,hf2,hn2⟩
 have hfb:∀ y∈Fn++B,y∈dfoot gd Fn Fm B (Value.slice ao lg.length co):=fun y hy=>(dfoot_mem _ _ _ _ _ _).2 (by rcases List.mem_append.1 hy with q|q;exact .inr (.inl q);exact .inr (.inr (.inr (.inl q))))
 have hbx:w.heap.size∉Fn++B:=fun hy=>by have:=(HGE.out _ (hfb _ hy)).2;omega
 have H2:=Lib.hid ((H1.out.upd0 (Upd.refl [] w1).drew).step h2 hb2 he2 hu2 hf2)
 have hB2:Blk w2 w.heap.size 116 [.int .i64 kd,sv nm,sv tn,.slice pa pn pk,.int .i64 n]:=Blk.upd (w:=w1.drew) HBX.out hu2 hbx
 have HU2:Hid (Upd (dfoot gd Fn Fm B (Value.slice ao lg.length co)) w w2):=HU1.out.drew.trans hu2 (by simp) (fun y hy => .inl (hfb y hy))
 have d0:=hB2.cell 0
 have d1:=hB2.cell 1
 have d2:=hB2.cell 2
 have d3:=hB2.cell 3
 have d4:=hB2.cell 4
 simp only [List.getElem?_cons_zero,List.getElem?_cons_succ] at d0 d1 d2 d3 d4
 have c2:w2.cell? ⟨gd,2,none⟩=some (.slice ao lg.length co):=H2.out.dk.cell 2
 have f2:w2.frozen? ⟨gd,2,none⟩=false:=H2.out.dk.frozen 2
 have HE2:=Lib.hid he2
 have HFS2:=Lib.hid hfs2
 have HF2:=Lib.hid hf2
 have HN2:=Lib.hid hn2
 have hs2:=hu2.size
 have HW2:Hid (w.heap.size < w2.heap.size):=hB2.lt
 clear h2 hb2 he2 hfs2 hu2 hf2 hn2 hfb hbx hB2 c0 H1 HBX HU1 hw1 hs2
 have hua:Upd [] w2 (w2.drew.alloc (.cells #[.int .i64 kd,sv nm,sv tn,.slice pa pn pk,.int .i64 n] 116)):=(Upd.refl [] w2).drew.alloc _
 have HUA:=Lib.hid hua
 have HOW:=H2.out.log.upd hua (by simp)
 have hnewb:Blk (w2.drew.alloc (.cells #[.int .i64 kd,sv nm,sv tn,.slice pa pn pk,.int .i64 n] 116)) w2.heap.size 116 [.int .i64 kd,sv nm,sv tn,.slice pa pn pk,.int .i64 n]:=Blk.new w2.drew _ _
 have HRD:RdN 5 lwCells (w2.drew.alloc (.cells #[.int .i64 kd,sv nm,sv tn,.slice pa pn pk,.int .i64 n] 116)) (.slice (some ⟨w2.heap.size,0,none⟩) 1 1) [(⟨kd,nm,tn,p,n⟩,⟨pa,pn,pk⟩)]:=by
  refine ⟨_,1,rfl,by simp,by simp [maxLen],fun _=>⟨w2.heap.size,0,rfl,fun j hj i hi=>?_⟩⟩
  have hj0:j=0:=by simpa using hj
  subst hj0
  rw [Nat.zero_mul,Nat.zero_add,Nat.zero_add,hnewb.cell];rfl
 have hbs:w0.heap.size≤(w2.drew.alloc (.cells #[.int .i64 kd,sv nm,sv tn,.slice pa pn pk,.int .i64 n] 116)).heap.size:=(H2.out.old.seq hua).size
 have HRUN:=Lib.hid (fun ty=>run_appN (P:=Tryz.prog) (ty:=ty) lwCells_len (by decide) lwCells_one undLW infoLW rfl _ _ lg [(⟨kd,nm,tn,p,n⟩,⟨pa,pn,pk⟩)] HOW HRD (by simp;omega) (by simp [maxLen];omega) hbs)
 have HDK:=Lib.hid (H2.out.dk.upd hua (by simp))
 have HGL:=Lib.hid (dk_L H2.out.dk H2.out.log)
 clear hua HOW hnewb HRD hbs
 go_wp2_with fail
 have c2':(w2.alloc (Obj.cells #[.int .i64 kd,sv nm,sv tn,.slice pa pn pk,.int .i64 n] 116)).cell? ⟨gd,2,none⟩=some (.slice ao lg.length co):=((Upd.refl [] w2).alloc _).cell c2 (by simp)
 go_region_law (first|((with_reducible refine step_app_of rfl (.tmp 14) (.tmp 16) rfl (.slice ao lg.length co) (.slice (some ⟨w2.heap.size,0,none⟩) 1 1) rfl rfl (HRUN.out _) ?_);(rintro v3 w3 ⟨ho3,hu3,hk3⟩;obtain ⟨⟨a3,n3,k3⟩,rfl⟩:=ownN_sl ho3;have hb3:=HDK.out.upd hu3 HGL.out;have c3:w3.cell? ⟨gd,2,none⟩=some (.slice ao lg.length co):=hb3.cell 2;have f3:=hb3.frozen 2;have HB3:=Lib.hid hb3;have HO3:=Lib.hid ho3;have HU3:=Lib.hid hu3;have HK3:=Lib.hid hk3;clear ho3 hu3 hk3 hb3;dsimp only)))
 all_goals
  go_end0
  have hset:Upd [gd] w3 (w3.setCell ⟨gd,2,none⟩ (.slice a3 n3 k3)):=(Upd.refl [gd] w3).setCell _ _ (.inl (by simp))
  have hgv:gd∉blk (.slice a3 n3 k3):=fun hy=>by
   rcases HK3.out _ hy with q|q
   ·exact HGL.out q
   ·have:=H2.out.dk.lt;have:=HUA.out.size;omega
  have hw3:Upd (blk (Value.slice ao lg.length co)) w2 w3:=HUA.out.trans HU3.out (by simp) (fun y hy => .inl hy)
  have hlog:∀ y∈blk (Value.slice ao lg.length co),y∈dfoot gd Fn Fm B (Value.slice ao lg.length co):=fun y hy=>(dfoot_mem _ _ _ _ _ _).2 (.inr (.inr (.inr (.inr hy))))
  have hall:Upd (gd::blk (Value.slice ao lg.length co)) w2 (w3.setCell ⟨gd,2,none⟩ (.slice a3 n3 k3)):=hw3.trans hset (fun y hy=>by simp [hy]) (fun y hy => .inl (by simp at hy;simp [hy]))
  have hgeb:∀ x∈gd::blk (Value.slice ao lg.length co),w0.heap.size≤x:=fun x hx=>by
   rcases List.mem_cons.1 hx with rfl|q
   ·exact H2.out.gdb
   ·exact (H2.out.log.ge x q).1
  refine ⟨rfl,F2,B2,K2,cs2,(.slice a3 n3 k3),⟨HB3.out.set_ 2 (.slice a3 n3 k3),H2.out.gdb,?_,?_,H2.out.full,H2.out.apt,?_,?_,?_⟩,HE2.out,HFS2.out,?_,?_⟩
  ·refine H2.out.now.upd hall (fun x hx hy=>?_) hgeb
   rcases List.mem_cons.1 hy with rfl|q
   ·exact dk_F H2.out.dk H2.out.now.tab hx
   ·exact log_F H2.out.log H2.out.now.tab x q hx
  ·refine H2.out.mark.upd hall (fun x hx hy=>?_) hgeb
   rcases List.mem_cons.1 hy with rfl|q
   ·exact dk_F H2.out.dk H2.out.mark.tab hx
   ·exact log_F H2.out.log H2.out.mark.tab x q hx
  ·refine H2.out.bks.upd hall (fun x hx hy=>?_)
   rcases List.mem_cons.1 hy with rfl|q
   ·exact dk_B H2.out.dk H2.out.bks hx
   ·exact log_B H2.out.log H2.out.bks x q hx
  ·exact HO3.out.upd hset (fun x hx hy=>hgv (by simp at hy;rw [← hy];exact hx))
  ·intro y hy
   rcases List.mem_append.1 hy with q|q
   ·exact H2.out.lsh y q
   ·simp at q;subst q;exact HP.out.ext HE2.out
  ·refine HU2.out.trans hall (fun y hy=>hy) (fun y hy => .inl ?_)
   rcases List.mem_cons.1 hy with rfl|q
   ·exact (dfoot_mem _ _ _ _ _ _).2 (.inl rfl)
   ·exact hlog y q
  ·intro y hy
   have hwl:=HW2.out
   have hw1:w1.drew.heap.size=w1.heap.size:=rfl
   have h12:=HW1.out
   rcases (dfoot_mem _ _ _ _ _ _).1 hy with rfl|q|q|q|q
   ·exact .inl ((dfoot_mem _ _ _ _ _ _).2 (.inl rfl))
   ·exact (HF2.out y q).imp (fun q=>(dfoot_mem _ _ _ _ _ _).2 (.inr (.inl q))) (fun q=>by omega)
   ·exact .inl ((dfoot_mem _ _ _ _ _ _).2 (.inr (.inr (.inl q))))
   ·exact (HN2.out y q).imp (fun q=>(dfoot_mem _ _ _ _ _ _).2 (.inr (.inr (.inr (.inl q))))) (fun q=>by omega)
   ·exact (HK3.out y q).imp (fun q=>hlog y q) (fun q=>by have:=HUA.out.size;omega)
end
end Go.Proofs.YthgnlfikneipiaaGreat
namespace Go.Proofs.YthgnlfikneipiaaGreat
open Go.RowKit
section
variable {w0 w w' : World} {gd : Nat} {G : List Nat} {s : DS}
set_option maxRecDepth 20000 in
set_option maxHeartbeats 1000000 in
theorem dNew_any (w0 w:World) (hu:Upd [] w0 w) :
  Calls Tryz.prog 17 #[] w fun e w'=>∃ gd G,e = .returned (.pointer (some ⟨gd,0,none⟩))∧DD w0 w' gd G ⟨[],[],[]⟩∧Upd [] w w'∧(∀ x∈G,w.heap.size≤x):=by
 have HU:=Lib.hid hu
 clear hu
 go_enter Tryz.func17,Tryz.ntmps17
 go_wp2_with fail
 (with_reducible refine (txSL_New w0 w HU.out).mono ?_)
 rintro e w1 ⟨g1,F1,rfl,h1,hu1,hf1⟩
 have H1:=Lib.hid h1
 have HU1:=Lib.hid (HU.out.seq hu1)
 have HW1:=Lib.hid hu1
 have HF1:=Lib.hid hf1
 clear h1 hu1 hf1
 go_wp2_with fail
 (with_reducible refine (txSL_New w0 w1 HU1.out).mono ?_)
 rintro e w2 ⟨g2,F2,rfl,h2,hu2,hf2⟩
 have H2:=Lib.hid h2
 have HU2:=Lib.hid hu2
 have HF2:=Lib.hid hf2
 clear h2 hu2 hf2
 go_wp2_with fail
 go_ret
 have hua:Upd [] w2 (w2.alloc (.cells #[.pointer (some ⟨g1,0,none⟩),.pointer (some ⟨g2,0,none⟩),.slice none 0 0] 112)):=(Upd.refl [] w2).alloc _
 have hs1:=HW1.out.size
 have hs2:=HU2.out.size
 refine ⟨_,_,rfl,⟨g1,g2,F1,F2,[],fun _=>([],0),[],[],.slice none 0 0,[],⟨Blk.new w2 _ [.pointer (some ⟨g1,0,none⟩),.pointer (some ⟨g2,0,none⟩),.slice none 0 0],?_,⟨(H1.out.upd0 HU2.out).upd0 hua,by simp,by simp,by simp⟩,⟨H2.out.upd0 hua,by simp,by simp,by simp⟩,fun c hc=>by simp at hc,?_,⟨by simp⟩,OwnN.nil _ _ _,by simp⟩,rfl,DOk.zero,rfl⟩,(HW1.out.seq HU2.out).seq hua,fun x hx=>?_⟩
 ·exact (HU1.out.seq HU2.out).size
 ·exact Ap.symm (Ap.new (n:=w1.heap.size) HF2.out (fun x hx=>(H1.out.ge x hx).2))
 ·rcases (dfoot_mem _ _ _ _ _ _).1 hx with rfl|hx|hx|hx|hx
  ·omega
  ·exact HF1.out x hx
  ·have:=HF2.out x hx;omega
  ·simp at hx
  ·simp [blk] at hx
set_option maxRecDepth 20000 in
set_option maxHeartbeats 1000000 in
theorem dkRead_any (nm:ByteArray) (h:DD w0 w gd G s) (hl:s.now.length≤100000) :
  Calls Tryz.prog 86 #[.pointer (some ⟨gd,0,none⟩),sv nm] w fun e w'=>∃ v,e = .returned (.tuple #[v,.bool (dGet s.now nm).2])∧Own bv w.heap.size 5 w' v (dGet s.now nm).1∧Upd [] w w':=by
 have hlen:=get_le_total s.now nm
 have htot:=h.ok.tot
 obtain ⟨gn,gm,Fn,Fm,B,K,cn,cm,lv,lg,hc,rfl,ho,rfl⟩:=h.ex
 have c0:w.cell? ⟨gd,0,none⟩=some (.pointer (some ⟨gn,0,none⟩)):=hc.dk.cell 0
 have hl2:(rowsF cn).length≤100000:=by rw [rowsF_len];rwa [df_len] at hl
 have HL:=Lib.hid hl2
 obtain ⟨⟨oa,on,ok⟩,old,b,hget,hdg,hin,hsh,hgr,hoth⟩:=hc.now.found nm
 dsimp only at hlen htot
 rw [hdg] at hlen ⊢
 dsimp only at hlen ⊢
 have HG:=Lib.hid hget
 have HT:=Lib.hid hc.now
 have HR:=Lib.hid (hsh.rd hc.bks)
 have hon:=hsh.n
 dsimp only at hon
 subst hon
 have hlb:old.length≤16777216:=by omega
 clear hc h ho hl hl2 hget hdg hin hsh hgr hoth hlen htot
 go_enter Tryz.func86,Tryz.ntmps86
 go_wp2_with fail
 (with_reducible refine (txSL_Get nm ⟨oa,old.length,ok⟩ b HT.out.tab HL.out trivial HG.out).mono ?_)
 rintro e w1 ⟨rfl,hu1⟩
 have HU1:=Lib.hid hu1
 have HRUN:=Lib.hid (fun ty=>run_app (P:=Tryz.prog) (w:=w1) (ty:=ty) bv_one Tryz.underlying33 infoB8 rfl (.slice none 0 0) (.slice oa old.length ok) [] old (World.ownsRow_nil w1 w.heap.size _ 1) (HR.out.upd0 hu1) (by simp;omega) (by simp [maxLen];omega) hu1.size)
 clear hu1
 go_wp2_with (at_builtin;go_must (refine wpList_app_of rfl _ _ rfl (.slice none 0 0) (.slice oa old.length ok) rfl rfl (HRUN.out _) ?_;rintro v2 w2 ⟨ho2,hu2,hk2⟩;have HO2:=Lib.hid ho2;have HU2:=Lib.hid hu2;obtain ⟨a2,k2,rfl,-⟩:=ho2.rd;clear ho2 hu2 hk2 HRUN;dsimp only))
 go_ret2
 exact ⟨_,rfl,HO2.out,HU1.out.seq (HU2.out.mono (by simp [blk]))⟩
end
end Go.Proofs.YthgnlfikneipiaaGreat
namespace Go.Proofs.YthgnlfikneipiaaGreat
open Go.RowKit
theorem snoc_set {ν:Type} [Inhabited ν] {l:List (ByteArray×ν)} (h:Rising strLt l) (k:Nat) (hk:k < l.length):tSet strLt (l.take k) (nth l k).1 (nth l k).2=l.take (k+1):=by
 have hlt:(l.take k).length=k:=by rw [List.length_take];omega
 have hb:below strLt (l.take k) (nth l k).1=k:=below_eq _ _ _ (by rw [hlt];exact Nat.le_refl _) (fun j hj=>by rw [nth_take _ _ _ hj];exact h j k hj hk) (fun q=>absurd q (by rw [hlt];omega))
 have hi:isIn strLt (l.take k) (nth l k).1=false:=by unfold isIn;rw [hb,hlt];simp
 unfold tSet
 rw [hi,hb,if_neg (by simp),Nat.add_zero,take_succ_nth l k hk,List.take_of_length_le (by omega),List.drop_of_length_le (by omega)]
section
variable {w0 w w' : World} {gd : Nat} {G : List Nat} {s : DS}
set_option maxRecDepth 20000 in
set_option maxHeartbeats 2000000 in
theorem dTotal_any (h:DD w0 w gd G s) (hl:s.now.length≤100000) :
  Calls Tryz.prog 190 #[.pointer (some ⟨gd,0,none⟩)] w fun e w'=>e = .returned (.int .i64 (dTotal s.now:Int))∧Upd [] w w':=by
 have htot:=h.ok.tot
 obtain ⟨gn,gm,Fn,Fm,B,K,cn,cm,lv,lg,hc,rfl,ho,rfl⟩:=h.ex
 have c0:w.cell? ⟨gd,0,none⟩=some (.pointer (some ⟨gn,0,none⟩)):=hc.dk.cell 0
 have HC:=Lib.hid hc
 have hl2:(rowsF cn).length≤100000:=by rw [rowsF_len];rwa [df_len] at hl
 have HL:=Lib.hid hl2
 have hlc:cn.length≤100000:=by rwa [df_len] at hl
 dsimp only at htot ⊢
 have HT:=Lib.hid htot
 have C0:=Lib.hid c0
 clear hc h ho hl hl2 htot
 go_enter Tryz.func190,Tryz.ntmps190
 go_wp2_with fail
 (with_reducible refine (txSL_Len (cn.length:Int) HC.out.now.tab (by rw [rowsF_len])).mono ?_)
 rintro e w1 ⟨rfl,rfl⟩
 go_wp2_with fail
 go_loopw [3,13] (fun v i wr=>∃ k:Nat,k≤cn.length∧i = .int .i64 k∧v = .int .i64 (dTotal ((dfOf cn).take k):Int)∧Hid (Upd [] w wr)) (fun _ i _=>cn.length-(intOf i).toNat)
 case atStart=>exact ⟨0,Nat.zero_le _,rfl,rfl,Upd.refl _ _⟩
 case round =>
  obtain ⟨k,hk,rfl,rfl,hu⟩:=hrel
  clear c0
  have c0:=hu.out.cell C0.out (by simp)
  by_cases hlt:k < cn.length
  ·have hat:tAt (⟨#[]⟩:ByteArray) (⟨none,0,0⟩:Sl) (rowsF cn) (k:Int)=((nth cn k).1,(nth cn k).2.1,true):=by
    rw [tAt_at _ _ (rowsF cn) k (by rw [rowsF_len];exact hlt),tMap_nth id (fun x:Sl×List UInt8=>x.1) cn k hlt];rfl
   have hst:dTotal ((dfOf cn).take (k+1))=dTotal ((dfOf cn).take k)+(nth cn k).2.2.length:=by
    rw [total_take (dfOf cn) k (by rw [df_len];exact hlt),tMap_nth id (fun x:Sl×List UInt8=>x.2) cn k hlt]
   have hle:=total_le (dfOf cn) (k+1)
   have hle2:=HT.out
   have hsh:=(HC.out.now.sh _ (nth_mem k hlt)).n
   have HAT:=Lib.hid hat
   have HST:=Lib.hid hst
   rw [hst] at hle
   clear hat hst
   generalize nth cn k=c at *
   obtain ⟨key,⟨a,n,cp⟩,bs⟩:=c
   dsimp only at hsh hle
   subst hsh
   generalize dTotal ((dfOf cn).take k)=T at *
   have hT:T+bs.length≤16777216:=by omega
   have HI:Hid (I64 (k:Int)):=⟨by omega,by omega⟩
   clear hle hle2
   go_wp2_with fail
   (with_reducible refine (txSL_At (k:Int) key ⟨a,bs.length,cp⟩ true HI.out (HC.out.now.tab.upd0 hu.out) HL.out HAT.out).mono ?_)
   rintro e w2 ⟨rfl,hu2⟩
   have HU2:=Lib.hid (hu.out.seq hu2)
   clear hu2 hu
   go_wp2_with fail
   go_roundw
   case rel=>exact ⟨k+1,by omega,by go_num,by rw [HST.out];go_num,HU2⟩
   case measure=>simp [intOf];omega
  ·obtain rfl:k=cn.length:=by omega
   have he:(dfOf cn).take cn.length=dfOf cn:=List.take_of_length_le (by rw [df_len];exact Nat.le_refl _)
   obtain ⟨T,hT⟩:∃ T,dTotal (dfOf cn)=T:=⟨_,rfl⟩
   have HTT:=Lib.hid hT
   rw [he,hT]
   clear hT
   go_wp2_with fail
   go_ret
   exact ⟨by rw [HTT.out];rfl,hu.out⟩
end
section
variable {w0 w w' : World} {g : Nat} {F B : List Nat} {K : KB} {cs : CF}
set_option maxRecDepth 20000 in
set_option maxHeartbeats 2000000 in
theorem copied_any (ht:TD w0 w g F B K cs) (hB:Bks w0.heap.size w B K) (hlen:cs.length≤100000) :
  Calls Tryz.prog 35 #[.pointer (some ⟨g,0,none⟩)] w fun e w'=>∃ g' F' cs',e = .returned (.pointer (some ⟨g',0,none⟩))∧TD w0 w' g' F' B K cs'∧Full cs'∧dfOf cs'=dfOf cs∧Upd [] w w'∧(∀ x∈F',w.heap.size≤x):=by
 have HT:=Lib.hid ht
 have HB:=Lib.hid hB
 have HR:=Lib.hid ht.risD
 have hrl:(rowsF cs).length≤100000:=by rw [rowsF_len];exact hlen
 have HRL:=Lib.hid hrl
 clear ht hB hrl
 go_enter Tryz.func35,Tryz.ntmps35
 go_wp2_with fail
 (with_reducible refine (txSL_New w0 w HT.out.tab.old).mono ?_)
 rintro e w1 ⟨g1,F1,rfl,h1,hu1,hf1⟩
 have H1:Hid (TD w0 w1 g1 F1 B K []):=⟨h1,by simp,by simp,by simp⟩
 have HU1:=Lib.hid hu1
 have HF1:=Lib.hid hf1
 clear h1 hu1 hf1
 go_wp2_with fail
 (with_reducible refine (txSL_Len (cs.length:Int) (HT.out.tab.upd0 HU1.out) (by rw [rowsF_len])).mono ?_)
 rintro e w2 ⟨rfl,rfl⟩
 go_wp2_with fail
 go_loopw [11] (fun i wr=>∃ (k:Nat) (Fo:List Nat) (co:CF),k≤cs.length∧i = .int .i64 k∧Hid (TD w0 wr g1 Fo B K co)∧Hid (Full co)∧Hid (dfOf co=(dfOf cs).take k)∧Hid (Upd [] w wr)∧Hid (∀ x∈Fo,w.heap.size≤x)) (fun i _=>cs.length-(intOf i).toNat)
 case atStart=>exact ⟨0,F1,[],Nat.zero_le _,rfl,H1,fun c hc=>by simp at hc,rfl,HU1,HF1⟩
 case round =>
  obtain ⟨k,Fo,co,hk,rfl,ho,hfu,hdf,hu,hfr⟩:=hrel
  clear H1 HU1 HF1
  by_cases hlt:k < cs.length
  ·have hat:tAt (⟨#[]⟩:ByteArray) (⟨none,0,0⟩:Sl) (rowsF cs) (k:Int)=((nth cs k).1,(nth cs k).2.1,true):=by
    rw [tAt_at _ _ (rowsF cs) k (by rw [rowsF_len];exact hlt),tMap_nth id (fun x:Sl×List UInt8=>x.1) cs k hlt];rfl
   have hst:tSet strLt ((dfOf cs).take k) (nth cs k).1 (nth cs k).2.2=(dfOf cs).take (k+1):=by
    rw [← snoc_set HR.out k (by rw [df_len];exact hlt),tMap_nth id (fun x:Sl×List UInt8=>x.2) cs k hlt];rfl
   have hsh:=HT.out.sh _ (nth_mem k hlt)
   have hol:co.length=k:=by
    have:=congrArg List.length hdf.out
    rw [df_len,List.length_take,df_len] at this;omega
   have HAT:=Lib.hid hat
   have HST:=Lib.hid hst
   clear hat hst
   generalize nth cs k=c at *
   obtain ⟨key,⟨a,n,cp⟩,bs⟩:=c
   have hn:=hsh.n
   have hcp:=hsh.k
   dsimp only at hn hcp
   subst hn
   have HSC:=Lib.hid (hsh.cut bs.length (Nat.le_refl _))
   have HI:Hid (I64 (k:Int)):=⟨by omega,by omega⟩
   have HOL:Hid (co.length≤100000):=by unfold Hid;omega
   have hcut:=fun W=>run_cut_hm (P:=Tryz.prog) (size:=1) Tryz.underlying33 (by kernel_rfl) a bs.length cp bs.length hcp W
   clear hsh hol
   go_wp2_with fail
   (with_reducible refine (txSL_At (k:Int) key ⟨a,bs.length,cp⟩ true HI.out (HT.out.tab.upd0 hu.out) HRL.out HAT.out).mono ?_)
   rintro e w2 ⟨rfl,hu2⟩
   have HU2:=Lib.hid hu2
   clear hu2
   go_wp2_with fail
   (with_reducible refine (td_set key ⟨a,bs.length,bs.length⟩ (bs.take bs.length) (ho.out.tab.upd0 HU2.out) (HB.out.upd (hu.out.seq HU2.out) (by simp)) HOL.out (fun d hd hne=>⟨ho.out.sh d hd,ho.out.gr d hd,ap_full (Nat.le_refl _)⟩) ho.out.ap HSC.out (Gr.full (Nat.le_refl _))).mono ?_)
   rintro e w3 ⟨⟨r,rfl⟩,F3,h3,hb3,hu3,hf3⟩
   have hw:=hu.out.size
   have hw2:=HU2.out.size
   have H3:=Lib.hid h3
   have HU3:Hid (Upd [] w w3):=(hu.out.seq HU2.out).trans hu3 (by simp) (fun x hx => .inr (hfr.out x hx))
   have HF3:Hid (∀ x∈F3,w.heap.size≤x):=fun x hx=>by
    rcases hf3 x hx with q|q
    ·exact hfr.out x q
    ·omega
   have HD3:Hid (dfOf (tSet strLt co key (⟨a,bs.length,bs.length⟩,bs.take bs.length))=(dfOf cs).take (k+1)):=by unfold Hid;rw [df_set,hdf.out,List.take_length];exact HST.out
   have HFU3:Hid (Full (tSet strLt co key (⟨a,bs.length,bs.length⟩,bs.take bs.length))):=fun c hc=>by
    rcases tSet_memS ho.out.ris key _ c hc with rfl|⟨q,-⟩
    ·exact Nat.le_refl _
    ·exact hfu.out c q
   clear h3 hb3 hu3 hf3 hw hw2 hcut
   go_wp2_with fail
   go_roundw
   case rel=>exact ⟨k+1,F3,_,by omega,by go_num,H3,HFU3,HD3,HU3,HF3⟩
   case measure=>simp [intOf];omega
  ·obtain rfl:k=cs.length:=by omega
   have he:(dfOf cs).take cs.length=dfOf cs:=List.take_of_length_le (by rw [df_len];exact Nat.le_refl _)
   rw [he] at hdf
   go_wp2_with fail
   go_ret
   exact ⟨g1,Fo,co,rfl,ho.out,hfu.out,hdf.out,hu.out,hfr.out⟩
end
end Go.Proofs.YthgnlfikneipiaaGreat
namespace Go.Proofs.YthgnlfikneipiaaGreat
open Go.RowKit
section
variable {w0 w w' : World} {gd gn gm : Nat} {F B : List Nat} {K : KB} {cs : CF}
set_option maxRecDepth 20000 in
set_option maxHeartbeats 2000000 in
theorem mark_any (p1:Option Addr) (s2:Sl) (hd:Blk w gd 112 [.pointer (some ⟨gn,0,none⟩),.pointer p1,slv s2]) (hgd:w0.heap.size≤gd) (ht:TD w0 w gn F B K cs) (hB:Bks w0.heap.size w B K) (hlen:cs.length≤100000) :
  Calls Tryz.prog 20 #[.pointer (some ⟨gd,0,none⟩)] w fun e w'=>e = .returned (.tuple #[])∧∃ gm' Fm' cm',DC w0 w' gd gn gm' F Fm' B K cs cm' (.slice none 0 0) []∧dfOf cm'=dfOf cs∧Upd [gd] w w'∧(∀ x∈Fm',w.heap.size≤x):=by
 obtain ⟨la,ln,lk⟩:=s2
 have c0:w.cell? ⟨gd,0,none⟩=some (.pointer (some ⟨gn,0,none⟩)):=hd.cell 0
 have HD:=Lib.hid hd
 have HT:=Lib.hid ht
 have HB:=Lib.hid hB
 clear hd ht hB
 go_enter Tryz.func20,Tryz.ntmps20
 go_wp2_with fail
 (with_reducible refine (copied_any HT.out HB.out hlen).mono ?_)
 rintro e w1 ⟨g1,F1,cm,rfl,h1,hf1,hdf1,hu1,hfr1⟩
 have hd1:=HD.out.upd hu1 (by simp)
 have c1:w1.cell? ⟨gd,1,none⟩=some (.pointer p1):=hd1.cell 1
 have c2:w1.cell? ⟨gd,2,none⟩=some (.slice la ln lk):=hd1.cell 2
 have f1:=hd1.frozen 1
 have f2:=hd1.frozen 2
 have HD1:=Lib.hid hd1
 have H1:=Lib.hid h1
 have HF1:=Lib.hid hf1
 have HDF1:=Lib.hid hdf1
 have HU1:=Lib.hid hu1
 have HFR1:=Lib.hid hfr1
 clear hd1 h1 hf1 hdf1 hu1 hfr1 c0
 go_wp2_with fail
 go_end0
 have hset:Upd [gd] w1 ((w1.setCell ⟨gd,1,none⟩ (.pointer (some ⟨g1,0,none⟩))).setCell ⟨gd,2,none⟩ (.slice none 0 0)):=((Upd.refl [gd] w1).setCell _ _ (.inl (by simp))).setCell _ _ (.inl (by simp))
 have hblk:=(HD1.out.set_ 1 (.pointer (some ⟨g1,0,none⟩))).set_ 2 (.slice none 0 0)
 have hS:∀ x∈[gd],w0.heap.size≤x:=fun x hx=>by simp at hx;omega
 have hT1:=HT.out.upd0 HU1.out
 have hB1:=HB.out.upd HU1.out (by simp)
 refine ⟨rfl,g1,F1,cm,⟨hblk,hgd,hT1.upd hset (fun x hx hy=>?_) hS,H1.out.upd hset (fun x hx hy=>?_) hS,HF1.out,?_,hB1.upd hset (fun x hx hy=>?_),OwnN.nil _ _ _,by simp⟩,HDF1.out,HU1.out.trans hset (by simp) (fun x hx => .inl hx),HFR1.out⟩
 ·simp at hy;subst hy;exact dk_F HD1.out hT1.tab hx
 ·simp at hy;subst hy;exact dk_F HD1.out H1.out.tab hx
 ·exact Ap.symm (Ap.new (n:=w.heap.size) HFR1.out (fun x hx=>(HT.out.tab.ge x hx).2))
 ·simp at hy;subst hy;exact dk_B HD1.out hB1 hx
end
section
variable {w0 w w' : World} {gd : Nat} {G : List Nat} {s : DS}
theorem dMark_any (h:DD w0 w gd G s) (hl:s.now.length≤100000) :
  Calls Tryz.prog 20 #[.pointer (some ⟨gd,0,none⟩)] w fun e w'=>e = .returned (.tuple #[])∧DOut w0 w gd G (dMark s) w':=by
 obtain ⟨gn,gm,Fn,Fm,B,K,cn,cm,lv,lg,hc,rfl,ho,rfl⟩:=h.ex
 obtain ⟨ao,co,rfl,-⟩:=hc.log.rd lwCells_len
 refine (mark_any _ ⟨ao,lg.length,co⟩ hc.dk hc.gdb hc.now hc.bks (by rwa [df_len] at hl)).mono ?_
 rintro e w' ⟨rfl,gm',Fm',cm',h',hd',hu,hfr⟩
 refine ⟨rfl,_,⟨gn,gm',Fn,Fm',B,K,cn,cm',_,[],h',by rw [hd'];rfl,ho.mark,rfl⟩,hu.mono (fun x hx => .inl (by simp at hx;subst hx;exact (dfoot_mem _ _ _ _ _ _).2 (.inl rfl))),fun x hx=>?_⟩
 rcases (dfoot_mem _ _ _ _ _ _).1 hx with rfl|hx|hx|hx|hx
 ·exact .inl ((dfoot_mem _ _ _ _ _ _).2 (.inl rfl))
 ·exact .inl ((dfoot_mem _ _ _ _ _ _).2 (.inr (.inl hx)))
 ·exact .inr (hfr x hx)
 ·exact .inl ((dfoot_mem _ _ _ _ _ _).2 (.inr (.inr (.inr (.inl hx)))))
 ·simp [blk] at hx
end
end Go.Proofs.YthgnlfikneipiaaGreat
namespace Go.Proofs.YthgnlfikneipiaaGreat
open Go.RowKit
section
variable {w0 w w' : World} {gd : Nat} {G : List Nat} {s : DS}
def DDoes (w0 w:World) (gd:Nat) (G:List Nat) (r:Int×DS) (e:Ending) (w':World):Prop:=e = .returned (.int .i64 r.1)∧DOut w0 w gd G r.2 w'
theorem DOut.later {w1:World} (hu:Upd [] w w1) (h:DOut w0 w1 gd G s w'):DOut w0 w gd G s w':=by
 obtain ⟨G',h1,h2,h3⟩:=h
 exact ⟨G',h1,hu.trans h2 (by simp) (fun x hx => .inl hx),fun x hx=>(h3 x hx).imp id (fun q=>by have:=hu.size;omega)⟩
theorem dDo_any (x:Wr) (h:DD w0 w gd G s) (hx:WrOk x s.now) (hp:x.p=[]) (hl:s.log.length≤1000000000) :
  Calls Tryz.prog 148 #[.pointer (some ⟨gd,0,none⟩),wrv x ⟨none,0,0⟩] w fun e w'=>e = .returned (.tuple #[])∧DOut w0 w gd G (dDo x s) w':=by
 obtain ⟨gn,gm,Fn,Fm,B,K,cn,cm,lv,lg,hc,rfl,ho,rfl⟩:=h.ex
 refine (do_any x ⟨none,0,0⟩ hc hx (by rw [hp];exact Sh.nil) (by simpa using hl)).mono ?_
 rintro e w' ⟨rfl,Fn',B',K',cn',lv',h1,h2,h3,h4,h5⟩
 exact ⟨rfl,_,⟨gn,gm,Fn',Fm,B',K',cn',cm,lv',_,h1,by unfold dDo;rw [h3];simp,ho.do_ hx,rfl⟩,h4,h5⟩
theorem DD.p0 (h:DD w0 w gd G s):∃ gn Fn B K cn,w.cell? ⟨gd,0,none⟩=some (.pointer (some ⟨gn,0,none⟩))∧TD w0 w gn Fn B K cn∧dfOf cn=s.now:=by
 obtain ⟨gn,gm,Fn,Fm,B,K,cn,cm,lv,lg,hc,rfl,ho,rfl⟩:=h.ex
 exact ⟨gn,Fn,B,K,cn,hc.dk.cell 0,hc.now,rfl⟩
theorem DD.look (h:DD w0 w gd G s) (nm:ByteArray) (hl:s.now.length≤5000):∃ gn oa on ok,w.cell? ⟨gd,0,none⟩=some (.pointer (some ⟨gn,0,none⟩))∧on=(dGet s.now nm).1.length ∧
  ∀ W,Upd [] w W→Calls Tryz.prog 56 #[.pointer (some ⟨gn,0,none⟩),sv nm] W fun e w'=>e = .returned (.tuple #[.slice oa on ok,.bool (inD s.now nm)])∧Upd [] W w':=by
 obtain ⟨gn,Fn,B,K,cn,h0,ht,he⟩:=h.p0
 obtain ⟨⟨oa,on,ok⟩,old,b,hget,hdg,hin,hsh,hgr,hoth⟩:=ht.found nm
 rw [he] at hdg hin
 refine ⟨gn,oa,on,ok,h0,by rw [hdg];exact hsh.n,fun W hW=>?_⟩
 rw [hin]
 exact txSL_Get nm ⟨oa,on,ok⟩ b (ht.tab.upd0 hW) (by rw [rowsF_len];rw [← he,df_len] at hl;omega) trivial hget
set_option maxRecDepth 20000 in
set_option maxHeartbeats 1000000 in
theorem dRename_any (nm tn:ByteArray) (h:DD w0 w gd G s) (hn:s.now.length≤5000) (hl:s.log.length≤1000000000) :
  Calls Tryz.prog 194 #[.pointer (some ⟨gd,0,none⟩),sv nm,sv tn] w (DDoes w0 w gd G (dRename s nm tn)):=by
 obtain ⟨gn,oa,on,ok,c0,-,hget⟩:=h.look nm hn
 have HG:=Lib.hid (hget w (Upd.refl _ _))
 have HD:=Lib.hid h
 have HL:=Lib.hid hl
 have HNL:=Lib.hid hn
 clear hget h hl hn
 cases hok:nameOk tn with
 | false =>
  have HR:Hid (dRename s nm tn=(14,s)):=by unfold Hid dRename;rw [hok];rfl
  have HOK:=Lib.hid hok
  clear hok
  go_enter Tryz.func194,Tryz.ntmps194
  go_wp2_with fail
  (with_reducible refine (dnamed_any w tn).mono ?_)
  rw [HOK.out]
  rintro e w1 ⟨rfl,rfl⟩
  go_wp2_with fail
  go_ret
  exact ⟨by rw [HR.out];rfl,by rw [HR.out];exact HD.out.out0 (Upd.refl _ _)⟩
 | true =>
  have HOK:=Lib.hid hok
  cases hin:inD s.now nm with
  | false =>
   have HR:Hid (dRename s nm tn=(7,s)):=by unfold Hid dRename;rw [hok,hin];rfl
   rw [hin] at HG
   clear hok hin
   go_enter Tryz.func194,Tryz.ntmps194
   go_wp2_with fail
   (with_reducible refine (dnamed_any w tn).mono ?_)
   rw [HOK.out]
   rintro e w1 ⟨rfl,rfl⟩
   go_wp2_with fail
   (with_reducible refine HG.out.mono ?_)
   rintro e w2 ⟨rfl,hu2⟩
   have HU2:=Lib.hid hu2
   clear hu2
   go_wp2_with fail
   go_ret
   exact ⟨by rw [HR.out];rfl,by rw [HR.out];exact HD.out.out0 HU2.out⟩
  | true =>
   have HR:Hid (dRename s nm tn=(0,dDo (wRen nm tn) s)):=by unfold Hid dRename;rw [hok,hin];rfl
   have HW:=Lib.hid (HD.out.ok.ren nm tn hin HNL.out).1
   rw [hin] at HG
   clear hok hin
   go_enter Tryz.func194,Tryz.ntmps194
   go_wp2_with fail
   (with_reducible refine (dnamed_any w tn).mono ?_)
   rw [HOK.out]
   rintro e w1 ⟨rfl,rfl⟩
   go_wp2_with fail
   (with_reducible refine HG.out.mono ?_)
   rintro e w2 ⟨rfl,hu2⟩
   have HU2:=Lib.hid hu2
   clear hu2
   go_wp2_with fail
   (with_reducible refine (dDo_any (wRen nm tn) (HD.out.upd0 HU2.out) HW.out rfl HL.out).mono ?_)
   rintro e w3 ⟨rfl,ho⟩
   have HO:=Lib.hid ho
   clear ho
   go_wp2_with fail
   go_ret
   exact ⟨by rw [HR.out];rfl,by rw [HR.out];exact HO.out.later HU2.out⟩
set_option maxRecDepth 20000 in
set_option maxHeartbeats 1000000 in
theorem dRemove_any (nm:ByteArray) (h:DD w0 w gd G s) (hn:s.now.length≤5000) (hl:s.log.length≤1000000000) :
  Calls Tryz.prog 92 #[.pointer (some ⟨gd,0,none⟩),sv nm] w (DDoes w0 w gd G (dRemove s nm)):=by
 obtain ⟨gn,oa,on,ok,c0,-,hget⟩:=h.look nm hn
 have HG:=Lib.hid (hget w (Upd.refl _ _))
 have HD:=Lib.hid h
 have HL:=Lib.hid hl
 have HNL:=Lib.hid hn
 clear hget h hl hn
 cases hin:inD s.now nm with
 | false =>
  have HR:Hid (dRemove s nm=(7,s)):=by unfold Hid dRemove;rw [hin];rfl
  rw [hin] at HG
  clear hin
  go_enter Tryz.func92,Tryz.ntmps92
  go_wp2_with fail
  (with_reducible refine HG.out.mono ?_)
  rintro e w2 ⟨rfl,hu2⟩
  have HU2:=Lib.hid hu2
  clear hu2
  go_wp2_with fail
  go_ret
  exact ⟨by rw [HR.out];rfl,by rw [HR.out];exact HD.out.out0 HU2.out⟩
 | true =>
  have HR:Hid (dRemove s nm=(0,dDo (wRem nm) s)):=by unfold Hid dRemove;rw [hin];rfl
  have HW:=Lib.hid (HD.out.ok.rem nm hin HNL.out).1
  rw [hin] at HG
  clear hin
  go_enter Tryz.func92,Tryz.ntmps92
  go_wp2_with fail
  (with_reducible refine HG.out.mono ?_)
  rintro e w2 ⟨rfl,hu2⟩
  have HU2:=Lib.hid hu2
  clear hu2
  go_wp2_with fail
  (with_reducible refine (dDo_any (wRem nm) (HD.out.upd0 HU2.out) HW.out rfl HL.out).mono ?_)
  rintro e w3 ⟨rfl,ho⟩
  have HO:=Lib.hid ho
  clear ho
  go_wp2_with fail
  go_ret
  exact ⟨by rw [HR.out];rfl,by rw [HR.out];exact HO.out.later HU2.out⟩
end
end Go.Proofs.YthgnlfikneipiaaGreat
namespace Go.Proofs.YthgnlfikneipiaaGreat
open Go.RowKit
structure JC (w0 w:World) (gd gj gt:Nat) (F0:List Nat) (t:JS):Prop where
 top:Blk w gj 226 [.pointer (some ⟨gd,0,none⟩),.pointer (some ⟨gt,0,none⟩)]
 tab:TXIS w0 w gt F0 t
 gjb:w0.heap.size≤gj
 nin:gj∉F0
 jt:JT t
section
variable {w0 w w' : World} {gd gj gt : Nat} {F0 F0' F G : List Nat} {t t' : JS} {s s' : DS}
theorem JC.upd (h:JC w0 w gd gj gt F0 t) {S:List Nat} (hu:Upd S w w') (hs:∀ x∈gj::F0,x∉S) (hS:∀ x∈S,w0.heap.size≤x):JC w0 w' gd gj gt F0 t :=
 ⟨h.top.upd hu (hs gj (by simp)),h.tab.upd hu (fun x hx=>hs x (by simp [hx])) hS,h.gjb,h.nin,h.jt⟩
theorem JC.upd0 (h:JC w0 w gd gj gt F0 t) (hu:Upd [] w w'):JC w0 w' gd gj gt F0 t:=h.upd hu (by simp) (by simp)
theorem JC.ge (h:JC w0 w gd gj gt F0 t):∀ x∈gj::F0,w0.heap.size≤x∧x < w.heap.size:=by
 intro x hx
 rcases List.mem_cons.1 hx with rfl|hx
 ·exact ⟨h.gjb,h.top.lt⟩
 ·exact h.tab.ge x hx
theorem JC.step (h:JC w0 w gd gj gt F0 t) (h1:TXIS w0 w' gt F0' t') (hu:Upd F0 w w') (hf:∀ x∈F0',x∈F0∨w.heap.size≤x) (hj:JT t'):JC w0 w' gd gj gt F0' t' :=
 ⟨h.top.upd hu h.nin,h1,h.gjb,fun hx=>by
  rcases hf gj hx with q|q
  ·exact h.nin q
  ·have:=h.top.lt;omega,hj⟩
structure JD (w0 w:World) (gd gj:Nat) (F G:List Nat) (t:JS) (s:DS):Prop where
 jc:∃ gt F0,JC w0 w gd gj gt F0 t∧F=gj::F0
 dd:DD w0 w gd G s
 ap:Ap F G
def JOut (w0 w:World) (gd gj:Nat) (S:List Nat) (t:JS) (s:DS) (w':World):Prop:=∃ F' G',JD w0 w' gd gj F' G' t s∧Upd S w w'∧(∀ x∈F',x∈S∨w.heap.size≤x)∧(∀ x∈G',x∈S∨w.heap.size≤x)
theorem JD.geF (h:JD w0 w gd gj F G t s):∀ x∈F,w0.heap.size≤x∧x < w.heap.size:=by
 obtain ⟨gt,F0,hc,rfl⟩:=h.jc
 exact hc.ge
theorem JD.jt (h:JD w0 w gd gj F G t s):JT t:=by
 obtain ⟨gt,F0,hc,rfl⟩:=h.jc
 exact hc.jt
theorem JD.upd (h:JD w0 w gd gj F G t s) {S:List Nat} (hu:Upd S w w') (h1:∀ x∈F,x∉S) (h2:∀ x∈G,x∉S) (hS:∀ x∈S,w0.heap.size≤x):JD w0 w' gd gj F G t s:=by
 obtain ⟨gt,F0,hc,rfl⟩:=h.jc
 exact ⟨⟨gt,F0,hc.upd hu h1 hS,rfl⟩,h.dd.upd hu h2 hS,h.ap⟩
theorem JD.upd0 (h:JD w0 w gd gj F G t s) (hu:Upd [] w w'):JD w0 w' gd gj F G t s:=h.upd hu (by simp) (by simp) (by simp)
theorem JD.out0 (h:JD w0 w gd gj F G t s) (hu:Upd [] w w'):JOut w0 w gd gj (F++G) t s w' :=
 ⟨F,G,h.upd0 hu,hu.mono (by simp),fun x hx => .inl (List.mem_append.2 (.inl hx)),fun x hx => .inl (List.mem_append.2 (.inr hx))⟩
theorem JD.disk (h:JD w0 w gd gj F G t s) (hd:DOut w0 w gd G s' w'):JOut w0 w gd gj (F++G) t s' w':=by
 obtain ⟨G',k1,k2,k3⟩:=hd
 obtain ⟨gt,F0,hc,rfl⟩:=h.jc
 refine ⟨gj::F0,G',⟨⟨gt,F0,hc.upd k2 h.ap (fun x hx=>(h.dd.ge x hx).1),rfl⟩,k1,fun x hx hg=>?_⟩,k2.mono (fun x hx => .inl (List.mem_append.2 (.inr hx))),fun x hx => .inl (List.mem_append.2 (.inl hx)),fun x hx=>(k3 x hx).imp (fun q=>List.mem_append.2 (.inr q)) id⟩
 rcases k3 x hg with q|q
 ·exact h.ap x hx q
 ·have:=(hc.ge x hx).2;omega
theorem JOut.later {w1:World} {S:List Nat} (hu:Upd [] w w1) (h:JOut w0 w1 gd gj S t s w'):JOut w0 w gd gj S t s w':=by
 obtain ⟨F',G',h1,h2,h3,h4⟩:=h
 have:=hu.size
 exact ⟨F',G',h1,hu.trans h2 (by simp) (fun x hx => .inl hx),fun x hx=>(h3 x hx).imp id (fun q=>by omega),fun x hx=>(h4 x hx).imp id (fun q=>by omega)⟩
theorem jHold1_del {c:Ch} (h:c.2=s0) (t:JS):jHold1 t c=tDel ltI t c.1:=by unfold jHold1;rw [if_pos h]
theorem jHold1_set {c:Ch} (h:c.2≠s0) (t:JS):jHold1 t c=tSet ltI t c.1 c.2:=by unfold jHold1;rw [if_neg h]
set_option maxRecDepth 20000 in
set_option maxHeartbeats 4000000 in
theorem hold_any (u:Value) (l:List Ch) (h:JD w0 w gd gj F G t s) (hl:RdN 2 chCells w u l) (hap:∀ x∈blk u,x∉F) (hI:∀ c∈l,ChOk c) :
  Calls Tryz.prog 95 #[.pointer (some ⟨gj,0,none⟩),u] w fun e w'=>e = .returned (.tuple #[])∧∃ F',JD w0 w' gd gj F' G (jAll t l) s∧Upd F w w'∧(∀ x∈F',x∈F∨w.heap.size≤x):=by
 have HL:=Lib.hid hl
 have HAP:=Lib.hid hap
 have HI:=Lib.hid hI
 have HD:=Lib.hid h
 obtain ⟨a2,cap2,rfl,hlc,hm,-⟩:=hl
 have hm2:l.length≤9223372036854775807:=by unfold maxLen at hm;omega
 clear h hap hI hlc hm
 go_enter Tryz.func95,Tryz.ntmps95
 go_wp2_with fail
 go_loopw [5,8] (fun y i wr=>∃ (k:Nat) (F':List Nat),i = .int .i64 (k:Int)∧k≤l.length∧Hid (JD w0 wr gd gj F' G (jAll t (l.take k)) s)∧Hid (Upd F w wr)∧Hid (∀ x∈F',x∈F∨w.heap.size≤x)) (fun _ i _=>l.length-(intOf i).toNat)
 case atStart=>exact ⟨0,F,rfl,Nat.zero_le _,HD.out,Upd.refl _ _,fun x hx => .inl hx⟩
 case round =>
  obtain ⟨k,F',rfl,hk,hd,hu,hf⟩:=hrel
  by_cases hlt:k < l.length
  ·have hrd:=HL.out.upd chCells_len hu.out HAP.out
   obtain ⟨a9,c9,he9,-,-,hca⟩:=hrd
   injection he9 with e1 e2 e3
   subst e1;subst e3
   obtain ⟨b,off,rfl,hcb⟩:=hca (by intro e;rw [e] at hlt;simp at hlt)
   have hc0:∀ i,i < 2→wr.cell? ⟨b,off+(k*2+i),none⟩=(chCells (nth l k))[i]?:=hcb k hlt
   have hin:=HI.out (nth l k) (by rw [nth_get l k hlt];exact List.getElem_mem hlt)
   have HST:Hid (jAll t (l.take (k+1))=jHold1 (jAll t (l.take k)) (nth l k)):=by
    unfold Hid;rw [List.take_succ_eq_append_getElem hlt,jAll_app,nth_get l k hlt];rfl
   generalize nth l k=x at *
   obtain ⟨ck,cd⟩:=x
   have hin1:=hin.lo
   have hin2:=hin.hi
   dsimp only at hin1 hin2
   have c0:wr.cell? ⟨b,off+k*2,none⟩=some (.int .i64 ck):=hc0 0 (by omega)
   have c1:wr.cell? ⟨b,off+k*2+1,none⟩=some (.string cd):=hc0 1 (by omega)
   obtain ⟨tk,htk⟩:∃ tk,jAll t (l.take k)=tk:=⟨_,rfl⟩
   rw [htk] at HST hd
   have HIN:Hid (I64 ck):=i64_mk (by omega) (by omega)
   have HCK:=Lib.hid hin
   have q0:(0:Int)≤k:=by omega
   have q1:(k:Int) < l.length:=by omega
   obtain ⟨gt,F0,hc,hF⟩:=hd.out.jc
   have hu1:Upd [] wr (wr.alloc (.cells #[.int .i64 ck,.string cd] 190)):=(Upd.refl [] wr).alloc _
   have HJ:=Lib.hid (hc.upd0 hu1)
   have HDD:=Lib.hid (hd.out.dd.upd0 hu1)
   have HAPG:Hid (Ap (gj::F0) G):=by rw [← hF];exact hd.out.ap
   have HFF:Hid (∀ x∈gj::F0,x∈F∨w.heap.size≤x):=by rw [← hF];exact hf.out
   have HU1:Hid (Upd F w (wr.alloc (.cells #[.int .i64 ck,.string cd] 190))):=hu.out.trans hu1 (fun x hx=>hx) (by simp)
   have HBX:Hid (Blk (wr.alloc (.cells #[.int .i64 ck,.string cd] 190)) wr.heap.size 190 [.int .i64 ck,.string cd]):=Blk.new wr _ [.int .i64 ck,.string cd]
   have HLN:Hid (tk.length≤100000):=by have:=hc.jt.len;unfold Hid;omega
   have hd0:=HBX.out.cell 0
   have hd1:=HBX.out.cell 1
   simp only [List.getElem?_cons_zero,List.getElem?_cons_succ] at hd0 hd1
   have HC0:=Lib.hid hd0
   have HC1:=Lib.hid hd1
   have gc1:(wr.alloc (.cells #[.int .i64 ck,.string cd] 190)).cell? ⟨gj,1,none⟩=some (.pointer (some ⟨gt,0,none⟩)):=HJ.out.top.cell 1
   have HGC:=Lib.hid gc1
   have hfin:∀ (t2:JS),jHold1 tk (ck,cd)=t2→JT t2→∀ (W:World),∀ F2,TXIS w0 W gt F2 t2→Upd F0 (wr.alloc (.cells #[.int .i64 ck,.string cd] 190)) W→(∀ x∈F2,x∈F0∨(wr.alloc (.cells #[.int .i64 ck,.string cd] 190)).heap.size≤x)→∃ F',Hid (JD w0 W gd gj F' G (jAll t (l.take (k+1))) s)∧Hid (Upd F w W)∧Hid (∀ x∈F',x∈F∨w.heap.size≤x):=by
    intro t2 ht2 hj2 W F2 h2 hu2 hf2
    have hsz:=HU1.out.size
    have hge:=HJ.out.ge
    have hgd:=HDD.out.ge
    refine ⟨gj::F2,?_,?_,?_⟩
    ·refine ⟨⟨gt,F2,by rw [HST.out,ht2];exact HJ.out.step h2 hu2 hf2 hj2,rfl⟩,HDD.out.upd hu2 (fun x hx q=>HAPG.out x (by simp [q]) hx) (fun x hx=>(hge x (by simp [hx])).1),fun x hx hg=>?_⟩
     rcases List.mem_cons.1 hx with q|q
     ·exact HAPG.out x (by simp [q]) hg
     ·rcases hf2 x q with r|r
      ·exact HAPG.out x (by simp [r]) hg
      ·have:=(hgd x hg).2;omega
    ·exact HU1.out.trans hu2 (fun x hx=>hx) (fun x hx=>HFF.out x (by simp [hx]))
    ·intro x hx
     rcases List.mem_cons.1 hx with q|q
     ·exact HFF.out x (by simp [q])
     ·rcases hf2 x q with r|r
      ·exact HFF.out x (by simp [r])
      ·exact .inr (by omega)
   have HFIN:=Lib.hid hfin
   have HNX:Hid (wr.heap.size∉F0):=fun hx=>by have:=(hc.tab.ge _ hx).2;omega
   have HJT:=Lib.hid hc.jt
   clear hc0 hca hcb hin hin1 hin2 hd hu hf hc hF hu1 htk hfin
   by_cases hcd:cd=s0
   ·have t1:(cd.toList==([]:List UInt8))=true:=by rw [hcd,strList_eq];rfl
    have HE:=Lib.hid (jHold1_del (c:=(ck,cd)) hcd tk)
    have HJ2:Hid (JT (tDel ltI tk ck)):=by have:=HJT.out.hold1 (ck,cd) HCK.out;rwa [HE.out] at this
    clear hcd
    go_wp2_with fail
    generalize wr.alloc (.cells #[.int .i64 ck,.string cd] 190)=w1 at *
    generalize wr.heap.size=gx at *
    have HCD:Hid (∀ W,Upd [] w1 W→Calls Tryz.prog 152 #[.pointer (some ⟨gt,0,none⟩),.int .i64 ck] W fun e w'=>∃ b,e = .returned (.bool b)∧∃ F2,Hid (TXIS w0 w' gt F2 (tDel ltI tk ck))∧Upd F0 w1 w'∧Hid (∀ x∈F2,x∈F0∨w1.heap.size≤x)):=fun W hW=>by
     refine (txIS_Del ck _ _ (HJ.out.tab.upd0 hW) HLN.out HIN.out rfl rfl).mono ?_
     rintro e w' ⟨rfl,F2,h2,hu2,hf2⟩
     exact ⟨_,rfl,F2,h2,hW.trans hu2 (by simp) (fun x hx => .inl hx),fun x hx=>(hf2 x hx).imp id (fun q=>Nat.le_trans hW.size q)⟩
    have HNJ:=Lib.hid HJ.out.nin
    have ru:=Upd.refl [] w1
    go_region_held3 (fun W=>W.cell? ⟨gj,1,none⟩=some (.pointer (some ⟨gt,0,none⟩))∧W.cell? ⟨gx,0,none⟩=some (.int .i64 ck)) (first|go_keep|exact ⟨ru2.cell HGC.out HNJ.out,ru2.cell HC0.out HNX.out⟩)
     (first
      | (go_at_call 152;(with_reducible refine (HCD.out _ (Upd.seq ru ?_)).mono ?_);(repeat (first|exact Upd.refl _ _|apply Upd.drew|apply Upd.drewN|apply Upd.alloc));(rintro _ W2 ⟨b2,rfl,F2,h2,ru2,hf2⟩;dsimp only)))
    all_goals
     obtain ⟨F9,k1,k2,k3⟩:=HFIN.out _ HE.out HJ2.out W2 F2 h2.out ru2 hf2.out
     clear ru ru2 h2 hf2 HCD
     go_wp2_with fail
     go_roundw
     case rel=>exact ⟨k+1,F9,by go_num,by omega,k1,k2,k3⟩
     case measure=>simp [intOf];omega
   ·have t1:(cd.toList==([]:List UInt8))=false:=by rw [beq_eq_false_iff_ne];exact fun q=>hcd (str_inj _ _ (by rw [q,strList_eq]))
    have HE:=Lib.hid (jHold1_set (c:=(ck,cd)) hcd tk)
    have HJ2:Hid (JT (tSet ltI tk ck cd)):=by have:=HJT.out.hold1 (ck,cd) HCK.out;rwa [HE.out] at this
    clear hcd
    go_wp2_with fail
    generalize wr.alloc (.cells #[.int .i64 ck,.string cd] 190)=w1 at *
    generalize wr.heap.size=gx at *
    have HCD:Hid (∀ W,Upd [] w1 W→Calls Tryz.prog 153 #[.pointer (some ⟨gt,0,none⟩),.int .i64 ck,.string cd] W fun e w'=>∃ b,e = .returned (.bool b)∧∃ F2,Hid (TXIS w0 w' gt F2 (tSet ltI tk ck cd))∧Upd F0 w1 w'∧Hid (∀ x∈F2,x∈F0∨w1.heap.size≤x)):=fun W hW=>by
     refine (txIS_Set ck cd _ _ (HJ.out.tab.upd0 hW) HLN.out HIN.out rfl rfl).mono ?_
     rintro e w' ⟨rfl,F2,h2,hu2,hf2⟩
     exact ⟨_,rfl,F2,h2,hW.trans hu2 (by simp) (fun x hx => .inl hx),fun x hx=>(hf2 x hx).imp id (fun q=>Nat.le_trans hW.size q)⟩
    have HNJ:=Lib.hid HJ.out.nin
    have ru:=Upd.refl [] w1
    go_region_held3 (fun W=>W.cell? ⟨gj,1,none⟩=some (.pointer (some ⟨gt,0,none⟩))∧W.cell? ⟨gx,0,none⟩=some (.int .i64 ck)∧W.cell? ⟨gx,1,none⟩=some (.string cd)) (first|go_keep|exact ⟨ru2.cell HGC.out HNJ.out,ru2.cell HC0.out HNX.out,ru2.cell HC1.out HNX.out⟩)
     (first
      | (go_at_call 153;(with_reducible refine (HCD.out _ (Upd.seq ru ?_)).mono ?_);(repeat (first|exact Upd.refl _ _|apply Upd.drew|apply Upd.drewN|apply Upd.alloc));(rintro _ W2 ⟨b2,rfl,F2,h2,ru2,hf2⟩;dsimp only)))
    all_goals
     obtain ⟨F9,k1,k2,k3⟩:=HFIN.out _ HE.out HJ2.out W2 F2 h2.out ru2 hf2.out
     clear ru ru2 h2 hf2 HCD
     go_wp2_with fail
     go_roundw
     case rel=>exact ⟨k+1,F9,by go_num,by omega,k1,k2,k3⟩
     case measure=>simp [intOf];omega
  ·obtain rfl:k=l.length:=by omega
   have HF:Hid (JD w0 wr gd gj F' G (jAll t l) s):=by have:=hd.out;rwa [List.take_length] at this
   clear hd
   go_wp2_with fail
   go_end0
   exact ⟨rfl,F',HF.out,hu.out,hf.out⟩
end
end Go.Proofs.YthgnlfikneipiaaGreat
