/- Texts of the proof, joined. -/
import Derived.Test.YthgnlfikneipiaaGreatMz7
import Derived.Test.YthgnlfikneipiaaGreatMz6
import Derived.Laws.Externs
import Derived.Lib.JoinLaws
import Derived.Test.YthgnlfikneipiaaGreatRows
import Derived.Test.YthgnlfikneipiaaGreatMz5
import Derived.Deep.DeepCutAuto
import Derived.Deep.RegionHeld3
import Derived.Laws.ResultCell
set_option linter.unusedSimpArgs false
set_option linter.unusedVariables false
set_option linter.unusedSectionVars false
namespace Go.Proofs.YthgnlfikneipiaaGreat
open Go.RowKit
section
variable {base : Nat} {g : Nat} {lv : Value} {l : List (Int × Int)} {w w' : World}
set_option maxRecDepth 20000 in
set_option maxHeartbeats 400000 in
theorem tGetIJ_no (w:World) (k:Int) (hs:TBIJ base w g lv l) (hr:Rising ltIJ l) (hlen:l.length≤100000) (hk:I64 k) (hn:isIn ltIJ l k=false) :
  Calls Tryz.prog 217 #[.pointer (some ⟨g,0,none⟩),iv k] w fun e w'=>e = .returned (.tuple #[.int .i64 0,.bool false])∧Upd [] w w':=by
 have hc:=tFindIJ_any w k hs hr hlen hk
 rw [hn] at hc
 have HC:=Lib.hid hc
 clear hs hr hlen hk hc hn
 go_enter Tryz.func217,Tryz.ntmps217
 go_wp2_with fail
 refine HC.out.mono ?_
 rintro e w1 ⟨rfl,hu1⟩
 go_wp2_with fail
 go_ret2
 exact ⟨rfl,hu1⟩
set_option maxRecDepth 20000 in
set_option maxHeartbeats 400000 in
theorem tGetIJ_ok (w:World) (k:Int) (hs:TBIJ base w g lv l) (hr:Rising ltIJ l) (hlen:l.length≤100000) (hk:I64 k) (hn:isIn ltIJ l k=true) :
  Calls Tryz.prog 217 #[.pointer (some ⟨g,0,none⟩),iv k] w fun e w'=>e = .returned (.tuple #[iv (nth l (below ltIJ l k)).2,.bool true])∧Upd [] w w':=by
 have hc:=tFindIJ_any w k hs hr hlen hk
 rw [hn] at hc
 have HC:=Lib.hid hc
 unfold isIn at hn
 have hlt:=(of_decide_eq_true hn).1
 obtain ⟨ao,co,rfl,hlc,hcm,hcell⟩:=hs.rows.rd rcIJ_len
 obtain ⟨b,off,rfl,hc'⟩:=hcell (by intro h;simp [h] at hlt)
 have D0:=Lib.hid (show w.cell? ⟨g,0,none⟩=some (.slice (some ⟨b,off,none⟩) l.length co) from hs.tab.cell 0)
 have D1:=Lib.hid (show w.cell? ⟨b,off+below ltIJ l k*2+1,none⟩=some (iv (nth l (below ltIJ l k)).2) from hc' _ hlt 1 (by omega))
 clear hs hr hk hc hn hcell hc' hcm
 generalize (nth l (below ltIJ l k)).2=x at *
 generalize below ltIJ l k=i at *
 have q1:(0:Int)≤i:=by omega
 have q2:(i:Int) < l.length:=by omega
 go_enter Tryz.func217,Tryz.ntmps217
 go_wp2_with fail
 refine HC.out.mono ?_
 rintro e w1 ⟨rfl,hu1⟩
 have d0:=hu1.cell D0.out (by simp)
 have d1:=hu1.cell D1.out (by simp)
 go_wp2_with fail
 go_ret2
 exact ⟨rfl,hu1⟩
end
end Go.Proofs.YthgnlfikneipiaaGreat
namespace Go.Proofs.YthgnlfikneipiaaGreat
open Go.RowKit
section
variable {base : Nat} {g : Nat} {lv : Value} {l : List (Int × Int)} {w w' : World}
set_option maxRecDepth 20000 in
set_option maxHeartbeats 400000 in
theorem tSetIJ_old (w:World) (k:Int) (v:Int) (hs:TBIJ base w g lv l) (hr:Rising ltIJ l) (hlen:l.length≤100000) (hk:I64 k) (hn:isIn ltIJ l k=true) :
  Calls Tryz.prog 163 #[.pointer (some ⟨g,0,none⟩),iv k,iv v] w fun e w'=>e = .returned (.bool false)∧TBIJ base w' g lv (l.set (below ltIJ l k) ((nth l (below ltIJ l k)).1,v))∧Upd (blk lv) w w':=by
 have hc:=tFindIJ_any w k hs hr hlen hk
 rw [hn] at hc
 have HC:=Lib.hid hc
 have HS:=Lib.hid hs
 unfold isIn at hn
 have hlt:=(of_decide_eq_true hn).1
 have hgl:=hs.g_lv
 rcases hs.rows.2 with ⟨-,h0⟩|⟨b,co,cur,rfl,hb,hg,-⟩
 ·omega
 have D0:=Lib.hid (show w.cell? ⟨g,0,none⟩=some (.slice (some ⟨b,0,none⟩) l.length co) from hs.tab.cell 0)
 have HL:=Lib.hid hlt
 have D1:=Lib.hid (show ∃ u,w.cell? ⟨b,below ltIJ l k*2+1,none⟩=some u from by
  obtain ⟨ao',co',e',-,-,hcell⟩:=hs.rows.rd rcIJ_len
  injection e' with e1 e2 e3
  obtain ⟨b',off,e4,hc'⟩:=hcell (by intro h;simp [h] at hlt)
  rw [e4] at e1
  injection e1 with e1;injection e1 with e1 e5
  subst e1;subst e5
  exact ⟨_,by simpa using hc' _ hlt 1 (by omega)⟩)
 have HG:=Lib.hid hg
 clear hs hr hk hc hn hgl hg
 generalize below ltIJ l k=i at *
 have q1:(0:Int)≤i:=by omega
 have q2:(i:Int) < l.length:=by omega
 go_enter Tryz.func163,Tryz.ntmps163
 go_wp2_with fail
 with_reducible refine HC.out.mono ?_
 rintro e w1 ⟨rfl,hu1⟩
 have d0:=hu1.cell D0.out (by simp)
 obtain ⟨u,hu⟩:=D1.out
 have d1:=hu1.cell hu (by simp)
 have f1:w1.frozen? ⟨b,i*2+1,none⟩=false:=frozen_of_row w1 b _ cur _ (hu1.heap HG.out (by simp))
 go_wp2_with fail
 go_ret
 have hst:Upd [b] w1 (w1.setCell ⟨b,i*2+1,none⟩ (iv v)):=(Upd.refl [b] w1).setCell _ _ (.inl (by simp))
 have hs1:=HS.out.upd0 hu1
 have hl:=HL.out
 have hgb:g≠b:=fun e=>HS.out.g_lv (by rw [e];simp [blk])
 refine ⟨rfl,⟨hs1.tab.upd hst (by simpa using hgb),?_,hs1.gb⟩,?_⟩
 ·refine OwnN.set_ rcIJ_len hs1.rows i 1 hl (by omega) (iv v) _ ?_
  rw [nth_get l i hl]
  rfl
 ·exact (show Upd [b] w w1 from hu1.mono (by simp)).setCell _ _ (.inl (by simp))
end
end Go.Proofs.YthgnlfikneipiaaGreat
namespace Go.Proofs.YthgnlfikneipiaaGreat
open Go.RowKit
section
variable {base : Nat} {g : Nat} {lv : Value} {l : List (Int × Int)} {w w' : World}
set_option maxRecDepth 20000 in
set_option maxHeartbeats 1000000 in
theorem slInsIJ_end (w:World) (v:Value) (vb:Nat) (x:Int×Int) (hs:OwnN 2 rcIJ base 389 w v l) (hlen:l.length≤100000) (hbs:base≤w.heap.size) (hv:Blk w vb 389 (rcIJ x)) :
  Calls Tryz.prog 216 #[v,.int .i64 (l.length:Int),.slice (some ⟨vb,0,none⟩) 1 1] w fun e w'=>∃ v',e = .returned v'∧OwnN 2 rcIJ base 389 w' v' (l++[x])∧Upd (blk v) w w'∧(∀ y∈blk v',y∈blk v∨w.heap.size≤y):=by
 have hrd:RdN 2 rcIJ w (.slice (some ⟨vb,0,none⟩) 1 1) [x]:=⟨_,1,rfl,by simp,by simp [maxLen],fun _=>⟨vb,0,rfl,fun j hj i hi=>by
  simp at hj;subst hj
  rw [hv.cell];simp [nth_cons_zero]⟩⟩
 have HR:=Lib.hid (fun ty=>run_appN (P:=Tryz.prog) (ty:=ty) rcIJ_len (by decide) rcIJ_one undIJ infoRowIJ rfl v _ l [x] hs hrd (by simp;omega) (by simp [maxLen];omega) hbs)
 obtain ⟨ao,n,co,rfl⟩:=hs.slice_
 have hn:n=l.length∧l.length≤co:=by
  rcases hs.2 with ⟨he,h0⟩|⟨_,_,_,he,_,_,hc,_⟩
  ·injection he with e1 e2 e3;subst e2;subst e3;exact ⟨h0.symm,by omega⟩
  ·injection he with e1 e2 e3;subst e2;subst e3;exact ⟨rfl,hc⟩
 obtain ⟨rfl,hco⟩:=hn
 clear hs hrd hv
 have hd:co=l.length∨¬ co=l.length:=by omega
 rcases hd with hd|hd
 all_goals
  go_enter Tryz.func216,Tryz.ntmps216
  go_wp2_with (at_builtin;refine wpList_app_of rfl _ _ rfl (.slice ao l.length co) (.slice (some ⟨vb,0,none⟩) 1 1) rfl rfl (HR.out _) ?_;rintro v1 w3 ⟨ho3,hu3,hb3⟩;have HO3:=Lib.hid ho3;obtain ⟨a1,n1,c1,rfl⟩:=ho3.slice_;clear ho3)
  go_ret
  exact ⟨_,rfl,HO3.out,hu3,hb3⟩
theorem ovlIJ (w:World) (vb gb vo go_ la ca lb cb kA kB:Nat) (tA tB:TypeId) (hne:vb≠gb) (hsa:w.shape? vb=some (tA,kA)) (hsb:w.shape? gb=some (tB,kB)) (hkB:kB≠0) (hfa:w.frozen? ⟨vb,vo,none⟩=false) (hfe:w.frozen? ⟨vb,kA,none⟩=false) :
  (callFunc 259 #[.slice (some ⟨vb,vo,none⟩) la ca,.slice (some ⟨gb,go_,none⟩) lb cb]).run Tryz.prog w = .ok (.value (.bool false)) w:=by
 have hz:∀ w,(sizeOf 389).run Tryz.prog w = .ok 2 w:=by
  intro w
  obtain ⟨i,h1,h2,h3,h4⟩:=info_parts infoRowIJ
  simp [sizeOf,typeInfo,h1,h3]
 rw [run_callFunc_extern Tryz.func259 (by kernel_rfl) (by kernel_rfl) (by kernel_rfl) (e:=Extern.SlicesOverlaps.overlaps #[146,146] #[4]) (by kernel_rfl),
  Lib.run_overlaps_apart w 146 4 389 undIJ 2 hz ⟨vb,vo,none⟩ ⟨gb,go_,none⟩ la ca lb cb hne tA tB kA kB hsa hsb hkB hfa hfe]
 rfl
set_option maxRecDepth 20000 in
set_option maxHeartbeats 2000000 in
theorem slInsIJ_shift (w:World) (g n cap i:Nat) (vb:Nat) (x:Int×Int) (hs:OwnN 2 rcIJ base 389 w (.slice (some ⟨g,0,none⟩) n cap) l) (hi:i < l.length) (hroom:l.length+1≤cap) (hlen:l.length≤100000) (hv:Blk w vb 389 (rcIJ x)) (hvg:vb≠g) :
  Calls Tryz.prog 216 #[.slice (some ⟨g,0,none⟩) n cap,.int .i64 (i:Int),.slice (some ⟨vb,0,none⟩) 1 1] w fun e w'=>∃ v',e = .returned v'∧OwnN 2 rcIJ base 389 w' v' (l.take i++x::l.drop i)∧Upd [g] w w'∧(∀ y∈blk v',y∈[g]∨w.heap.size≤y):=by
 obtain ⟨rfl,hb,hc,hm,cur,hg,hsz,hp⟩:=hs.open_ rcIJ_len
 have hdl:((l.drop i).flatMap rcIJ).length=(l.length-i)*2:=by rw [flatMap_len rcIJ_len,List.length_drop]
 have htl:((l.take i).flatMap rcIJ).length=i*2:=by rw [flatMap_len rcIJ_len,List.length_take];congr 1;omega
 have hp1:Piece cur 0 ((l.take i).flatMap rcIJ):=by rw [flat_split rcIJ l i] at hp;exact hp.left
 have hp2:Piece cur (i*2) ((l.drop i).flatMap rcIJ):=by rw [flat_split rcIJ l i] at hp;have:=hp.right;rwa [htl,Nat.zero_add] at this
 have h1c:∀ u∈(l.drop i).flatMap rcIJ,u.oneCell'=true:=mem_flat_one rcIJ_one _
 generalize hcs:(l.drop i).flatMap rcIJ=cs at *
 have hcap:(l.length+1)*2≤cur.size:=by rw [hsz];exact Nat.mul_le_mul_right 2 (by omega)
 have hfit:(i+1)*2+cs.length≤cur.size:=by rw [hdl];omega
 have hA:=(fun ty dc sc=>run_copy_lay (P:=Tryz.prog) (sz:=2) (dT:=146) (sT:=146) (ty:=ty) (dLen:=l.length+1-(i+1)) (dCap:=dc) (a:=⟨g,i*2,none⟩) (sLen:=l.length+1-i) (sCap:=sc) (k:=l.length-i) undIJ (by kernel_rfl) w.drew hg (by simp only [Nat.min_def];split<;>omega) hdl (fun j u hu=>by rw [add_none];exact hp2.cell hg j u hu) hfit h1c)
 have hz:=lay_sz cur ((i+1)*2) cs hfit
 have k1:=hp1.stay ((i+1)*2) cs hfit (.inl (by omega))
 have k2:=Piece.lay cur ((i+1)*2) cs hfit
 generalize lay_ cur ((i+1)*2) cs=cur1 at *
 have hg1:(w.drew.setRow g cur1).heap[g]?=some (.cells cur1 389 (0,0)):=setRow_heap w.drew g cur cur1 _ _ hg
 have hu1:Upd [g] w (w.drew.setRow g cur1):=(Upd.refl [g] w).drew.setRow g _ (.inl (by simp))
 have hv1:=hv.upd hu1 (by simpa using hvg)
 obtain ⟨W1,hW1⟩:∃ W1,W1=w.drew.setRow g cur1:=⟨_,rfl⟩
 rw [← hW1] at hA hg1 hu1 hv1
 have hfx:i*2+(rcIJ x).length≤cur1.size:=by rw [hz,rcIJ_len];omega
 have hB:=(fun ty dc=>run_copy_lay (P:=Tryz.prog) (sz:=2) (dT:=146) (sT:=146) (ty:=ty) (dLen:=l.length+1-i) (dCap:=dc) (a:=⟨vb,0,none⟩) (sLen:=1) (sCap:=1) (k:=1) (cs:=rcIJ x) undIJ (by kernel_rfl) W1 hg1 (by simp only [Nat.min_def];split<;>omega) rfl (fun j u hu=>by rw [add_none,hv1.cell,Nat.zero_add];exact hu) hfx (rcIJ_one x))
 have hz2:=lay_sz cur1 (i*2) (rcIJ x) hfx
 have m1:=k1.stay (i*2) (rcIJ x) hfx (.inl (by omega))
 have m2:=Piece.lay cur1 (i*2) (rcIJ x) hfx
 have m3:=k2.stay (i*2) (rcIJ x) hfx (.inr (by rw [rcIJ_len];omega))
 generalize lay_ cur1 (i*2) (rcIJ x)=cur2 at *
 have HK:=Lib.hid (show OwnN 2 rcIJ base 389 (W1.setRow g cur2) (.slice (some ⟨g,0,none⟩) (l.length+1) cap) (l.take i++x::l.drop i) from by
  refine OwnN.of_piece rcIJ_len cur2 (by simp;omega) hb (by simp;omega) hm (setRow_heap _ g cur1 _ _ _ hg1) (by rw [hz2,hz,hsz]) ?_
  rw [List.flatMap_append,List.flatMap_cons,hcs]
  refine m1.app ?_
  rw [htl,Nat.zero_add (i*2)]
  refine m2.app ?_
  rw [rcIJ_len,show i*2+2=(i+1)*2 by omega]
  exact m3)
 have HU:=Lib.hid (show Upd [g] w (W1.setRow g cur2) from hu1.setRow g _ (.inl (by simp)))
 obtain ⟨W2,hW2⟩:∃ W2,W2=W1.setRow g cur2:=⟨_,rfl⟩
 rw [← hW2] at hB HK HU
 have HA:=Lib.hid hA
 have HB:=Lib.hid hB
 have HO:=Lib.hid (fun lb cb=>ovlIJ w vb g 0 ((i+1)*2) 1 1 lb cb (rcIJ x).toArray.size cur.size 389 389 hvg (by unfold World.shape?;rw [show w.heap[vb]?=_ from hv]) (by unfold World.shape?;rw [hg]) (by omega) (hv.frozen 0) (hv.frozen _))
 clear hs hp hp1 hp2 hsz hg hdl htl h1c hfit hz k1 k2 hg1 hcs hcap hA hB hv hv1 hu1 hfx hz2 m1 m2 m3 hW1 hW2
 have HL:=Lib.hid (show True from trivial)
 generalize l.length=n at *
 have hc63:cap≤9223372036854775807:=by unfold maxLen at hm;omega
 have hz1:¬ ((i:Int)=(n:Int)):=by omega
 have hw1:IntKind.i64.wrap ((i:Int)+1)=(i:Int)+1:=by rw [IntKind.wrap_i64];omega
 have hw2:IntKind.i64.wrap ((n:Int)+1)=(n:Int)+1:=by rw [IntKind.wrap_i64];omega
 have b1:(0:Int)≤(i:Int)+1:=by omega
 have b2:(0:Int)≤(n:Int)+1:=by omega
 have t1:((i:Int)+1).toNat=i+1:=by omega
 have t2:((n:Int)+1).toNat=n+1:=by omega
 have b3:¬ (cap=i+1):=by omega
 have b4:¬ (cap=i):=by omega
 have b5:(i:Int)+1≤(n:Int)+1:=by omega
 have b6:(i:Int)≤(n:Int)+1:=by omega
 have b7:(n:Int)+1≤(cap:Int):=by omega
 have b8:i≤n:=by omega
 go_enter Tryz.func216,Tryz.ntmps216
 go_wp2_with (simp only [HO.out])
 go_region_law (refine step_copy_eq rfl (.tmp 73) (.tmp 76) 146 146 rfl (.slice (some ⟨g,(i+1)*2,none⟩) (n+1-(i+1)) (cap-(i+1))) (.slice (some ⟨g,i*2,none⟩) (n+1-i) (cap-i)) (by simp [Act.eval,Act.put]) (by simp [Act.eval,Act.put]) (HA.out _ _ _) ?_)
 go_wp2_with (with_reducible refine wpList_copy_eq rfl (.tmp 80) (.tmp 81) 146 146 rfl (.slice (some ⟨g,i*2,none⟩) (n+1-i) (cap-i)) (.slice (some ⟨vb,0,none⟩) 1 1) rfl rfl (HB.out _ _) ?_)
 go_ret
 exact ⟨_,rfl,HK.out,HU.out,fun y hy => .inl (by simpa [blk] using hy)⟩
set_option maxRecDepth 20000 in
set_option maxHeartbeats 2000000 in
theorem slInsIJ_grow (w:World) (g n cap i:Nat) (vb:Nat) (x:Int×Int) (hs:OwnN 2 rcIJ base 389 w (.slice (some ⟨g,0,none⟩) n cap) l) (hi:i < l.length) (hroom:cap < l.length+1) (hlen:l.length≤100000) (hbs:base≤w.heap.size) (hv:Blk w vb 389 (rcIJ x)) :
  Calls Tryz.prog 216 #[.slice (some ⟨g,0,none⟩) n cap,.int .i64 (i:Int),.slice (some ⟨vb,0,none⟩) 1 1] w fun e w'=>∃ v',e = .returned v'∧OwnN 2 rcIJ base 389 w' v' (l.take i++x::l.drop i)∧Upd [g] w w'∧(∀ y∈blk v',y∈[g]∨w.heap.size≤y):=by
 obtain ⟨rfl,hb,hc,hm,cur,hg,hsz,hp⟩:=hs.open_ rcIJ_len
 obtain ⟨i0,hi0,hz0,hzs,hzb⟩:=info_parts infoRowIJ
 have hdl:((l.drop i).flatMap rcIJ).length=(l.length-i)*2:=by rw [flatMap_len rcIJ_len,List.length_drop]
 have htl:((l.take i).flatMap rcIJ).length=i*2:=by rw [flatMap_len rcIJ_len,List.length_take];congr 1;omega
 have hp1:Piece cur 0 ((l.take i).flatMap rcIJ):=by rw [flat_split rcIJ l i] at hp;exact hp.left
 have hp2:Piece cur (i*2) ((l.drop i).flatMap rcIJ):=by rw [flat_split rcIJ l i] at hp;have:=hp.right;rwa [htl,Nat.zero_add] at this
 have h1c:∀ u∈(l.drop i).flatMap rcIJ,u.oneCell'=true:=mem_flat_one rcIJ_one _
 have hgw:g < w.heap.size:=(Array.getElem?_eq_some_iff.1 hg).1
 have hold:(Builtin.firstCells i0.size i (.slice (some ⟨g,0,none⟩) i cap)).run Tryz.prog w.drew = .ok ((l.take i).flatMap rcIJ).toArray w.drew:=by
  rw [hzs]
  exact run_firstCells_some w.drew 2 i ⟨g,0,none⟩ i cap _ htl (fun j u hu=>by rw [add_none];exact hp1.cell hg j u hu)
 have hkk:(l.length:Int)+1-(i:Int)=((l.length+1-i:Nat):Int):=by omega
 have hik:i+(l.length+1-i)=l.length+1:=by omega
 have u3:Tryz.prog.underlying 3=some (.int .i64):=by kernel_rfl
 have hrz:=fun ty=>Lib.run_append_grow_zeros (P:=Tryz.prog) w 146 3 ty 389 i0 _ .i64 .i64 undIJ u3 hi0 hz0 (some ⟨g,0,none⟩) i cap _ hold (l.length+1-i) (by omega) (by omega) (by omega) (by omega) (by rw [hzb];omega) (by rw [hzb,hik];exact growslice_fits (by omega) (by omega))
 rw [hik] at hrz
 have hGe:=grownCap_ge w (l.length+1) cap 389
 have hGm:grownCap w (l.length+1) cap 389≤maxLen:=grownCap_le_maxLen w (l.length+1) cap _ (by unfold maxLen;omega)
 generalize grownCap w (l.length+1) cap 389=G at *
 obtain ⟨ROW,hROW⟩:∃ ROW:Array Value,ROW=((l.take i).flatMap rcIJ).toArray++Builtin.zeroCells (Value.agg #[.int .i64 0,.int .i64 0]).cells (l.length+1-i)++Builtin.zeroCells (Value.agg #[.int .i64 0,.int .i64 0]).cells (G-(l.length+1)):=⟨_,rfl⟩
 rw [← hROW] at hrz
 have hzz:(Value.agg #[.int .i64 0,.int .i64 0]).cells.size=2:=rfl
 have hRs:ROW.size=G*2:=by
  rw [hROW]
  simp only [Array.size_append,List.size_toArray,size_zeroCells,hzz,htl]
  omega
 have hRp:Piece ROW 0 ((l.take i).flatMap rcIJ):=fun j u hu=>by
  have hj:=(List.getElem?_eq_some_iff.1 hu).1
  rw [hROW,Array.append_assoc,Array.getElem?_append_left (by simp only [Array.size_append,List.size_toArray];omega),Nat.zero_add]
  simpa using hu
 clear hROW hold hp1
 obtain ⟨W1,hW1⟩:∃ W1,W1=w.drew.alloc (.cells ROW 389):=⟨_,rfl⟩
 rw [← hW1] at hrz
 have hg1:W1.heap[w.heap.size]?=some (.cells ROW 389 (0,0)):=by rw [hW1];exact heap_alloc_new w.drew _
 have hu1:Upd [] w W1:=by rw [hW1];exact (Upd.refl [] w).drew.alloc _
 have hv1:=hv.upd hu1 (by simp)
 have hgg:=hu1.heap hg (by simp)
 generalize hgn:w.heap.size=gn at *
 have hgne:g≠gn:=by omega
 have hvw:vb < gn:=by rw [← hgn];exact hv.lt
 have hvne:vb≠gn:=by omega
 have hfx:i*2+(rcIJ x).length≤ROW.size:=by rw [hRs,rcIJ_len];omega
 have hB:=(fun ty dc=>run_copy_lay (P:=Tryz.prog) (sz:=2) (dT:=146) (sT:=146) (ty:=ty) (dLen:=l.length+1-i) (dCap:=dc) (a:=⟨vb,0,none⟩) (sLen:=1) (sCap:=1) (k:=1) (cs:=rcIJ x) undIJ (by kernel_rfl) W1 hg1 (by simp only [Nat.min_def];split<;>omega) rfl (fun j u hu=>by rw [add_none,hv1.cell,Nat.zero_add];exact hu) hfx (rcIJ_one x))
 have hz2:=lay_sz ROW (i*2) (rcIJ x) hfx
 have m1:=hRp.stay (i*2) (rcIJ x) hfx (.inl (by omega))
 have m2:=Piece.lay ROW (i*2) (rcIJ x) hfx
 generalize lay_ ROW (i*2) (rcIJ x)=cur1 at *
 have hg2:(W1.setRow gn cur1).heap[gn]?=some (.cells cur1 389 (0,0)):=setRow_heap W1 gn ROW cur1 _ _ hg1
 have hu2:Upd [gn] W1 (W1.setRow gn cur1):=(Upd.refl [gn] W1).setRow gn _ (.inl (by simp))
 have hgg2:=hu2.heap hgg (by simpa using hgne)
 obtain ⟨W2,hW2⟩:∃ W2,W2=W1.setRow gn cur1:=⟨_,rfl⟩
 rw [← hW2] at hB hg2 hu2 hgg2
 generalize hcs:(l.drop i).flatMap rcIJ=cs at *
 have hfit:(i+1)*2+cs.length≤cur1.size:=by rw [hdl,hz2,hRs];omega
 have hA:=(fun ty dc sc=>run_copy_lay (P:=Tryz.prog) (sz:=2) (dT:=146) (sT:=146) (ty:=ty) (dLen:=l.length+1-(i+1)) (dCap:=dc) (a:=⟨g,i*2,none⟩) (sLen:=l.length-i) (sCap:=sc) (k:=l.length-i) undIJ (by kernel_rfl) W2.drew hg2 (by simp only [Nat.min_def];split<;>omega) hdl (fun j u hu=>by rw [add_none];exact hp2.cell hgg2 j u hu) hfit h1c)
 have hz3:=lay_sz cur1 ((i+1)*2) cs hfit
 have k1:=m1.stay ((i+1)*2) cs hfit (.inl (by omega))
 have k2:=m2.stay ((i+1)*2) cs hfit (.inl (by rw [rcIJ_len];omega))
 have k3:=Piece.lay cur1 ((i+1)*2) cs hfit
 generalize lay_ cur1 ((i+1)*2) cs=cur2 at *
 have HK:=Lib.hid (show OwnN 2 rcIJ base 389 (W2.drew.setRow gn cur2) (.slice (some ⟨gn,0,none⟩) (l.length+1) G) (l.take i++x::l.drop i) from by
  refine OwnN.of_piece rcIJ_len cur2 (by simp;omega) hbs (by simp;omega) hGm (setRow_heap W2.drew gn cur1 _ _ _ hg2) (by rw [hz3,hz2,hRs]) ?_
  rw [List.flatMap_append,List.flatMap_cons,hcs]
  refine k1.app ?_
  rw [htl,Nat.zero_add (i*2)]
  refine k2.app ?_
  rw [rcIJ_len,show i*2+2=(i+1)*2 by omega]
  exact k3)
 have HU:=Lib.hid (show Upd [g] w (W2.drew.setRow gn cur2) from (((hu1.trans (T:=[g]) hu2 (by simp) (fun y hy => .inr (by simp at hy;omega))).drew).setRow gn _ (.inr (by omega))))
 obtain ⟨W3,hW3⟩:∃ W3,W3=W2.drew.setRow gn cur2:=⟨_,rfl⟩
 rw [← hW3] at hA HK HU
 have HA:=Lib.hid hA
 have HB:=Lib.hid hB
 have hrz':∀ ty,(Builtin.append_ #[146,3] ty #[.slice (some ⟨g,0,none⟩) i cap,.int .i64 ((l.length:Int)+1-(i:Int))]).run Tryz.prog w = .ok (.slice (some ⟨gn,0,none⟩) (l.length+1) G) W1:=fun ty=>by rw [hkk];exact hrz ty
 have HZ:=Lib.hid hrz'
 have HG:=Lib.hid hgn
 clear hs hp hp2 hsz hg hdl htl h1c hfit k1 k2 k3 hg1 hg2 hcs hA hB hv hv1 hu1 hu2 hfx hz2 hz3 m1 m2 hW1 hW2 hW3 hrz hrz' hgg hgg2 hRs hRp hgn hgw hi0 hz0 hzs hzb hkk hik hzz hgne hvw hvne
 generalize l.length=n at *
 obtain rfl:cap=n:=by omega
 have hc63:G≤9223372036854775807:=by unfold maxLen at hGm;omega
 have hz1:¬ ((i:Int)=(cap:Int)):=by omega
 have hw1:IntKind.i64.wrap ((i:Int)+1)=(i:Int)+1:=by rw [IntKind.wrap_i64];omega
 have hw2:IntKind.i64.wrap ((cap:Int)+1)=(cap:Int)+1:=by rw [IntKind.wrap_i64];omega
 have hw3:IntKind.i64.wrap ((cap:Int)+1-(i:Int))=(cap:Int)+1-(i:Int):=by rw [IntKind.wrap_i64];omega
 have b1:(0:Int)≤(i:Int)+1:=by omega
 have b2:(0:Int)≤(cap:Int)+1:=by omega
 have t1:((i:Int)+1).toNat=i+1:=by omega
 have t2:((cap:Int)+1).toNat=cap+1:=by omega
 have b3:¬ (G=i+1):=by omega
 have b4:¬ (G=i):=by omega
 have b5:(i:Int)+1≤(cap:Int)+1:=by omega
 have b6:(i:Int)≤(cap:Int)+1:=by omega
 have b7:¬ (cap=i):=by omega
 have b8:i≤cap:=by omega
 go_enter Tryz.func216,Tryz.ntmps216
 go_wp2_with (first
  | (at_builtin;refine wpList_app_eq rfl _ _ 146 3 rfl (.slice (some ⟨g,0,none⟩) i cap) (.int .i64 ((cap:Int)+1-(i:Int))) rfl rfl (HZ.out _) ?_)
  | (with_reducible refine wpList_copy_eq rfl (.tmp 43) (.tmp 44) 146 146 rfl (.slice (some ⟨gn,i*2,none⟩) (cap+1-i) (G-i)) (.slice (some ⟨vb,0,none⟩) 1 1) rfl rfl (HB.out _ _) ?_))
 go_region_law (refine step_copy_eq rfl (.tmp 50) (.tmp 53) 146 146 rfl (.slice (some ⟨gn,(i+1)*2,none⟩) (cap+1-(i+1)) (G-(i+1))) (.slice (some ⟨g,i*2,none⟩) (cap-i) (cap-i)) (by simp [Act.eval,Act.put]) (by simp [Act.eval,Act.put]) (HA.out _ _ _) ?_)
 go_wp2_with fail
 go_ret
 exact ⟨_,rfl,HK.out,HU.out,fun y hy => .inr (by simp [blk] at hy;have:=HG.out;omega)⟩
theorem slInsIJ_any (w:World) (v:Value) (i:Nat) (vb:Nat) (x:Int×Int) (hs:OwnN 2 rcIJ base 389 w v l) (hi:i≤l.length) (hlen:l.length≤100000) (hbs:base≤w.heap.size) (hv:Blk w vb 389 (rcIJ x)) (hvg:vb∉blk v) :
  Calls Tryz.prog 216 #[v,.int .i64 (i:Int),.slice (some ⟨vb,0,none⟩) 1 1] w fun e w'=>∃ v',e = .returned v'∧OwnN 2 rcIJ base 389 w' v' (l.take i++x::l.drop i)∧Upd (blk v) w w'∧(∀ y∈blk v',y∈blk v∨w.heap.size≤y):=by
 by_cases he:i=l.length
 ·subst he
  rw [List.take_length,List.drop_length]
  exact slInsIJ_end w v vb x hs hlen hbs hv
 ·rcases hs.2 with ⟨-,h0⟩|⟨g,cap,cur,rfl,-⟩
  ·omega
  ·by_cases hc:l.length+1≤cap
   ·exact slInsIJ_shift w g l.length cap i vb x hs (by omega) hc hlen hv (by simpa [blk] using hvg)
   ·exact slInsIJ_grow w g l.length cap i vb x hs (by omega) (by omega) hlen hbs hv
set_option maxRecDepth 20000 in
set_option maxHeartbeats 400000 in
theorem tSetIJ_new (w:World) (k:Int) (y:Int) (hs:TBIJ base w g lv l) (hr:Rising ltIJ l) (hlen:l.length≤100000) (hbs:base≤w.heap.size) (hk:I64 k) (hn:isIn ltIJ l k=false) :
  Calls Tryz.prog 163 #[.pointer (some ⟨g,0,none⟩),iv k,iv y] w fun e w'=>e = .returned (.bool true)∧∃ lv',TBIJ base w' g lv' (l.take (below ltIJ l k)++(k,y)::l.drop (below ltIJ l k))∧Upd (g::blk lv) w w'∧(∀ x∈blk lv',x∈blk lv∨w.heap.size≤x):=by
 have hc:=tFindIJ_any w k hs hr hlen hk
 rw [hn] at hc
 have HC:=Lib.hid hc
 have HS:=Lib.hid hs
 have hle:=below_le (lt:=ltIJ) l k
 have HD:=Lib.hid (fun w1 (h:Upd [] w w1)=>slInsIJ_any (w1.alloc (.cells #[iv k,iv y] 389)) lv (below ltIJ l k) w1.heap.size (k,y) (hs.rows.upd (h.alloc _) (by simp)) hle hlen (by have:=h.size;simp;omega) (Blk.new w1 _ [iv k,iv y]) (fun hx=>by have:=(hs.rows.ge _ hx).2;have:=h.size;omega))
 have D0:=Lib.hid (show w.cell? ⟨g,0,none⟩=some lv from hs.tab.cell 0)
 obtain ⟨ao,n,co,rfl⟩:=hs.rows.slice_
 clear hs hr hk hc hn hbs hle
 generalize below ltIJ l k=i at *
 go_enter Tryz.func163,Tryz.ntmps163
 go_wp2_with fail
 with_reducible refine HC.out.mono ?_
 rintro e w1 ⟨rfl,hu1⟩
 have d0:=hu1.cell D0.out (by simp)
 have HU1:=Lib.hid hu1
 go_wp2_with fail
 with_reducible refine (HD.out w1 HU1.out).mono ?_
 rintro e w2 ⟨v2,rfl,ho2,hu2,hb2⟩
 have hgl:=HS.out.g_lv
 have hu1':=HU1.out.alloc (.cells #[iv k,iv y] 389)
 have f0:w2.frozen? ⟨g,0,none⟩=false:=((HS.out.tab.upd hu1' (by simp)).upd hu2 hgl).frozen 0
 have d2:w2.cell? ⟨g,0,none⟩=some (.slice ao n co):=hu2.cell (hu1'.cell D0.out (by simp)) hgl
 obtain ⟨ao2,n2,co2,rfl⟩:=ho2.slice_
 have hg2:g∉blk (.slice ao2 n2 co2):=fun hx=>by
  rcases hb2 g hx with q|q
  ·exact hgl q
  ·have:=HS.out.tab.lt;have:=hu1'.size;omega
 have HT:=Lib.hid (show TBIJ base (w2.setCell ⟨g,0,none⟩ (.slice ao2 n2 co2)) g (.slice ao2 n2 co2) (l.take i++(k,y)::l.drop i) from
  ⟨by simpa using ((HS.out.tab.upd hu1' (by simp)).upd hu2 hgl).set_ 0 (.slice ao2 n2 co2),ho2.upd ((Upd.refl [g] _).setCell _ _ (.inl (by simp))) (by intro x hx;simp;rintro rfl;exact hg2 hx),HS.out.gb⟩)
 have HU2:=Lib.hid (show Upd (g::blk (.slice ao n co)) w (w2.setCell ⟨g,0,none⟩ (.slice ao2 n2 co2)) from (hu1'.trans (T:=g::blk (.slice ao n co)) hu2 (by simp) (fun x hx => .inl (by simp [hx]))).setCell _ _ (.inl (by simp)))
 have HB2:=Lib.hid (show ∀ x∈blk (.slice ao2 n2 co2),x∈blk (.slice ao n co)∨w.heap.size≤x from fun x hx=>(hb2 x hx).imp id (fun h=>by have:=hu1'.size;omega))
 clear ho2 hu1 hu2 hgl hg2 hb2 hu1'
 go_wp2_with fail
 go_ret
 exact ⟨rfl,_,HT.out,HU2.out,HB2.out⟩
theorem tSetIJ_any (w:World) (k:Int) (y:Int) (hs:TBIJ base w g lv l) (hr:Rising ltIJ l) (hlen:l.length≤100000) (hbs:base≤w.heap.size) (hk:I64 k) :
  Calls Tryz.prog 163 #[.pointer (some ⟨g,0,none⟩),iv k,iv y] w fun e w'=>e = .returned (.bool (!isIn ltIJ l k))∧∃ lv',TBIJ base w' g lv' (tSet ltIJ l k y)∧Upd (g::blk lv) w w'∧(∀ x∈blk lv',x∈blk lv∨w.heap.size≤x):=by
 cases hn:isIn ltIJ l k with
 | false =>
  refine (tSetIJ_new w k y hs hr hlen hbs hk hn).mono ?_
  rintro e w' ⟨rfl,v',ht,hu,hb⟩
  exact ⟨rfl,v',by unfold tSet;rw [hn];exact ht,hu,hb⟩
 | true =>
  refine (tSetIJ_old w k y hs hr hlen hk hn).mono ?_
  rintro e w' ⟨rfl,ht,hu⟩
  refine ⟨rfl,lv,?_,hu.mono (fun x hx => .inl (by simp [hx])),fun x hx => .inl hx⟩
  rw [tSet_in l k y hn];exact ht
end
end Go.Proofs.YthgnlfikneipiaaGreat
namespace Go.Proofs.YthgnlfikneipiaaGreat
open Go.RowKit
structure TXIJ (w0 w:World) (g:Nat) (F:List Nat) (l:List (Int×Int)):Prop where
 ex:∃ lv,F=g::blk lv∧TBIJ w0.heap.size w g lv l
 ris:Rising ltIJ l
 old:Upd [] w0 w
section
variable {w0 w w' : World} {g : Nat} {F : List Nat} {l : List (Int × Int)}
theorem TXIJ.ge (h:TXIJ w0 w g F l):∀ x∈F,w0.heap.size≤x∧x < w.heap.size:=by
 obtain ⟨lv,rfl,ht⟩:=h.ex
 exact ht.lt
theorem TXIJ.upd (h:TXIJ w0 w g F l) {S:List Nat} (hu:Upd S w w') (hs:∀ x∈F,x∉S) (hS:∀ x∈S,w0.heap.size≤x):TXIJ w0 w' g F l:=by
 obtain ⟨lv,rfl,ht⟩:=h.ex
 exact ⟨⟨lv,rfl,ht.upd hu hs⟩,h.ris,h.old.trans hu (by simp) (fun x hx => .inr (hS x hx))⟩
theorem TXIJ.upd0 (h:TXIJ w0 w g F l) (hu:Upd [] w w'):TXIJ w0 w' g F l:=h.upd hu (by simp) (by simp)
theorem txIJ_New (w0 w:World) (hu:Upd [] w0 w) :
  Calls Tryz.prog 31 #[] w fun e w'=>∃ g F,e = .returned (.pointer (some ⟨g,0,none⟩))∧TXIJ w0 w' g F []∧Upd [] w w'∧(∀ x∈F,w.heap.size≤x):=by
 refine (tNewIJ_any w).mono ?_
 rintro e w' ⟨rfl,ht,hu'⟩
 exact ⟨_,_,rfl,⟨⟨_,rfl,⟨ht.tab,OwnN.nil _ _ _,hu.size⟩⟩,Rising.nil,hu.seq hu'⟩,hu',fun x hx=>(ht.lt x hx).1⟩
theorem txIJ_Set (k:Int) (y:Int) (r:Bool) (l':List (Int×Int)) (hs:TXIJ w0 w g F l) (hlen:l.length≤100000) (hk:I64 k) (h1:(!isIn ltIJ l k)=r) (h2:tSet ltIJ l k y=l') :
  Calls Tryz.prog 163 #[.pointer (some ⟨g,0,none⟩),iv k,iv y] w fun e w'=>e = .returned (.bool r)∧∃ F',TXIJ w0 w' g F' l'∧Upd F w w'∧(∀ x∈F',x∈F∨w.heap.size≤x):=by
 subst h1;subst h2
 have hold:=hs.old
 obtain ⟨⟨lv,rfl,ht⟩,hr,-⟩:=hs
 refine (tSetIJ_any w k y ht hr hlen hold.size hk).mono ?_
 rintro e w' ⟨rfl,lv',ht',hu,hb⟩
 refine ⟨rfl,g::blk lv',⟨⟨lv',rfl,ht'⟩,hr.set_ intOrd k y,hold.trans hu (by simp) (fun x hx => .inr (ht.lt x hx).1)⟩,hu,fun x hx=>?_⟩
 rcases List.mem_cons.1 hx with rfl|hx
 ·exact .inl (by simp)
 ·exact (hb x hx).imp (fun q=>by simp [q]) id
theorem txIJ_Get (k:Int) (y:Int) (r:Bool) (hs:TXIJ w0 w g F l) (hlen:l.length≤100000) (hk:I64 k) (h:tGet ltIJ (0:Int) l k=(y,r)) :
  Calls Tryz.prog 217 #[.pointer (some ⟨g,0,none⟩),iv k] w fun e w'=>e = .returned (.tuple #[iv y,.bool r])∧Upd [] w w':=by
 obtain ⟨⟨lv,rfl,ht⟩,hr,-⟩:=hs
 unfold tGet at h
 cases hn:isIn ltIJ l k with
 | false=>rw [hn] at h;injection h with h1 h2;subst h1;subst h2;exact tGetIJ_no w k ht hr hlen hk hn
 | true=>rw [hn] at h;injection h with h1 h2;subst h1;subst h2;exact tGetIJ_ok w k ht hr hlen hk hn
end
end Go.Proofs.YthgnlfikneipiaaGreat
namespace Go.Proofs.YthgnlfikneipiaaGreat
open Go.RowKit
set_option maxRecDepth 20000 in
set_option maxHeartbeats 1000000 in
theorem named_any (w:World) (s:ByteArray) :
  Calls Tryz.prog 36 #[sv s] w fun e w'=>e = .returned (.bool (nameOk s))∧w=w':=by
 by_cases h1:s.size < 1
 ·have HN:Hid (nameOk s=false):=by unfold Hid nameOk;simp;omega
  have q:(s.size:Int) < 1:=by omega
  go_enter Tryz.func36,Tryz.ntmps36
  go_wp2_with fail
  go_ret
  exact ⟨by rw [HN.out];rfl,rfl⟩
 ·by_cases h2:s.size≤32
  ·have q:¬ (s.size:Int) < 1:=by omega
   have q':¬ (32:Int) < s.size:=by omega
   go_enter Tryz.func36,Tryz.ntmps36
   go_wp2_with fail
   go_loopw [3,14] (fun x i wr=>∃ k:Nat,k≤s.size∧i = .int .i64 k∧w=wr∧Hid (∀ j (h:j < s.size),j < k→33≤(s[j]).toNat∧(s[j]).toNat≤126)) (fun _ i _=>s.size-(intOf i).toNat)
   case atStart=>exact ⟨0,Nat.zero_le _,rfl,rfl,fun j _ h=>absurd h (by omega)⟩
   case round =>
    obtain ⟨k,hk,rfl,rfl,hh⟩:=hrel
    by_cases hlt:k < s.size
    ·have q0:(0:Int)≤k:=by omega
     have q1:(k:Int) < s.size:=by omega
     by_cases hb:33≤(s[k]).toNat∧(s[k]).toNat≤126
     ·have hb1:¬ ((s[k]).toNat:Int) < 33:=by omega
      have hb2:¬ (126:Int) < ((s[k]).toNat:Int):=by omega
      have HH:Hid (∀ j (h:j < s.size),j < k+1→33≤(s[j]).toNat∧(s[j]).toNat≤126):=fun j hj hjk=>by
       rcases Nat.lt_or_eq_of_le (Nat.le_of_lt_succ hjk) with h|h
       ·exact hh.out j hj h
       ·subst h;exact hb
      clear hb
      go_wp2_with fail
      go_roundw
      case rel=>exact ⟨k+1,by omega,by go_num,by first|trivial|rfl,HH⟩
      case measure=>simp [intOf];omega
     ·have HN:Hid (nameOk s=false):=by
       unfold Hid nameOk
       exact decide_eq_false (fun h=>hb (h.2.2 k hlt))
      have hd:((s[k]).toNat:Int) < 33∨(¬ ((s[k]).toNat:Int) < 33∧(126:Int) < ((s[k]).toNat:Int)):=by omega
      clear hb
      rcases hd with hb1|⟨hb1,hb2⟩
      all_goals
       go_wp2_with fail
       go_ret
       exact ⟨by rw [HN.out];rfl,rfl⟩
    ·obtain rfl:k=s.size:=by omega
     have HN:Hid (nameOk s=true):=by
      unfold Hid nameOk
      exact decide_eq_true ⟨by omega,by omega,fun j hj=>hh.out j hj hj⟩
     go_wp2_with fail
     go_ret
     exact ⟨by rw [HN.out];rfl,rfl⟩
  ·have HN:Hid (nameOk s=false):=by unfold Hid nameOk;exact decide_eq_false (fun h=>h2 h.2.1)
   have q:¬ (s.size:Int) < 1:=by omega
   have q':(32:Int) < s.size:=by omega
   go_enter Tryz.func36,Tryz.ntmps36
   go_wp2_with fail
   go_ret
   exact ⟨by rw [HN.out];rfl,rfl⟩
end Go.Proofs.YthgnlfikneipiaaGreat
namespace Go.Proofs.YthgnlfikneipiaaGreat
open Go.RowKit
abbrev FL:=List (Int×(ByteArray×List UInt8))
abbrev CL:=List (Int×((ByteArray×Sl)×List UInt8))
abbrev rowsOf (cs:CL):List (Int×(ByteArray×Sl)):=tMap id (·.1) cs
abbrev filesOf (cs:CL):FL:=tMap id (fun v:(ByteArray×Sl)×List UInt8=>(v.1.1,v.2)) cs
abbrev ltY:Int→Int→Bool:=fun a b=>decide (a < b)
theorem ty_one {w:World} {x:Nat} {C C':Array Value} {e e':TypeId} {f f':Nat×Nat} (h:w.heap[x]?=some (.cells C e f)) (h':w.heap[x]?=some (.cells C' e' f')):e=e':=by
 rw [h] at h'
 injection h' with h1;injection h1
theorem if_ty {w0 w:World} {g:Nat} {F:List Nat} {l:List (Int×(ByteArray×Sl))} (h:TXIF w0 w g F l):∀ x∈F,∃ C f e,w.heap[x]?=some (.cells C e f)∧(e=145∨e=171):=by
 intro x hx
 obtain ⟨lv,rfl,ht⟩:=h.ex
 rcases List.mem_cons.1 hx with rfl|hx
 ·exact ⟨_,_,_,ht.tab,.inl rfl⟩
 ·obtain ⟨C,f,hq⟩:=ht.rows.typ x hx
  exact ⟨C,f,_,hq,.inr rfl⟩
theorem ij_ty {w0 w:World} {g:Nat} {F:List Nat} {l:List (Int×Int)} (h:TXIJ w0 w g F l):∀ x∈F,∃ C f e,w.heap[x]?=some (.cells C e f)∧(e=148∨e=389):=by
 intro x hx
 obtain ⟨lv,rfl,ht⟩:=h.ex
 rcases List.mem_cons.1 hx with rfl|hx
 ·exact ⟨_,_,_,ht.tab,.inl rfl⟩
 ·obtain ⟨C,f,hq⟩:=ht.rows.typ x hx
  exact ⟨C,f,_,hq,.inr rfl⟩
theorem Own.typ {α:Type} {c:α→Value} {base:Nat} {e:TypeId} {w:World} {v:Value} {l:List α} (h:Own c base e w v l):∀ x∈blk v,∃ C f,w.heap[x]?=some (.cells C e f):=by
 intro x hx
 rcases h.2 with ⟨rfl,_⟩|⟨g,cap,cur,rfl,_,hg,_⟩
 ·simp [blk] at hx
 ·simp [blk] at hx;subst hx;exact ⟨_,_,hg⟩
theorem if_ij {w0 w:World} {g g2:Nat} {F G:List Nat} {l:List (Int×(ByteArray×Sl))} {m:List (Int×Int)} (h:TXIF w0 w g F l) (k:TXIJ w0 w g2 G m):Ap F G:=by
 intro x hx hG
 obtain ⟨C,f,e,h1,h2⟩:=if_ty h x hx
 obtain ⟨C',f',e',h1',h2'⟩:=ij_ty k x hG
 have:=ty_one h1 h1'
 rcases h2 with h2|h2<;>rcases h2' with h2'|h2'<;>(rw [h2,h2'] at this;exact absurd this (by decide))
theorem if_own {w0 w:World} {g base:Nat} {F:List Nat} {l:List (Int×(ByteArray×Sl))} {v:Value} {m:List UInt8} (h:TXIF w0 w g F l) (k:Own bv base 5 w v m):Ap F (blk v):=by
 intro x hx hG
 obtain ⟨C,f,e,h1,h2⟩:=if_ty h x hx
 obtain ⟨C',f',h1'⟩:=k.typ x hG
 have:=ty_one h1 h1'
 rcases h2 with h2|h2<;>(rw [h2] at this;exact absurd this (by decide))
theorem ij_own {w0 w:World} {g base:Nat} {F:List Nat} {l:List (Int×Int)} {v:Value} {m:List UInt8} (h:TXIJ w0 w g F l) (k:Own bv base 5 w v m):Ap F (blk v):=by
 intro x hx hG
 obtain ⟨C,f,e,h1,h2⟩:=ij_ty h x hx
 obtain ⟨C',f',h1'⟩:=k.typ x hG
 have:=ty_one h1 h1'
 rcases h2 with h2|h2<;>(rw [h2] at this;exact absurd this (by decide))
structure YC (w0 w:World) (gy gf gt:Nat) (F T:List Nat) (cs:CL) (tk:List (Int×Int)):Prop where
 yard:Blk w gy 107 [.pointer (some ⟨gf,0,none⟩),.pointer (some ⟨gt,0,none⟩)]
 gyb:w0.heap.size≤gy
 files:TXIF w0 w gf F (rowsOf cs)
 taken:TXIJ w0 w gt T tk
 own:∀ c∈cs,Own bv w0.heap.size 5 w (slv c.2.1.2) c.2.2
 ap:∀ c∈cs,∀ d∈cs,c.1≠d.1→Ap (blk (slv c.2.1.2)) (blk (slv d.2.1.2))
section
variable {w0 w w' : World} {gy gf gt : Nat} {F T : List Nat} {cs : CL} {tk : List (Int × Int)}
theorem YC.old (h:YC w0 w gy gf gt F T cs tk):Upd [] w0 w:=h.files.old
theorem YC.upd0 (h:YC w0 w gy gf gt F T cs tk) (hu:Upd [] w w'):YC w0 w' gy gf gt F T cs tk :=
 ⟨h.yard.upd hu (by simp),h.gyb,h.files.upd0 hu,h.taken.upd0 hu,fun c hc=>(h.own c hc).upd hu (by simp),h.ap⟩
theorem YC.gy_F (h:YC w0 w gy gf gt F T cs tk):gy∉F:=fun hx=>by
 obtain ⟨C,f,e,h1,h2⟩:=if_ty h.files gy hx
 have:=ty_one h1 h.yard
 rcases h2 with h2|h2<;>(rw [h2] at this;exact absurd this (by decide))
theorem YC.gy_T (h:YC w0 w gy gf gt F T cs tk):gy∉T:=fun hx=>by
 obtain ⟨C,f,e,h1,h2⟩:=ij_ty h.taken gy hx
 have:=ty_one h1 h.yard
 rcases h2 with h2|h2<;>(rw [h2] at this;exact absurd this (by decide))
theorem gy_own {e:List Value} {base:Nat} {v:Value} {m:List UInt8} (h:Blk w gy 107 e) (k:Own bv base 5 w v m):gy∉blk v:=fun hx=>by
 obtain ⟨C',f',h1'⟩:=k.typ gy hx
 have:=ty_one h1' h
 exact absurd this (by decide)
theorem YC.setFiles (h:YC w0 w gy gf gt F T cs tk) {F':List Nat} {cs':CL} (hf:TXIF w0 w' gf F' (rowsOf cs')) (hu:Upd F w w')
  (hown:∀ c∈cs',Own bv w0.heap.size 5 w (slv c.2.1.2) c.2.2) (hap:∀ c∈cs',∀ d∈cs',c.1≠d.1→Ap (blk (slv c.2.1.2)) (blk (slv d.2.1.2))):YC w0 w' gy gf gt F' T cs' tk :=
 ⟨h.yard.upd hu h.gy_F,h.gyb,hf,h.taken.upd hu (if_ij h.files h.taken).symm (fun x hx=>(h.files.ge x hx).1),fun c hc=>(hown c hc).upd hu (if_own h.files (hown c hc)).symm,hap⟩
theorem YC.setTaken (h:YC w0 w gy gf gt F T cs tk) {T':List Nat} {tk':List (Int×Int)} (ht:TXIJ w0 w' gt T' tk') (hu:Upd T w w'):YC w0 w' gy gf gt F T' cs tk' :=
 ⟨h.yard.upd hu h.gy_T,h.gyb,h.files.upd hu (if_ij h.files h.taken) (fun x hx=>(h.taken.ge x hx).1),ht,fun c hc=>(h.own c hc).upd hu (ij_own h.taken (h.own c hc)).symm,h.ap⟩
end
end Go.Proofs.YthgnlfikneipiaaGreat
namespace Go.Proofs.YthgnlfikneipiaaGreat
open Go.RowKit
theorem nth_rows (cs:CL) (i:Nat) (hi:i < cs.length):nth (rowsOf cs) i=((nth cs i).1,(nth cs i).2.1):=tMap_nth id (·.1) cs i hi
theorem rows_len (cs:CL):(rowsOf cs).length=cs.length:=by simp [rowsOf,tMap]
theorem tAt_rows (cs:CL) (i:Nat) (hi:i < cs.length):tAt (0:Int) zF (rowsOf cs) (i:Int)=((nth cs i).1,(nth cs i).2.1,true):=by
 rw [tAt_at _ _ _ _ (by rw [rows_len];exact hi),nth_rows cs i hi]
section
variable {w0 w : World} {gy gf gt : Nat} {F T : List Nat} {cs : CL} {tk : List (Int × Int)}
set_option maxRecDepth 20000 in
set_option maxHeartbeats 1000000 in
theorem yFind_any (s:ByteArray) (i:Nat) (ino:Int) (nm:ByteArray) (sl:Sl) (h:YC w0 w gy gf gt F T cs tk) (hlen:cs.length≤1000) (hi:i≤cs.length) (hlo:∀ j,j < i→(nth cs j).2.1.1≠s)
  (hat:(i < cs.length∧(nth cs i).2.1.1=s∧ino=(nth cs i).1∧(nm,sl)=(nth cs i).2.1)∨(i=cs.length∧ino=0∧(nm,sl)=zF)) :
  Calls Tryz.prog 37 #[.pointer (some ⟨gy,0,none⟩),sv s] w fun e w'=>e = .returned (.tuple #[iv ino,fv (nm,sl)])∧Upd [] w w':=by
 have HH:=Lib.hid h
 have HLO:=Lib.hid hlo
 have HAT:=Lib.hid hat
 have HLEN:Hid ((rowsOf cs).length≤100000):=by unfold Hid;rw [rows_len];omega
 have HLC:Hid (((rowsOf cs).length:Int)=(cs.length:Int)):=by unfold Hid;rw [rows_len]
 have hu0:=(Upd.refl [] w).alloc (.cells #[.string ⟨#[]⟩,.slice none 0 0] 103)
 have HU0:=Lib.hid hu0
 have hB0:=Blk.new w 103 [.string ⟨#[]⟩,.slice none 0 0]
 have HB0:=Lib.hid hB0
 have y0:=HU0.out.cell (h.yard.cell 0) (by simp)
 clear h hlo hat hu0 hB0
 go_enter Tryz.func37,Tryz.ntmps37
 go_wp2_with fail
 (with_reducible refine (txIF_Len _ ((HH.out.upd0 HU0.out).files) HLC.out).mono ?_)
 rintro e w' ⟨rfl,rfl⟩
 clear y0
 go_wp2_with fail
 go_loopw [6,15] (fun x c wr=>∃ k:Nat,k≤i∧c = .int .i64 k∧Hid (Upd [] w wr)∧Hid (Blk wr w.heap.size 103 [.string ⟨#[]⟩,.slice none 0 0])) (fun _ c _=>cs.length-(intOf c).toNat)
 case atStart=>exact ⟨0,Nat.zero_le _,rfl,HU0,HB0⟩
 case round =>
  obtain ⟨k,hk,rfl,hu,hB⟩:=hrel
  have hsz:w.heap.size < wr.heap.size:=hB.out.lt
  have y1:=hu.out.cell (HH.out.yard.cell 0) (by simp)
  clear HU0 HB0
  by_cases hlt:k < cs.length
  ·have HA:Hid (tAt (0:Int) zF (rowsOf cs) (k:Int)=((nth cs k).1,(nth cs k).2.1,true)):=tAt_rows cs k hlt
   have q0:(0:Int)≤k:=by omega
   have q1:(k:Int) < cs.length:=by omega
   have HI64:Hid (I64 (k:Int)):=⟨by omega,by omega⟩
   by_cases hki:k < i
   ·have hne:=HLO.out k hki
    generalize (nth cs k).1=x at *
    generalize (nth cs k).2.1=v2 at *
    obtain ⟨nm2,sl2⟩:=v2
    have t1:(nm2.toList==s.toList)=false:=by rw [beq_eq_false_iff_ne];exact fun h=>hne (str_inj _ _ h)
    clear hne
    go_wp2_with fail
    (with_reducible refine (txIF_At (k:Int) x (nm2,sl2) true HI64.out ((HH.out.upd0 hu.out).files) HLEN.out HA.out).mono ?_)
    rintro e w2 ⟨rfl,hu2⟩
    have HU2:=Lib.hid (hu.out.seq hu2)
    have HB2:=Lib.hid (hB.out.upd hu2 (by simp))
    have hlt2:w.heap.size < w2.heap.size:=HB2.out.lt
    clear hu2
    go_wp2_with fail
    have HU3:=Lib.hid (HU2.out.alloc (.cells #[sv nm2,slv sl2] 103))
    have HB3:=Lib.hid (HB2.out.upd ((Upd.refl [] w2).alloc (.cells #[sv nm2,slv sl2] 103)) (by simp))
    go_roundw
    case rel=>exact ⟨k+1,by omega,by go_num,HU3,HB3⟩
    case measure=>simp [intOf];omega
   ·obtain rfl:k=i:=by omega
    have hat:(nth cs k).2.1.1=s∧ino=(nth cs k).1∧(nm,sl)=(nth cs k).2.1:=by
     rcases HAT.out with ⟨-,h1,h2,h3⟩|⟨h1,-⟩
     ·exact ⟨h1,h2,h3⟩
     ·omega
    obtain ⟨ha1,ha2,ha3⟩:=hat
    rw [← ha2,← ha3] at HA
    have hns:nm=s:=by rw [← ha3] at ha1;exact ha1
    have t1:(nm.toList==s.toList)=true:=by rw [hns];simp
    clear ha1 ha2 ha3 hns HAT HLO
    go_wp2_with fail
    (with_reducible refine (txIF_At (k:Int) ino (nm,sl) true HI64.out ((HH.out.upd0 hu.out).files) HLEN.out HA.out).mono ?_)
    rintro e w2 ⟨rfl,hu2⟩
    have HU2:=Lib.hid (hu.out.seq hu2)
    have HB2:=Lib.hid (hB.out.upd hu2 (by simp))
    have hlt2:w.heap.size < w2.heap.size:=HB2.out.lt
    clear hu2
    go_wp2_with fail
    have HU3:=Lib.hid (HU2.out.alloc (.cells #[sv nm,slv sl] 103))
    have hB3:=(HB2.out.upd ((Upd.refl [] w2).alloc (.cells #[sv nm,slv sl] 103)) (by simp))
    have hR:=Blk.new w2 103 [sv nm,slv sl]
    change Blk (w2.alloc (.cells #[sv nm,slv sl] 103)) _ _ _ at hR
    generalize w2.alloc (.cells #[sv nm,slv sl] 103)=v at *
    have d0:=hB3.cell 0
    have d1:=hB3.cell 1
    have f0:=hB3.frozen 0
    have f1:=hB3.frozen 1
    have r0:=hR.cell 0
    have r1:=hR.cell 1
    simp only [List.getElem?_cons_zero,List.getElem?_cons_succ] at d0 d1 r0 r1
    have HB4:Hid (Blk ((v.setCell ⟨w.heap.size,0,none⟩ (sv nm)).setCell ⟨w.heap.size,1,none⟩ (slv sl)).drew w.heap.size 103 [sv nm,slv sl]):=blk_two hB3 _ _
    have HU4:Hid (Upd [] w ((v.setCell ⟨w.heap.size,0,none⟩ (sv nm)).setCell ⟨w.heap.size,1,none⟩ (slv sl)).drew) :=
     ((HU3.out.setCell _ _ (.inr (Nat.le_refl _))).setCell _ _ (.inr (Nat.le_refl _))).drew
    clear hB3 hR
    go_region
    all_goals (go_wp2_with fail)
    all_goals
     have e0:=HB4.out.cell 0
     have e1:=HB4.out.cell 1
     have hU:=HU4.out
     clear HB4 HU4
     generalize World.drew _=W at *
     exact bodyPost_ret (v := .tuple #[iv ino,fv (nm,sl)]) (by simp [results,Tryz.results37,go_sem,e0,e1];try rfl) rfl ⟨rfl,hU⟩
  ·obtain rfl:k=cs.length:=by omega
   have hat:ino=0∧(nm,sl)=zF:=by
    rcases HAT.out with ⟨h1,-⟩|⟨-,h2,h3⟩
    ·omega
    ·exact ⟨h2,h3⟩
   obtain ⟨rfl,hz⟩:=hat
   injection hz with hz1 hz2
   subst hz1;subst hz2
   have hB1:=hB.out
   have d0:=hB1.cell 0
   have d1:=hB1.cell 1
   have f0:=hB1.frozen 0
   have f1:=hB1.frozen 1
   have HB4:=Lib.hid (blk_two hB1 (.string ⟨#[]⟩) (.slice none 0 0))
   have HU4:Hid (Upd [] w ((wr.setCell ⟨w.heap.size,0,none⟩ (.string ⟨#[]⟩)).setCell ⟨w.heap.size,1,none⟩ (.slice none 0 0))) :=
    (hu.out.setCell _ _ (.inr (Nat.le_refl _))).setCell _ _ (.inr (Nat.le_refl _))
   clear hB1 HAT
   go_wp2_with fail
   have e0:=HB4.out.cell 0
   have e1:=HB4.out.cell 1
   have hU:=HU4.out
   clear HB4 HU4
   generalize World.setCell _ _ _=W at *
   exact bodyPost_ret (v := .tuple #[iv 0,fv zF]) (by simp [results,Tryz.results37,go_sem,e0,e1];try rfl) rfl ⟨rfl,hU⟩
end
end Go.Proofs.YthgnlfikneipiaaGreat
namespace Go.Proofs.YthgnlfikneipiaaGreat
open Go.RowKit
def findN (fl:FL) (s:ByteArray):Nat:=(fl.takeWhile fun p=>decide (p.2.1≠s)).length
def hasN (fl:FL) (s:ByteArray):Bool:=decide (findN fl s < fl.length)
theorem findN_le:∀ (fl:FL) (s:ByteArray),findN fl s≤fl.length
 | [],s=>by simp [findN]
 | p::l,s=>by
  have:=findN_le l s
  unfold findN at this ⊢
  rw [List.takeWhile_cons]
  split<;>simp
  simpa using this
theorem findN_lt:∀ (fl:FL) (s:ByteArray) (j:Nat),j < findN fl s→(nth fl j).2.1≠s
 | [],s,j,h=>by simp [findN] at h
 | p::l,s,j,h=>by
  unfold findN at h
  rw [List.takeWhile_cons] at h
  split at h
  ·rename_i hp
   cases j with
   | zero=>rw [nth_cons_zero];simpa using hp
   | succ j=>rw [nth_cons_succ];exact findN_lt l s j (by simpa [findN] using h)
  ·simp at h
theorem findN_at:∀ (fl:FL) (s:ByteArray),findN fl s < fl.length→(nth fl (findN fl s)).2.1=s
 | [],s,h=>by simp at h
 | p::l,s,h=>by
  by_cases hp:p.2.1=s
  ·have:findN (p::l) s=0:=by unfold findN;rw [List.takeWhile_cons];simp [hp]
   rw [this,nth_cons_zero];exact hp
  ·have e:findN (p::l) s=findN l s+1:=by unfold findN;rw [List.takeWhile_cons];simp [hp]
   rw [e,nth_cons_succ]
   exact findN_at l s (by rw [e] at h;simpa using h)
def freeIno {ν:Type} [Inhabited ν] (l:List (Int×ν)):Int:=((((List.range' 0 (l.length+1)).takeWhile fun k:Nat=>isIn ltY l ((k:Int)+1)).length:Nat):Int)+1
theorem tw_range (p:Nat→Bool):∀ (n s:Nat),(∀ j,j < ((List.range' s n).takeWhile p).length→p (s+j)=true)∧(((List.range' s n).takeWhile p).length < n→p (s+((List.range' s n).takeWhile p).length)=false)∧((List.range' s n).takeWhile p).length≤n
 | 0,s=>⟨fun j h=>by simp at h,fun h=>absurd h (by omega),by simp⟩
 | n+1,s=>by
  obtain ⟨h1,h2,h3⟩:=tw_range p n (s+1)
  rw [List.range'_succ,List.takeWhile_cons]
  cases hp:p s with
  | false=>simp [hp]
  | true =>
   rw [if_pos rfl,List.length_cons]
   refine ⟨fun j hj=>?_,fun hk=>?_,by omega⟩
   ·cases j with
    | zero=>rw [Nat.add_zero];exact hp
    | succ j=>rw [show s+(j+1)=s+1+j by omega];exact h1 j (by omega)
   ·rw [← Nat.add_assoc,Nat.add_right_comm];exact h2 (by omega)
theorem below_many {ν:Type} [Inhabited ν] {l:List (Int×ν)} (h:Rising ltY l):∀ k:Nat,(∀ j:Nat,j < k→isIn ltY l ((j:Int)+1)=true)→k≤below ltY l ((k:Int)+1)
 | 0,_=>Nat.zero_le _
 | k+1,hj=>by
  have ih:=below_many h k (fun j h=>hj j (by omega))
  have hin:=hj k (by omega)
  unfold isIn at hin
  obtain ⟨a1,a2⟩:=of_decide_eq_true hin
  have hl:=lt_below (lt:=ltY) intOrd h (((k+1:Nat):Int)+1) _ a1
  rw [a2] at hl
  have:ltY ((k:Int)+1) (((k+1:Nat):Int)+1)=true:=by simp [ltY];omega
  rw [this] at hl
  have:=of_decide_eq_true hl.symm
  omega
theorem many_le {ν:Type} [Inhabited ν] {l:List (Int×ν)} (h:Rising ltY l) (k:Nat) (hj:∀ j:Nat,j < k→isIn ltY l ((j:Int)+1)=true):k≤l.length :=
 Nat.le_trans (below_many h k hj) (below_le l _)
theorem freeIno_spec {ν:Type} [Inhabited ν] {l:List (Int×ν)} (h:Rising ltY l):∃ k:Nat,k≤l.length∧freeIno l=(k:Int)+1∧isIn ltY l ((k:Int)+1)=false∧∀ j:Nat,j < k→isIn ltY l ((j:Int)+1)=true:=by
 obtain ⟨h1,h2,h3⟩:=tw_range (fun k:Nat=>isIn ltY l ((k:Int)+1)) (l.length+1) 0
 have hle:=many_le h _ (fun j hj=>by have:=h1 j hj;rwa [Nat.zero_add] at this)
 refine ⟨_,hle,rfl,?_,fun j hj=>by have:=h1 j hj;rwa [Nat.zero_add] at this⟩
 have:=h2 (by omega)
 rwa [Nat.zero_add] at this
theorem freeIno_eq {ν:Type} [Inhabited ν] {l:List (Int×ν)} (h:Rising ltY l) (k:Nat) (h1:∀ j:Nat,j < k→isIn ltY l ((j:Int)+1)=true) (h2:isIn ltY l ((k:Int)+1)=false):freeIno l=(k:Int)+1:=by
 obtain ⟨m,-,e,m2,m3⟩:=freeIno_spec h
 rcases Nat.lt_trichotomy m k with q|q|q
 ·rw [h1 m q] at m2;exact absurd m2 (by simp)
 ·rw [e,q]
 ·rw [m3 k q] at h2;exact absurd h2 (by simp)
def yCreate (fl:FL) (s:ByteArray):Int×FL :=
 if nameOk s then (if hasN fl s then (8,fl) else if 12≤fl.length then (9,fl) else (0,tSet ltY fl (freeIno fl) (s,[]))) else (14,fl)
def inoN (fl:FL) (s:ByteArray):Int:=(nth fl (findN fl s)).1
def bytesN (fl:FL) (s:ByteArray):List UInt8:=(nth fl (findN fl s)).2.2
def yAppend (fl:FL) (s:ByteArray) (p:List UInt8):Int×FL :=
 if hasN fl s then (if 65536 < (bytesN fl s).length+p.length then (9,fl) else (0,tSet ltY fl (inoN fl s) (s,bytesN fl s++p))) else (7,fl)
end Go.Proofs.YthgnlfikneipiaaGreat
namespace Go.Proofs.YthgnlfikneipiaaGreat
open Go.RowKit
theorem mem_take_nth {α:Type} [Inhabited α] {l:List α} {n:Nat} {p:α} (h:p∈l.take n):∃ i,i < n∧i < l.length∧nth l i=p:=by
 obtain ⟨i,hi,rfl⟩:=List.mem_iff_getElem.1 h
 rw [List.length_take] at hi
 exact ⟨i,by omega,by omega,by rw [nth_get l i (by omega)];simp⟩
theorem mem_drop_nth {α:Type} [Inhabited α] {l:List α} {n:Nat} {p:α} (h:p∈l.drop n):∃ i,n≤i∧i < l.length∧nth l i=p:=by
 obtain ⟨i,hi,rfl⟩:=List.mem_iff_getElem.1 h
 rw [List.length_drop] at hi
 exact ⟨n+i,by omega,by omega,by rw [nth_get l _ (by omega)];simp⟩
section
variable {ν : Type} [Inhabited ν]
theorem ltY_irr (a b:Int) (h:ltY a b=true):a≠b:=by simp [ltY] at h;omega
theorem tSet_memk {l:List (Int×ν)} (h:Rising ltY l) (k:Int) (v:ν) (p:Int×ν) (hp:p∈tSet ltY l k v):p=(k,v)∨(p∈l∧p.1≠k):=by
 unfold tSet at hp
 rcases List.mem_append.1 hp with hp|hp
 ·obtain ⟨i,hi,hl,rfl⟩:=mem_take_nth hp
  exact .inr ⟨nth_mem i hl,ltY_irr _ _ (below_lt l k i hi)⟩
 ·rcases List.mem_cons.1 hp with hp|hp
  ·exact .inl hp
  ·obtain ⟨i,hi,hl,rfl⟩:=mem_drop_nth hp
   exact .inr ⟨nth_mem i hl,(ltY_irr _ _ (above intOrd h k i hi hl)).symm⟩
variable {μ : Type} [Inhabited μ] (f : ν → μ)
theorem mapY_isIn (l:List (Int×ν)) (k:Int):isIn ltY (tMap id f l) k=isIn ltY l k:=tMap_isIn (lt:=ltY) (lt':=ltY) id f (fun _=>True) (fun _ _ _ _=>rfl) (fun _ _ _ _ h=>h) l (fun _ _=>trivial) k trivial
theorem mapY_below (l:List (Int×ν)) (k:Int):below ltY (tMap id f l) k=below ltY l k:=tMap_below (lt:=ltY) (lt':=ltY) id f (fun _=>True) (fun _ _ _ _=>rfl) l (fun _ _=>trivial) k trivial
theorem mapY_set (l:List (Int×ν)) (k:Int) (v:ν):tSet ltY (tMap id f l) k (f v)=tMap id f (tSet ltY l k v):=tMap_set (lt:=ltY) (lt':=ltY) id f (fun _=>True) (fun _ _ _ _=>rfl) (fun _ _ _ _ h=>h) l (fun _ _=>trivial) k trivial v
theorem mapY_rising {l:List (Int×ν)} (h:Rising ltY (tMap id f l)):Rising ltY l:=fun i j hij hj=>by
 have hl:(tMap id f l).length=l.length:=by simp [tMap]
 have:=h i j hij (by rw [hl];exact hj)
 rwa [tMap_nth id f l i (by omega),tMap_nth id f l j hj] at this
theorem mapY_rising' {l:List (Int×ν)} (h:Rising ltY l):Rising ltY (tMap id f l):=fun i j hij hj=>by
 have hl:(tMap id f l).length=l.length:=by simp [tMap]
 rw [tMap_nth id f l i (by omega),tMap_nth id f l j (by omega)]
 exact h i j hij (by omega)
theorem mapY_free {l:List (Int×ν)}:freeIno (tMap id f l)=freeIno l:=by
 unfold freeIno
 simp only [mapY_isIn]
 have hl:(tMap id f l).length=l.length:=by simp [tMap]
 rw [hl]
end
theorem own_nil (base:Nat) (e:TypeId) (w:World):Own bv base e w (slv ⟨none,0,0⟩) []:=World.ownsRow_nil _ _ _ _
theorem ap_none (G:List Nat):Ap (blk (slv ⟨none,0,0⟩)) G:=Ap.nil
theorem files_len (cs:CL):(filesOf cs).length=cs.length:=by simp [filesOf,tMap]
theorem nth_files (cs:CL) (i:Nat) (hi:i < cs.length):nth (filesOf cs) i=((nth cs i).1,(nth cs i).2.1.1,(nth cs i).2.2):=tMap_nth id (fun v:(ByteArray×Sl)×List UInt8=>(v.1.1,v.2)) cs i hi
section
variable {w0 w : World} {gy gf gt : Nat} {F T : List Nat} {cs : CL} {tk : List (Int × Int)}
theorem YC.p0 (h:YC w0 w gy gf gt F T cs tk):w.cell? ⟨gy,0,none⟩=some (.pointer (some ⟨gf,0,none⟩)):=h.yard.cell 0
theorem YC.p1 (h:YC w0 w gy gf gt F T cs tk):w.cell? ⟨gy,1,none⟩=some (.pointer (some ⟨gt,0,none⟩)):=h.yard.cell 1
theorem YC.ris (h:YC w0 w gy gf gt F T cs tk):Rising ltY cs:=mapY_rising (·.1) h.files.ris
theorem yFind_no (s:ByteArray) (h:YC w0 w gy gf gt F T cs tk) (hlen:cs.length≤1000) (hn:hasN (filesOf cs) s=false) :
  Calls Tryz.prog 37 #[.pointer (some ⟨gy,0,none⟩),sv s] w fun e w'=>e = .returned (.tuple #[iv 0,fv zF])∧Upd [] w w':=by
 have hle:=findN_le (filesOf cs) s
 unfold hasN at hn
 have hn:=of_decide_eq_false hn
 rw [files_len] at hle hn
 exact yFind_any s cs.length 0 _ _ h hlen (Nat.le_refl _) (fun j hj=>by
  have:=findN_lt (filesOf cs) s j (by omega)
  rwa [nth_files cs j hj] at this) (.inr ⟨rfl,rfl,rfl⟩)
theorem yFind_yes (s:ByteArray) (i:Nat) (h:YC w0 w gy gf gt F T cs tk) (hlen:cs.length≤1000) (hn:hasN (filesOf cs) s=true) (hi:findN (filesOf cs) s=i) :
  Calls Tryz.prog 37 #[.pointer (some ⟨gy,0,none⟩),sv s] w fun e w'=>e = .returned (.tuple #[iv (nth cs i).1,fv (nth cs i).2.1])∧Upd [] w w':=by
 subst hi
 unfold hasN at hn
 have hn:=of_decide_eq_true hn
 have hat:=findN_at (filesOf cs) s hn
 have hlo:=fun j hj=>findN_lt (filesOf cs) s j hj
 rw [files_len] at hn
 rw [nth_files cs _ hn] at hat
 exact yFind_any s _ _ _ _ h hlen (Nat.le_of_lt hn) (fun j hj=>by
  have:=hlo j hj
  rwa [nth_files cs j (by omega)] at this) (.inl ⟨hn,hat,rfl,rfl⟩)
theorem YC.set (h:YC w0 w gy gf gt F T cs tk) (hlen:cs.length≤1000) (k:Int) (hk:I64 k) (nm:ByteArray) (sl:Sl) (p:List UInt8) (ho:Own bv w0.heap.size 5 w (slv sl) p) (hap:∀ d∈cs,d.1≠k→Ap (blk (slv sl)) (blk (slv d.2.1.2))) :
  Calls Tryz.prog 40 #[.pointer (some ⟨gf,0,none⟩),iv k,fv (nm,sl)] w fun e w'=>(∃ r,e = .returned (.bool r))∧(∃ F',YC w0 w' gy gf gt F' T (tSet ltY cs k ((nm,sl),p)) tk∧Upd F w w'∧(∀ x∈F',x∈F∨w.heap.size≤x)):=by
 refine (txIF_Set k (nm,sl) _ _ h.files (by rw [rows_len];omega) hk rfl rfl).mono ?_
 rintro e w' ⟨rfl,F',hf,hu,hfr⟩
 have hrow:tSet ltIF (rowsOf cs) k (nm,sl)=rowsOf (tSet ltY cs k ((nm,sl),p)):=mapY_set (·.1) cs k ((nm,sl),p)
 rw [hrow] at hf
 refine ⟨⟨_,rfl⟩,F',h.setFiles hf hu ?_ ?_,hu,hfr⟩
 ·intro c hc
  rcases tSet_memk h.ris k _ c hc with rfl|⟨q,-⟩
  ·exact ho
  ·exact h.own c q
 ·intro c hc d hd hne
  rcases tSet_memk h.ris k _ c hc with rfl|⟨q,qk⟩<;>rcases tSet_memk h.ris k _ d hd with rfl|⟨r,rk⟩
  ·exact absurd rfl hne
  ·exact hap d r rk
  ·exact (hap c q qk).symm
  ·exact h.ap c q d r hne
end
def foot (gy:Nat) (F T:List Nat) (cs:CL):List Nat:=gy::(F++T++cs.flatMap fun c=>blk (slv c.2.1.2))
theorem foot_mem (gy:Nat) (F T:List Nat) (cs:CL) (x:Nat):x∈foot gy F T cs↔x=gy∨x∈F∨x∈T∨∃ c∈cs,x∈blk (slv c.2.1.2):=by
 unfold foot
 simp only [List.mem_cons,List.mem_append,List.mem_flatMap]
 constructor
 ·rintro (h|(h|h)|h)
  ·exact .inl h
  ·exact .inr (.inl h)
  ·exact .inr (.inr (.inl h))
  ·exact .inr (.inr (.inr h))
 ·rintro (h|h|h|h)
  ·exact .inl h
  ·exact .inr (.inl (.inl h))
  ·exact .inr (.inl (.inr h))
  ·exact .inr (.inr h)
theorem YC.ge {w0 w:World} {gy gf gt:Nat} {F T:List Nat} {cs:CL} {tk:List (Int×Int)} (h:YC w0 w gy gf gt F T cs tk):∀ x∈foot gy F T cs,w0.heap.size≤x∧x < w.heap.size:=by
 intro x hx
 rcases (foot_mem gy F T cs x).1 hx with rfl|hx|hx|⟨c,hc,hx⟩
 ·exact ⟨h.gyb,h.yard.lt⟩
 ·exact h.files.ge x hx
 ·exact h.taken.ge x hx
 ·exact (h.own c hc).ge x hx
structure YD (w0 w:World) (gy:Nat) (G:List Nat) (fl:FL) (tk:List (Int×Int)):Prop where
 ex:∃ gf gt F T cs,YC w0 w gy gf gt F T cs tk∧filesOf cs=fl∧cs.length≤12∧(∀ c∈cs,1≤c.1∧c.1≤12∧c.2.2.length≤65536)∧G=foot gy F T cs
def YOut (w0 w:World) (gy:Nat) (G:List Nat) (fl':FL) (tk':List (Int×Int)) (w':World):Prop:=∃ G',YD w0 w' gy G' fl' tk'∧Upd G w w'∧(∀ x∈G',x∈G∨w.heap.size≤x)
section
variable {w0 w w' : World} {gy : Nat} {G : List Nat} {fl : FL} {tk : List (Int × Int)}
theorem YD.ge (h:YD w0 w gy G fl tk):∀ x∈G,w0.heap.size≤x∧x < w.heap.size:=by
 obtain ⟨gf,gt,F,T,cs,hc,-,-,-,rfl⟩:=h.ex
 exact hc.ge
theorem YD.ris (h:YD w0 w gy G fl tk):Rising ltY fl∧fl.length≤12∧(∀ p∈fl,1≤p.1∧p.1≤12∧p.2.2.length≤65536):=by
 obtain ⟨gf,gt,F,T,cs,hc,rfl,hl,hin,-⟩:=h.ex
 refine ⟨mapY_rising' _ hc.ris,by rw [files_len];exact hl,fun p hp=>?_⟩
 unfold filesOf tMap at hp
 obtain ⟨c,hcm,rfl⟩:=List.mem_map.1 hp
 exact hin c hcm
theorem YC.upd {gf gt:Nat} {F T:List Nat} {cs:CL} (h:YC w0 w gy gf gt F T cs tk) {S:List Nat} (hu:Upd S w w') (hs:∀ x∈foot gy F T cs,x∉S) (hS:∀ x∈S,w0.heap.size≤x):YC w0 w' gy gf gt F T cs tk :=
 ⟨h.yard.upd hu (hs gy ((foot_mem _ _ _ _ _).2 (.inl rfl))),h.gyb,h.files.upd hu (fun x hx=>hs x ((foot_mem _ _ _ _ _).2 (.inr (.inl hx)))) hS,h.taken.upd hu (fun x hx=>hs x ((foot_mem _ _ _ _ _).2 (.inr (.inr (.inl hx))))) hS,fun c hc=>(h.own c hc).upd hu (fun x hx=>hs x ((foot_mem _ _ _ _ _).2 (.inr (.inr (.inr ⟨c,hc,hx⟩))))),h.ap⟩
theorem YD.upd (h:YD w0 w gy G fl tk) {S:List Nat} (hu:Upd S w w') (hs:∀ x∈G,x∉S) (hS:∀ x∈S,w0.heap.size≤x):YD w0 w' gy G fl tk:=by
 obtain ⟨gf,gt,F,T,cs,hc,h1,h2,h3,rfl⟩:=h.ex
 exact ⟨gf,gt,F,T,cs,hc.upd hu hs hS,h1,h2,h3,rfl⟩
theorem YD.upd0 (h:YD w0 w gy G fl tk) (hu:Upd [] w w'):YD w0 w' gy G fl tk:=h.upd hu (by simp) (by simp)
theorem YD.out0 (h:YD w0 w gy G fl tk) (hu:Upd [] w w'):YOut w0 w gy G fl tk w':=⟨G,h.upd0 hu,hu.mono (by simp),fun x hx => .inl hx⟩
theorem YOut.of {gf' gt':Nat} {F T F' T':List Nat} {cs cs':CL} {fl':FL} {tk':List (Int×Int)} (h':YC w0 w' gy gf' gt' F' T' cs' tk') (hfl:filesOf cs'=fl') (hl:cs'.length≤12) (hin:∀ c∈cs',1≤c.1∧c.1≤12∧c.2.2.length≤65536)
  (hu:Upd (foot gy F T cs) w w') (hF:∀ x∈F',x∈foot gy F T cs∨w.heap.size≤x) (hT:∀ x∈T',x∈foot gy F T cs∨w.heap.size≤x) (hcs:∀ c∈cs',∀ x∈blk (slv c.2.1.2),x∈foot gy F T cs∨w.heap.size≤x):YOut w0 w gy (foot gy F T cs) fl' tk' w':=by
 refine ⟨foot gy F' T' cs',⟨gf',gt',F',T',cs',h',hfl,hl,hin,rfl⟩,hu,fun x hx=>?_⟩
 rcases (foot_mem _ _ _ _ _).1 hx with rfl|hx|hx|⟨c,hc,hx⟩
 ·exact .inl ((foot_mem _ _ _ _ _).2 (.inl rfl))
 ·exact hF x hx
 ·exact hT x hx
 ·exact hcs c hc x hx
theorem foot_F {gy:Nat} {F T:List Nat} {cs:CL} {x:Nat} (h:x∈F):x∈foot gy F T cs:=(foot_mem _ _ _ _ _).2 (.inr (.inl h))
theorem foot_T {gy:Nat} {F T:List Nat} {cs:CL} {x:Nat} (h:x∈T):x∈foot gy F T cs:=(foot_mem _ _ _ _ _).2 (.inr (.inr (.inl h)))
theorem foot_c {gy:Nat} {F T:List Nat} {cs:CL} {x:Nat} {c:Int×(ByteArray×Sl)×List UInt8} (hc:c∈cs) (h:x∈blk (slv c.2.1.2)):x∈foot gy F T cs:=(foot_mem _ _ _ _ _).2 (.inr (.inr (.inr ⟨c,hc,h⟩)))
end
end Go.Proofs.YthgnlfikneipiaaGreat
namespace Go.Proofs.YthgnlfikneipiaaGreat
open Go.RowKit
theorem yNew_any (w0 w:World) (hu:Upd [] w0 w) :
  Calls Tryz.prog 16 #[] w fun e w'=>∃ gy,e = .returned (.pointer (some ⟨gy,0,none⟩))∧(∃ G,YD w0 w' gy G [] []∧(∀ x∈G,w.heap.size≤x))∧Upd [] w w':=by
 have HU:=Lib.hid hu
 go_enter Tryz.func16,Tryz.ntmps16
 go_wp2_with fail
 (with_reducible refine (txIF_New w0 _ HU.out).mono ?_)
 rintro e w1 ⟨gf,F,rfl,hf,hu1,hF⟩
 have HF:=Lib.hid hf
 have HFR:=Lib.hid hF
 have HUa:=Lib.hid hu1
 have HU1:=Lib.hid (HU.out.seq hu1)
 clear hf hu1 hF
 go_wp2_with fail
 (with_reducible refine (txIJ_New w0 _ HU1.out).mono ?_)
 rintro e w2 ⟨gt,T,rfl,ht,hu2,hT⟩
 have HT:=Lib.hid ht
 have HTR:=Lib.hid hT
 have HUb:=Lib.hid (HUa.out.seq hu2)
 have HF2:=Lib.hid (HF.out.upd0 hu2)
 have hsz:=(HU1.out.seq hu2).size
 clear ht hu2 hT
 go_wp2_with fail
 go_ret
 have hua:=(Upd.refl [] w2).alloc (.cells #[.pointer (some ⟨gf,0,none⟩),.pointer (some ⟨gt,0,none⟩)] 107)
 refine ⟨_,rfl,⟨_,⟨gf,gt,F,T,[],⟨Blk.new w2 _ [_,_],hsz,HF2.out.upd0 hua,HT.out.upd0 hua,by simp,by simp⟩,rfl,by simp,by simp,rfl⟩,fun x hx=>?_⟩,HUb.out.seq hua⟩
 have h1:=HUa.out.size
 have h2:=HUb.out.size
 rcases (foot_mem _ _ _ _ _).1 hx with rfl|hx|hx|⟨c,hc,hx⟩
 ·exact h2
 ·exact HFR.out x hx
 ·have:=HTR.out x hx;omega
 ·simp at hc
section
variable {w0 w : World} {gy : Nat} {G : List Nat} {fl : FL} {tk : List (Int × Int)}
def YDoes (w0 w:World) (gy:Nat) (G:List Nat) (tk:List (Int×Int)) (r:Int×FL) (e:Ending) (w':World):Prop:=e = .returned (.int .i64 r.1)∧YOut w0 w gy G r.2 tk w'
set_option maxRecDepth 20000 in
set_option maxHeartbeats 1000000 in
theorem yCreate_any (s:ByteArray) (h:YD w0 w gy G fl tk) :
  Calls Tryz.prog 21 #[.pointer (some ⟨gy,0,none⟩),sv s] w (YDoes w0 w gy G tk (yCreate fl s)):=by
 obtain ⟨gf,gt,F,T,cs,hc,rfl,hlen,hin,rfl⟩:=h.ex
 have HC:=Lib.hid hc
 have hlen1:cs.length≤1000:=by omega
 have HIN:=Lib.hid hin
 have HLC:Hid (((rowsOf cs).length:Int)=(cs.length:Int)):=by unfold Hid;rw [rows_len]
 have HD:=Lib.hid h
 clear hc h hin
 cases hn:nameOk s with
 | false =>
  have HY:Hid (yCreate (filesOf cs) s=(14,filesOf cs)):=by unfold Hid yCreate;rw [hn];rfl
  have HN:=Lib.hid (named_any w s)
  rw [hn] at HN
  go_enter Tryz.func21,Tryz.ntmps21
  go_wp2_with fail
  (with_reducible refine HN.out.mono ?_)
  rintro e w' ⟨rfl,rfl⟩
  go_wp2_with fail
  go_ret
  exact ⟨by rw [HY.out];rfl,by rw [HY.out];exact HD.out.out0 (Upd.refl _ _)⟩
 | true =>
  have HN:=Lib.hid (named_any w s)
  rw [hn] at HN
  cases hh:hasN (filesOf cs) s with
  | true =>
   have HY:Hid (yCreate (filesOf cs) s=(8,filesOf cs)):=by unfold Hid yCreate;rw [hn,hh];rfl
   have HF:=Lib.hid (yFind_yes s _ HC.out hlen1 hh rfl)
   unfold hasN at hh
   have hlt:=of_decide_eq_true hh
   rw [files_len] at hlt
   have hpos:=(HIN.out _ (by have:=nth_mem (l:=cs) _ hlt;exact this)).1
   generalize (nth cs (findN (filesOf cs) s)).2.1=v at *
   generalize (nth cs (findN (filesOf cs) s)).1=x at *
   have hpos':(0:Int) < x:=by omega
   obtain ⟨nm,sl⟩:=v
   clear hh hlt hn
   go_enter Tryz.func21,Tryz.ntmps21
   go_wp2_with fail
   (with_reducible refine HN.out.mono ?_)
   rintro e w' ⟨rfl,rfl⟩
   go_wp2_with fail
   (with_reducible refine HF.out.mono ?_)
   rintro e w1 ⟨rfl,hu1⟩
   have HU1:=Lib.hid hu1
   clear hu1
   go_wp2_with fail
   go_ret
   exact ⟨by rw [HY.out];rfl,by rw [HY.out];exact HD.out.out0 (HU1.out.alloc _)⟩
  | false =>
   have HF:=Lib.hid (yFind_no s HC.out hlen1 hh)
   by_cases hfull:12≤cs.length
   ·have HY:Hid (yCreate (filesOf cs) s=(9,filesOf cs)):=by unfold Hid yCreate;rw [hn,hh,files_len];simp [hfull]
    have q:(12:Int)≤cs.length:=by omega
    clear hh hn
    go_enter Tryz.func21,Tryz.ntmps21
    go_wp2_with fail
    (with_reducible refine HN.out.mono ?_)
    rintro e w' ⟨rfl,rfl⟩
    go_wp2_with fail
    (with_reducible refine HF.out.mono ?_)
    rintro e w1 ⟨rfl,hu1⟩
    have HU1:=Lib.hid (hu1.alloc (.cells #[.string ⟨#[]⟩,.slice none 0 0] 103))
    have y0:=(HC.out.upd0 HU1.out).p0
    clear hu1
    go_wp2_with fail
    (with_reducible refine (txIF_Len _ ((HC.out.upd0 HU1.out).files) HLC.out).mono ?_)
    rintro e w' ⟨rfl,rfl⟩
    go_wp2_with fail
    go_ret
    exact ⟨by rw [HY.out];rfl,by rw [HY.out];exact HD.out.out0 HU1.out⟩
   ·have q:¬ (12:Int)≤cs.length:=by omega
    have HY:Hid (yCreate (filesOf cs) s=(0,tSet ltY (filesOf cs) (freeIno (filesOf cs)) (s,[]))):=by unfold Hid yCreate;rw [hn,hh,files_len];simp [hfull]
    clear hh hn
    go_enter Tryz.func21,Tryz.ntmps21
    go_wp2_with fail
    (with_reducible refine HN.out.mono ?_)
    rintro e w' ⟨rfl,rfl⟩
    go_wp2_with fail
    (with_reducible refine HF.out.mono ?_)
    rintro e w1 ⟨rfl,hu1⟩
    have HU1:=Lib.hid (hu1.alloc (.cells #[.string ⟨#[]⟩,.slice none 0 0] 103))
    have y0:=(HC.out.upd0 HU1.out).p0
    clear hu1
    go_wp2_with fail
    (with_reducible refine (txIF_Len _ ((HC.out.upd0 HU1.out).files) HLC.out).mono ?_)
    rintro e w' ⟨rfl,rfl⟩
    go_wp2_with fail
    clear y0
    go_loopw [7] (fun x wr=>∃ k:Nat,x = .int .i64 ((k:Int)+1)∧Hid (∀ j:Nat,j < k→isIn ltY cs ((j:Int)+1)=true)∧Hid (Upd [] w wr)) (fun x _=>cs.length+2-(intOf x).toNat)
    case atStart=>exact ⟨0,rfl,fun j hj=>absurd hj (by omega),HU1⟩
    case round =>
     clear HU1
     obtain ⟨k,rfl,hall,hu⟩:=hrel
     have hkl:=many_le HC.out.ris k hall.out
     have y1:=(HC.out.upd0 hu.out).p0
     have HK:Hid (I64 ((k:Int)+1)):=⟨by omega,by omega⟩
     have HRL:Hid ((rowsOf cs).length≤100000):=by unfold Hid;rw [rows_len];omega
     cases hin:isIn ltY cs ((k:Int)+1) with
     | true =>
      have HG:Hid (∃ v,tGet ltIF zF (rowsOf cs) ((k:Int)+1)=(v,true)):=by
       refine ⟨(nth (rowsOf cs) (below ltIF (rowsOf cs) ((k:Int)+1))).2,?_⟩
       unfold tGet
       have:isIn ltIF (rowsOf cs) ((k:Int)+1)=true:=(mapY_isIn (·.1) cs ((k:Int)+1)).trans hin
       rw [this];rfl
      obtain ⟨⟨nm,sl⟩,hv⟩:=HG.out
      have HV:=Lib.hid hv
      have HALL:Hid (∀ j:Nat,j < k+1→isIn ltY cs ((j:Int)+1)=true):=fun j hj=>by
       rcases Nat.lt_or_eq_of_le (Nat.le_of_lt_succ hj) with h|h
       ·exact hall.out j h
       ·rw [h];exact hin
      have hkl2:=many_le HC.out.ris (k+1) HALL.out
      clear hv hin
      go_wp2_with fail
      (with_reducible refine (txIF_Get ((k:Int)+1) (nm,sl) true ((HC.out.upd0 hu.out).files) HRL.out HK.out HV.out).mono ?_)
      rintro e w2 ⟨rfl,hu2⟩
      have HU2:=Lib.hid (hu.out.seq hu2)
      clear hu2 y1
      go_wp2_with fail
      go_roundw
      case rel=>exact ⟨k+1,by go_num,HALL,HU2.out.alloc _⟩
      case measure=>simp [intOf];omega
     | false =>
      have HV:Hid (tGet ltIF zF (rowsOf cs) ((k:Int)+1)=(zF,false)):=by
       unfold Hid tGet
       have:isIn ltIF (rowsOf cs) ((k:Int)+1)=false:=(mapY_isIn (·.1) cs ((k:Int)+1)).trans hin
       rw [this];rfl
      have hfr:=freeIno_eq HC.out.ris k hall.out hin
      have HFL:Hid (tSet ltY (filesOf cs) (freeIno (filesOf cs)) (s,[])=filesOf (tSet ltY cs ((k:Int)+1) ((s,⟨none,0,0⟩),[]))):=by
       unfold Hid
       rw [mapY_free,hfr]
       exact mapY_set (fun v:(ByteArray×Sl)×List UInt8=>(v.1.1,v.2)) cs ((k:Int)+1) ((s,⟨none,0,0⟩),[])
      clear hin hfr
      go_wp2_with fail
      (with_reducible refine (txIF_Get ((k:Int)+1) zF false ((HC.out.upd0 hu.out).files) HRL.out HK.out HV.out).mono ?_)
      rintro e w2 ⟨rfl,hu2⟩
      have HU2:=Lib.hid ((hu.out.seq hu2).alloc (.cells #[.string ⟨#[]⟩,.slice none 0 0] 103))
      clear hu2 y1
      have y2:=(HC.out.upd0 HU2.out).p0
      go_wp2_with fail
      (with_reducible refine ((HC.out.upd0 HU2.out).set hlen1 ((k:Int)+1) HK.out s ⟨none,0,0⟩ [] (own_nil _ _ _) (fun d _ _=>ap_none _)).mono ?_)
      rintro e w3 ⟨⟨r,rfl⟩,F',hc3,hu3,hf3⟩
      have HC3:=Lib.hid hc3
      have HU3:=Lib.hid hu3
      have HF3:=Lib.hid hf3
      clear hc3 hu3 hf3
      go_wp2_with fail
      go_ret
      refine ⟨by rw [HY.out];rfl,?_⟩
      rw [HY.out]
      have hsz:=HU2.out.size
      refine YOut.of HC3.out HFL.out.symm ?_ ?_ (HU2.out.trans HU3.out (by simp) (fun x hx => .inl (foot_F hx))) (fun x hx=>(HF3.out x hx).imp foot_F (fun q=>by omega)) (fun x hx => .inl (foot_T hx)) ?_
      ·have:=tSet_len (lt:=ltY) cs ((k:Int)+1) ((s,⟨none,0,0⟩),[]);omega
      ·intro c hcm
       rcases tSet_mem cs _ _ c hcm with rfl|q
       ·exact ⟨by simp;omega,by simp;omega,by simp⟩
       ·exact HIN.out c q
      ·intro c hcm x hx
       rcases tSet_mem cs _ _ c hcm with rfl|q
       ·exact absurd hx (by simp [blk])
       ·exact .inl (foot_c q hx)
end
end Go.Proofs.YthgnlfikneipiaaGreat
namespace Go.Proofs.YthgnlfikneipiaaGreat
open Go.RowKit
section
variable {w0 w w2 : World} {gy gf gt : Nat} {F T : List Nat} {cs : CL} {tk : List (Int × Int)}
theorem YC.setG (h:YC w0 w gy gf gt F T cs tk) (hlen:cs.length≤1000) (c0:Int×(ByteArray×Sl)×List UInt8) (hc0:c0∈cs) (hu:Upd (blk (slv c0.2.1.2)) w w2) (k:Int) (hk:I64 k) (hck:c0.1=k) (nm:ByteArray) (sl:Sl) (p:List UInt8) (ho:Own bv w0.heap.size 5 w2 (slv sl) p) (hap:∀ x∈blk (slv sl),x∈blk (slv c0.2.1.2)∨w.heap.size≤x) :
  Calls Tryz.prog 40 #[.pointer (some ⟨gf,0,none⟩),iv k,fv (nm,sl)] w2 fun e w'=>(∃ r,e = .returned (.bool r))∧(∃ F',YC w0 w' gy gf gt F' T (tSet ltY cs k ((nm,sl),p)) tk∧Upd F w2 w'∧(∀ x∈F',x∈F∨w2.heap.size≤x)):=by
 have hS:∀ x∈blk (slv c0.2.1.2),w0.heap.size≤x:=fun x hx=>((h.own c0 hc0).ge x hx).1
 have hf2:=h.files.upd hu (if_own h.files (h.own c0 hc0)) hS
 have ht2:=h.taken.upd hu (ij_own h.taken (h.own c0 hc0)) hS
 have hy2:=h.yard.upd hu (gy_own h.yard (h.own c0 hc0))
 have ho2:∀ d∈cs,d.1≠k→Own bv w0.heap.size 5 w2 (slv d.2.1.2) d.2.2:=fun d hd hne=>(h.own d hd).upd hu (h.ap d hd c0 hc0 (by rw [hck];exact hne))
 have hap2:∀ d∈cs,d.1≠k→Ap (blk (slv sl)) (blk (slv d.2.1.2)):=fun d hd hne x hx hxd=>by
  rcases hap x hx with q|q
  ·exact h.ap c0 hc0 d hd (by rw [hck];exact hne.symm) x q hxd
  ·have:=((h.own d hd).ge x hxd).2;omega
 refine (txIF_Set k (nm,sl) _ _ hf2 (by rw [rows_len];omega) hk rfl rfl).mono ?_
 rintro e w' ⟨rfl,F',hf,hu',hfr⟩
 have hrow:tSet ltIF (rowsOf cs) k (nm,sl)=rowsOf (tSet ltY cs k ((nm,sl),p)):=mapY_set (·.1) cs k ((nm,sl),p)
 rw [hrow] at hf
 have hgF:gy∉F:=h.gy_F
 refine ⟨⟨_,rfl⟩,F',⟨hy2.upd hu' hgF,h.gyb,hf,ht2.upd hu' (if_ij hf2 ht2).symm (fun x hx=>(hf2.ge x hx).1),?_,?_⟩,hu',hfr⟩
 ·intro c hc
  rcases tSet_memk h.ris k _ c hc with rfl|⟨q,qk⟩
  ·exact ho.upd hu' (if_own hf2 ho).symm
  ·exact (ho2 c q qk).upd hu' (if_own hf2 (ho2 c q qk)).symm
 ·intro c hc d hd hne
  rcases tSet_memk h.ris k _ c hc with rfl|⟨q,qk⟩<;>rcases tSet_memk h.ris k _ d hd with rfl|⟨r,rk⟩
  ·exact absurd rfl hne
  ·exact hap2 d r rk
  ·exact (hap2 c q qk).symm
  ·exact h.ap c q d r hne
end
section
variable {w0 w : World} {gy : Nat} {G : List Nat} {fl : FL} {tk : List (Int × Int)}
set_option maxRecDepth 20000 in
set_option maxHeartbeats 1000000 in
theorem yAppend_any (s:ByteArray) (vp:Value) (p:List UInt8) (hp:Bytes w vp p) (hpl:p.length≤70368744177664) (h:YD w0 w gy G fl tk) :
  Calls Tryz.prog 22 #[.pointer (some ⟨gy,0,none⟩),sv s,vp] w (YDoes w0 w gy G tk (yAppend fl s p)):=by
 obtain ⟨gf,gt,F,T,cs,hc,rfl,hlen,hin,rfl⟩:=h.ex
 have HC:=Lib.hid hc
 have hlen1:cs.length≤1000:=by omega
 have HIN:=Lib.hid hin
 have HD:=Lib.hid h
 have HP:=Lib.hid hp
 obtain ⟨ap,cp,rfl,-,-,-⟩:=hp
 cases hh:hasN (filesOf cs) s with
 | false =>
  have HY:Hid (yAppend (filesOf cs) s p=(7,filesOf cs)):=by unfold Hid yAppend;rw [hh];rfl
  have HF:=Lib.hid (yFind_no s HC.out hlen1 hh)
  clear hc h hin hh
  go_enter Tryz.func22,Tryz.ntmps22
  go_wp2_with fail
  (with_reducible refine HF.out.mono ?_)
  rintro e w1 ⟨rfl,hu1⟩
  have HU1:=Lib.hid (hu1.alloc (.cells #[.string ⟨#[]⟩,.slice none 0 0] 103))
  clear hu1
  go_wp2_with fail
  go_ret
  exact ⟨by rw [HY.out];rfl,by rw [HY.out];exact HD.out.out0 HU1.out⟩
 | true =>
  have HF:=Lib.hid (yFind_yes s _ HC.out hlen1 hh rfl)
  have hlt:findN (filesOf cs) s < cs.length:=by unfold hasN at hh;have:=of_decide_eq_true hh;rwa [files_len] at this
  have hat:=findN_at (filesOf cs) s (by rw [files_len];exact hlt)
  rw [nth_files cs _ hlt] at hat
  have hmem:nth cs (findN (filesOf cs) s)∈cs:=nth_mem _ hlt
  have hino:inoN (filesOf cs) s=(nth cs (findN (filesOf cs) s)).1:=by unfold inoN;rw [nth_files cs _ hlt]
  have hby:bytesN (filesOf cs) s=(nth cs (findN (filesOf cs) s)).2.2:=by unfold bytesN;rw [nth_files cs _ hlt]
  generalize nth cs (findN (filesOf cs) s)=c0 at *
  obtain ⟨x,⟨nm,sl⟩,bs⟩:=c0
  have hat:nm=s:=hat
  subst hat
  have hino:inoN (filesOf cs) nm=x:=hino
  have hby:bytesN (filesOf cs) nm=bs:=hby
  have hx:=hin _ hmem
  have hx1:(1:Int)≤x:=hx.1
  have hx2:x≤12:=hx.2.1
  have hbl:bs.length≤65536:=hx.2.2
  have hwr:IntKind.i64.wrap (65536-(bs.length:Int))=65536-(bs.length:Int):=by rw [IntKind.wrap_i64];omega
  have HX:Hid (I64 x):=⟨by omega,by omega⟩
  have hx0:(x==0)=false:=by rw [beq_eq_false_iff_ne];omega
  have HMEM:=Lib.hid hmem
  have ho:=hc.own _ hmem
  have HO:Hid (Own bv w0.heap.size 5 w (slv sl) bs):=ho
  have hsn:sl.n=bs.length:=by
   rcases ho.2 with ⟨he,h0⟩|⟨g',cap',cur,he,-⟩
   ·injection he with e1 e2 e3;rw [e2];exact h0.symm
   ·injection he with e1 e2 e3
  obtain ⟨sa,sn,sk⟩:=sl
  have hsn:sn=bs.length:=hsn
  subst hsn
  by_cases hfull:65536 < bs.length+p.length
  ·have HY:Hid (yAppend (filesOf cs) nm p=(9,filesOf cs)):=by unfold Hid yAppend;rw [hh,hby];simp [hfull]
   clear hc h hin hh hlt hmem ho hx
   go_enter Tryz.func22,Tryz.ntmps22
   go_wp2_with fail
   (with_reducible refine HF.out.mono ?_)
   rintro e w1 ⟨rfl,hu1⟩
   have HU1:=Lib.hid (hu1.alloc (.cells #[sv nm,.slice sa bs.length sk] 103))
   clear hu1
   go_wp2_with fail
   go_ret
   exact ⟨by rw [HY.out];rfl,by rw [HY.out];exact HD.out.out0 HU1.out⟩
  ·have HY:Hid (yAppend (filesOf cs) nm p=(0,tSet ltY (filesOf cs) x (nm,bs++p))):=by unfold Hid yAppend;rw [hh,hby,hino];simp [hfull]
   have q:¬ 65536-(bs.length:Int) < p.length:=by omega
   clear hc h hin hh hlt hmem ho hx
   go_enter Tryz.func22,Tryz.ntmps22
   go_wp2_with fail
   (with_reducible refine HF.out.mono ?_)
   rintro e w1 ⟨rfl,hu1⟩
   have HUa:=Lib.hid (hu1.alloc (.cells #[sv nm,.slice sa bs.length sk] 103))
   have HRUN:=Lib.hid (fun ty=>run_app (P:=Tryz.prog) (ty:=ty) bv_one Tryz.underlying33 infoByte rfl (.slice sa bs.length sk) (.slice ap p.length cp) bs p (HO.out.upd HUa.out (by simp)) (HP.out.upd0 HUa.out) (by omega) (by unfold maxLen;omega) (by have:=HUa.out.size;have:=HC.out.old.size;omega))
   have HBF:=Lib.hid (Blk.new w1 103 [sv nm,.slice sa bs.length sk])
   have hs1:=hu1.size
   have HNB:Hid (w1.heap.size∉blk (.slice sa bs.length sk)):=fun hx=>by have:=(HO.out.ge _ hx).2;omega
   clear hu1
   go_wp2_with (at_builtin;go_must (refine wpList_app_of rfl _ _ rfl (.slice sa bs.length sk) (.slice ap p.length cp) rfl rfl (HRUN.out _) ?_;rintro v2 w2 ⟨ho2,hu2,hk2⟩;have HO2:=Lib.hid ho2;have HU2:=Lib.hid hu2;have HK2:=Lib.hid hk2;have hb2:=HBF.out.upd hu2 HNB.out;have d1:=hb2.cell 1;have f1:=hb2.frozen 1;have HB2:=Lib.hid hb2;obtain ⟨a2,c2,rfl,-⟩:=ho2.rd;clear ho2 hu2 hk2 hb2))
   have hu3:Upd (blk (.slice sa bs.length sk)) w (w2.setCell ⟨w1.heap.size,1,none⟩ (.slice a2 (bs++p).length c2)):=(HUa.out.trans (T:=blk (.slice sa bs.length sk)) HU2.out (by simp) (fun x hx => .inl hx)).setCell _ _ (.inr hs1)
   have hnv:w1.heap.size∉blk (.slice a2 (bs++p).length c2):=fun hx=>by
    rcases HK2.out _ hx with q|q
    ·exact HNB.out q
    ·simp at q;omega
   have ho3:Own bv w0.heap.size 5 (w2.setCell ⟨w1.heap.size,1,none⟩ (.slice a2 (bs++p).length c2)) (.slice a2 (bs++p).length c2) (bs++p):=HO2.out.upd ((Upd.refl [w1.heap.size] w2).setCell _ _ (.inl (by simp))) (fun x hx h=>hnv (by simp at h;rw [← h];exact hx))
   have hb3:Blk (w2.setCell ⟨w1.heap.size,1,none⟩ (.slice a2 (bs++p).length c2)) w1.heap.size 103 [sv nm,.slice a2 (bs++p).length c2]:=HB2.out.set_ 1 _
   have hap3:∀ y∈blk (.slice a2 (bs++p).length c2),y∈blk (.slice sa bs.length sk)∨w.heap.size≤y:=fun y hy=>(HK2.out y hy).imp id (fun q=>by have:=HUa.out.size;omega)
   have hlen2:(bs++p).length=bs.length+p.length:=List.length_append
   rw [hlen2] at hu3 ho3 hb3 hap3
   clear d1 f1 HB2 HO2 HU2 HK2 HRUN HUa HBF hnv hlen2
   generalize w2.setCell ⟨w1.heap.size,1,none⟩ (.slice a2 (bs.length+p.length) c2)=w3 at *
   have e0:=hb3.cell 0
   have e1:=hb3.cell 1
   simp only [List.getElem?_cons_zero,List.getElem?_cons_succ] at e0 e1
   have y0:=hu3.cell HC.out.p0 (gy_own HC.out.yard HO.out)
   have HU3:=Lib.hid hu3
   have HO3:=Lib.hid ho3
   have HAP3:=Lib.hid hap3
   clear hu3 ho3 hb3 hap3
   go_still_tail 6,(by kernel_rfl)
   change wpList _ _ _ _ _ w3.drew
   go_wp2_with fail
   (with_reducible refine (HC.out.setG hlen1 _ HMEM.out HU3.out.drew x HX.out rfl nm ⟨a2,bs.length+p.length,c2⟩ (bs++p) (HO3.out.upd (Upd.refl [] _).drew (by simp)) HAP3.out).mono ?_)
   rintro e w4 ⟨⟨r,rfl⟩,F',hc4,hu4,hf4⟩
   have HC4:=Lib.hid hc4
   have HU4:=Lib.hid hu4
   have HF4:=Lib.hid hf4
   clear hc4 hu4 hf4
   go_wp2_with fail
   go_ret
   refine ⟨by rw [HY.out];rfl,?_⟩
   rw [HY.out]
   have hsz:=HU3.out.size
   refine YOut.of HC4.out (mapY_set (fun v:(ByteArray×Sl)×List UInt8=>(v.1.1,v.2)) cs x ((nm,⟨a2,bs.length+p.length,c2⟩),bs++p)).symm ?_ ?_ (HU3.out.drew.trans HU4.out (fun y hy=>foot_c HMEM.out hy) (fun y hy => .inl (foot_F hy))) (fun y hy=>(HF4.out y hy).imp foot_F (fun q=>by simp at q;omega)) (fun y hy => .inl (foot_T hy)) ?_
   ·have hin2:isIn ltY cs x=true:=by
     obtain ⟨i,hi,he⟩:=List.mem_iff_getElem.1 HMEM.out
     have:=isIn_at intOrd HC.out.ris i hi
     rwa [nth_get cs i hi,he] at this
    rw [tSet_in cs x _ hin2,List.length_set];exact hlen
   ·intro c hcm
    rcases tSet_mem cs _ _ c hcm with rfl|q
    ·exact ⟨hx1,hx2,by simp;omega⟩
    ·exact HIN.out c q
   ·intro c hcm y hy
    rcases tSet_mem cs _ _ c hcm with rfl|q
    ·exact (HAP3.out y hy).imp (fun q=>foot_c HMEM.out q) id
    ·exact .inl (foot_c q hy)
end
end Go.Proofs.YthgnlfikneipiaaGreat
namespace Go.Proofs.YthgnlfikneipiaaGreat
open Go.RowKit
def yRead (fl:FL) (tk:List (Int×Int)) (ino a n:Int):(List UInt8×Int)×List (Int×Int) :=
 if isIn ltY fl ino then
  (if a < 0∨n < 0 then (([],1),tk)
     else ((((nth fl (below ltY fl ino)).2.2.drop a.toNat).take n.toNat, 0), tSet ltY tk ino ((tGet ltY 0 tk ino).1 + ((((nth fl (below ltY fl ino)).2.2.drop a.toNat).take n.toNat).length : Int))))
 else (([],7),tk)
structure YR (w0 w W:World) (gy gf gt:Nat) (F T:List Nat) (cs:CL) (tk:List (Int×Int)):Prop where
 ex:∃ T',YC w0 W gy gf gt F T' cs tk∧(∀ y∈T',y∈foot gy F T cs∨w.heap.size≤y)
 up:Upd (foot gy F T cs) w W
section
variable {w0 w W W' : World} {gy gf gt : Nat} {F T : List Nat} {cs : CL} {tk : List (Int × Int)}
theorem YR.upd0 (h:YR w0 w W gy gf gt F T cs tk) (hu:Upd [] W W'):YR w0 w W' gy gf gt F T cs tk:=by
 obtain ⟨T',hc,hf⟩:=h.ex
 exact ⟨⟨T',hc.upd0 hu,hf⟩,h.up.trans hu (fun _ hx=>hx) (by simp)⟩
theorem YR.p1 (h:YR w0 w W gy gf gt F T cs tk):W.cell? ⟨gy,1,none⟩=some (.pointer (some ⟨gt,0,none⟩)):=by
 obtain ⟨T',hc,hf⟩:=h.ex
 exact hc.p1
theorem YR.first (h:YC w0 w gy gf gt F T cs tk):YR w0 w w gy gf gt F T cs tk:=⟨⟨T,h,fun y hy => .inl (foot_T hy)⟩,Upd.refl _ _⟩
set_option maxRecDepth 20000 in
set_option maxHeartbeats 400000 in
theorem yTaken_any (k v:Int) (r:Bool) (h:YC w0 w gy gf gt F T cs tk) (hlen:tk.length≤100000) (hk:I64 k) (hv:tGet ltIJ (0:Int) tk k=(v,r)) :
  Calls Tryz.prog 164 #[.pointer (some ⟨gy,0,none⟩),iv k] w fun e w'=>e = .returned (iv v)∧Upd [] w w':=by
 have HC:=Lib.hid h
 have y1:=h.p1
 have HK:=Lib.hid hk
 have HV:=Lib.hid hv
 clear h hk hv
 go_enter Tryz.func164,Tryz.ntmps164
 go_wp2_with fail
 (with_reducible refine (txIJ_Get k v r HC.out.taken hlen HK.out HV.out).mono ?_)
 rintro e w1 ⟨rfl,hu1⟩
 go_wp2_with fail
 go_ret
 exact ⟨rfl,hu1⟩
theorem yrTaken (k v:Int) (r:Bool) (h:YR w0 w W gy gf gt F T cs tk) (hlen:tk.length≤100000) (hk:I64 k) (hv:tGet ltIJ (0:Int) tk k=(v,r)) :
  Calls Tryz.prog 164 #[.pointer (some ⟨gy,0,none⟩),iv k] W fun e w'=>e = .returned (iv v)∧YR w0 w w' gy gf gt F T cs tk:=by
 obtain ⟨T',hc,hf⟩:=h.ex
 refine (yTaken_any k v r hc hlen hk hv).mono ?_
 rintro e w' ⟨he,hu⟩
 exact ⟨he,h.upd0 hu⟩
theorem yrSet (k y:Int) (tk':List (Int×Int)) (h:YR w0 w W gy gf gt F T cs tk) (hlen:tk.length≤100000) (hk:I64 k) (hv:tSet ltIJ tk k y=tk') :
  Calls Tryz.prog 163 #[.pointer (some ⟨gt,0,none⟩),iv k,iv y] W fun e w'=>(∃ r,e = .returned (.bool r))∧YR w0 w w' gy gf gt F T cs tk':=by
 obtain ⟨T',hc,hf⟩:=h.ex
 refine (txIJ_Set k y _ tk' hc.taken hlen hk rfl hv).mono ?_
 rintro e w' ⟨rfl,T2,ht,hu,hfr⟩
 refine ⟨⟨_,rfl⟩,⟨T2,hc.setTaken ht hu,fun y hy=>?_⟩,h.up.trans hu (fun _ hx=>hx) (fun y hy=>hf y hy)⟩
 rcases hfr y hy with q|q
 ·exact hf y q
 ·exact .inr (by have:=h.up.size;omega)
end
section
variable {w0 w : World} {gy : Nat} {G : List Nat} {fl : FL} {tk : List (Int × Int)}
set_option maxRecDepth 20000 in
set_option maxHeartbeats 1000000 in
theorem yRead_any (ino a n:Int) (hi:I64 ino) (ha:I64 a) (hn:I64 n) (h:YD w0 w gy G fl tk) (htl:tk.length≤50000) (htk:∀ p∈tk,0≤p.2∧p.2≤1000000000000) :
  Calls Tryz.prog 107 #[.pointer (some ⟨gy,0,none⟩),iv ino,.int .i64 a,.int .i64 n] w fun e w'=>∃ v,e = .returned (.tuple #[v,.int .i64 (yRead fl tk ino a n).1.2])∧Own bv w.heap.size 5 w' v (yRead fl tk ino a n).1.1∧∃ G',YD w0 w' gy G' fl (yRead fl tk ino a n).2∧Upd G w w'∧(∀ x∈G',x∈G∨w.heap.size≤x)∧Ap (blk v) G':=by
 obtain ⟨gf,gt,F,T,cs,hc,rfl,hlen,hin,rfl⟩:=h.ex
 have HC:=Lib.hid hc
 have HIN:=Lib.hid hin
 have HD:=Lib.hid h
 have HRL:Hid ((rowsOf cs).length≤100000):=by unfold Hid;rw [rows_len];omega
 have HI:=Lib.hid hi
 have y0:=hc.p0
 cases hh:isIn ltY cs ino with
 | false =>
  have HY:Hid (yRead (filesOf cs) tk ino a n=(([],7),tk)):=by unfold Hid yRead;rw [mapY_isIn,hh];rfl
  have HV:Hid (tGet ltIF zF (rowsOf cs) ino=(zF,false)):=by
   unfold Hid tGet
   have:isIn ltIF (rowsOf cs) ino=false:=(mapY_isIn (·.1) cs ino).trans hh
   rw [this];rfl
  clear hc h hin hh hi ha hn htk
  go_enter Tryz.func107,Tryz.ntmps107
  go_wp2_with fail
  (with_reducible refine (txIF_Get ino zF false HC.out.files HRL.out HI.out HV.out).mono ?_)
  rintro e w1 ⟨rfl,hu1⟩
  have HU1:=Lib.hid (hu1.alloc (.cells #[.string ⟨#[]⟩,.slice none 0 0] 103))
  clear hu1
  go_wp2_with fail
  go_ret2
  refine ⟨.slice none 0 0,by rw [HY.out];rfl,by rw [HY.out];exact World.ownsRow_nil _ _ _ _,?_⟩
  rw [HY.out]
  obtain ⟨G',h1,h2,h3⟩:=HD.out.out0 HU1.out
  exact ⟨G',h1,h2,h3,Ap.nil⟩
 | true =>
  obtain ⟨c0,hc0,hk0,hn0⟩:∃ c0,c0∈cs∧c0.1=ino∧nth cs (below ltY cs ino)=c0:=by
   unfold isIn at hh
   obtain ⟨h1,h2⟩:=of_decide_eq_true hh
   exact ⟨_,nth_mem _ h1,h2,rfl⟩
  have HV:Hid (tGet ltIF zF (rowsOf cs) ino=(c0.2.1,true)):=by
   unfold Hid tGet
   have h1:isIn ltIF (rowsOf cs) ino=true:=(mapY_isIn (·.1) cs ino).trans hh
   have h2:below ltIF (rowsOf cs) ino=below ltY cs ino:=mapY_below (·.1) cs ino
   rw [h1,h2,if_pos rfl,nth_rows cs _ (by unfold isIn at hh;exact (of_decide_eq_true hh).1),hn0]
  have HYB:Hid ((nth (filesOf cs) (below ltY (filesOf cs) ino)).2.2=c0.2.2):=by
   unfold Hid
   rw [mapY_below,nth_files cs _ (by unfold isIn at hh;exact (of_decide_eq_true hh).1),hn0]
  have hb:=(hin _ hc0).2.2
  have ho:=hc.own _ hc0
  have HM0:=Lib.hid hc0
  obtain ⟨x,⟨nm,sl⟩,bs⟩:=c0
  have hk0:x=ino:=hk0
  subst hk0
  have HO:Hid (Own bv w0.heap.size 5 w (slv sl) bs):=ho
  have hsn:sl.n=bs.length:=by
   rcases ho.2 with ⟨he,h0⟩|⟨g',cap',cur,he,-⟩
   ·injection he with e1 e2 e3;rw [e2];exact h0.symm
   ·injection he with e1 e2 e3
  obtain ⟨sa,sn,sk⟩:=sl
  have hsn:sn=bs.length:=hsn
  subst hsn
  have hbl:bs.length≤65536:=hb
  have HYB:Hid ((nth (filesOf cs) (below ltY (filesOf cs) x)).2.2=bs):=HYB
  have HV:Hid (tGet ltIF zF (rowsOf cs) x=((nm,(⟨sa,bs.length,sk⟩:Sl)),true)):=HV
  by_cases hbad:a < 0∨n < 0
  ·have HY:Hid (yRead (filesOf cs) tk x a n=(([],1),tk)):=by unfold Hid yRead;rw [mapY_isIn,hh,if_pos rfl,if_pos hbad]
   have hd:a < 0∨(¬ a < 0∧n < 0):=by omega
   clear hc h hin hh hi ha hn htk ho hb hc0 hn0 hbad
   rcases hd with hd|⟨hd,hd2⟩
   all_goals
    go_enter Tryz.func107,Tryz.ntmps107
    go_wp2_with fail
    (with_reducible refine (txIF_Get x _ true HC.out.files HRL.out HI.out HV.out).mono ?_)
    rintro e w1 ⟨rfl,hu1⟩
    have HU1:=Lib.hid (hu1.alloc (.cells #[sv nm,.slice sa bs.length sk] 103))
    clear hu1
    go_wp2_with fail
    go_ret2
    refine ⟨.slice none 0 0,by rw [HY.out];rfl,by rw [HY.out];exact World.ownsRow_nil _ _ _ _,?_⟩
    rw [HY.out]
    obtain ⟨G',h1,h2,h3⟩:=HD.out.out0 HU1.out
    exact ⟨G',h1,h2,h3,Ap.nil⟩
  ·obtain ⟨A,rfl⟩:=Int.eq_ofNat_of_zero_le (show 0≤a by omega)
   obtain ⟨N,rfl⟩:=Int.eq_ofNat_of_zero_le (show 0≤n by omega)
   have hsk:bs.length≤sk:=by
    obtain ⟨a',c',he,h1,-⟩:=HO.out.rd
    injection he with e1 e2 e3
    have e3:sk=c':=e3
    omega
   have hskm:sk≤9223372036854775807:=by
    obtain ⟨a',c',he,-,h1,-⟩:=HO.out.rd
    injection he with e1 e2 e3
    have e3:sk=c':=e3
    unfold maxLen at h1;omega
   obtain ⟨K,hK⟩:∃ K,(K=A∧A≤bs.length)∨(K=bs.length∧bs.length < A):=by
    by_cases q:A≤bs.length
    ·exact ⟨A,.inl ⟨rfl,q⟩⟩
    ·exact ⟨bs.length,.inr ⟨rfl,by omega⟩⟩
   have hKl:K≤bs.length:=by omega
   obtain ⟨M,hM⟩:∃ M,(M=N∧N≤bs.length-K)∨(M=bs.length-K∧bs.length-K < N):=by
    by_cases q:N≤bs.length-K
    ·exact ⟨N,.inl ⟨rfl,q⟩⟩
    ·exact ⟨bs.length-K,.inr ⟨rfl,by omega⟩⟩
   have hMl:M≤bs.length-K:=by omega
   have hr:(bs.drop A).take N=(bs.drop K).take M:=by
    rcases hK with ⟨rfl,-⟩|⟨rfl,h1⟩
    ·rcases hM with ⟨rfl,-⟩|⟨rfl,h2⟩
     ·rfl
     ·rw [List.take_of_length_le (by rw [List.length_drop];omega),List.take_of_length_le (by rw [List.length_drop];omega)]
    ·rw [List.drop_eq_nil_of_le (by omega),List.drop_length];simp
   have hrl:((bs.drop K).take M).length=M:=by rw [List.length_take,List.length_drop];omega
   obtain ⟨v,r0,hv⟩:∃ v r0,tGet ltIJ (0:Int) tk x=(v,r0):=⟨_,_,rfl⟩
   have hv0:0≤v∧v≤1000000000000:=by
    unfold tGet at hv
    split at hv
    ·rename_i hq
     injection hv with h1 h2
     rw [← h1]
     unfold isIn at hq
     exact htk _ (nth_mem _ (of_decide_eq_true hq).1)
    ·injection hv with h1 h2
     rw [← h1];omega
   obtain ⟨hv1,hv2⟩:=hv0
   obtain ⟨tk2,htk2⟩:∃ tk2,tSet ltIJ tk x (v+(M:Int))=tk2:=⟨_,rfl⟩
   have HY:Hid (yRead (filesOf cs) tk x (A:Int) (N:Int)=(((bs.drop K).take M,0),tk2)):=by
    unfold Hid yRead
    rw [mapY_isIn,hh,if_pos rfl,if_neg hbad,HYB.out]
    simp only [Int.toNat_natCast]
    rw [hr,hrl]
    have e1:(tGet ltY 0 tk x).1=v:=by rw [show tGet ltY 0 tk x=(v,r0) from hv]
    rw [e1]
    exact congrArg (fun z=>(((bs.drop K).take M,(0:Int)),z)) htk2
   have HVT:=Lib.hid hv
   have HTK:=Lib.hid htk2
   have HTL:Hid (tk.length≤100000):=by unfold Hid;omega
   have hwr:IntKind.i64.wrap (v+(M:Int))=v+(M:Int):=by rw [IntKind.wrap_i64];omega
   have HO0:=Lib.hid (show ∀ W,Own bv w0.heap.size 5 W (.slice sa bs.length sk) bs→Bytes W (.slice (if sk=K then sa else sa.map (·.add K)) M (sk-K)) ((bs.drop K).take M) from fun W hW=>(hW.rd.drop K hKl).take M (by rw [List.length_drop];omega))
   have HRL2:=Lib.hid hrl
   obtain ⟨D,hD,hcut1⟩:∃ D:Option Addr,D=(if sk=K then sa else sa.map (·.add K))∧∀ W,(Instr.slice 33 (.slice sa bs.length sk) (some (.int .i64 (K:Int))) none none).run Tryz.prog W = .ok (.slice D (bs.length-K) (sk-K)) W :=
    ⟨_,rfl,fun W=>by have h:=run_cut (P:=Tryz.prog) (size:=1) Tryz.underlying33 (by kernel_rfl) sa bs.length sk K hKl W;simpa using h⟩
   have hcut2:∀ W,(Instr.slice 33 (.slice D (bs.length-K) (sk-K)) none (some (.int .i64 (M:Int))) none).run Tryz.prog W = .ok (.slice D M (sk-K)) W:=fun W=>run_cut_h (P:=Tryz.prog) (size:=1) Tryz.underlying33 (by kernel_rfl) D (bs.length-K) (sk-K) M (by omega) W
   rw [← hD] at HO0
   generalize (bs.drop K).take M=r at *
   have q1:¬ (A:Int) < 0:=by omega
   have q2:¬ (N:Int) < 0:=by omega
   have q3:(0:Int)≤A:=by omega
   have q4:(0:Int)≤N:=by omega
   clear hc h hin ho hb hc0 hn0 hbad hr hD hv htk2 htk hrl hi hh
   rcases hK with ⟨rfl,hK⟩|⟨rfl,hK⟩<;>rcases hM with ⟨rfl,hM⟩|⟨rfl,hM⟩
   all_goals
    go_enter Tryz.func107,Tryz.ntmps107
    go_wp2_with fail
    (with_reducible refine (txIF_Get x _ true HC.out.files HRL.out HI.out HV.out).mono ?_)
    rintro e w1 ⟨rfl,hu1⟩
    have HU1:=Lib.hid (hu1.alloc (.cells #[sv nm,.slice sa bs.length sk] 103))
    clear hu1
   ·have ra:=(YR.first HC.out).upd0 HU1.out
    go_wp2_with fail
    generalize w1.alloc (.cells #[sv nm,.slice sa bs.length sk] 103)=wB at *
    have y1:=ra.p1
    go_region_held3 (fun w'=>w'.cell? ⟨gy,1,none⟩=some (.pointer (some ⟨gt,0,none⟩))) (first|go_keep|exact ra.p1)
     (first
      | (go_at_call 164;(with_reducible refine (yrTaken x v r0 (YR.upd0 ra ?_) HTL.out HI.out HVT.out).mono ?_);(repeat (first|exact Upd.refl _ _|apply Upd.drew|apply Upd.drewN|apply Upd.alloc));(rintro _ W ⟨rfl,ra⟩;dsimp only))
      | (go_at_call 163;(with_reducible refine (yrSet x (v+((M:Nat):Int)) tk2 (YR.upd0 ra ?_) HTL.out HI.out HTK.out).mono ?_);(repeat (first|exact Upd.refl _ _|apply Upd.drew|apply Upd.drewN|apply Upd.alloc));(rintro _ W ⟨⟨r5,rfl⟩,ra⟩;dsimp only)))
    all_goals
     have RA:=Lib.hid ra
     obtain ⟨T',hcW,hfT⟩:=ra.ex
     have HCW:=Lib.hid hcW
     have HFT:=Lib.hid hfT
     have HOW:=Lib.hid (HO0.out _ (hcW.own _ HM0.out))
     have hrM:=HRL2.out
     have HAPP:=Lib.hid (fun ty=>run_app (P:=Tryz.prog) (ty:=ty) (base:=W.heap.size) bv_one Tryz.underlying33 infoByte rfl (.slice none 0 0) _ [] r (World.ownsRow_nil _ _ _ _) HOW.out (by simp;omega) (by unfold maxLen;simp;omega) (Nat.le_refl _))
     clear ra hcW hfT hrM
     go_wp2_with (at_builtin;go_must (refine wpList_app_of rfl _ _ rfl (.slice none 0 0) (.slice D (M) (sk-K)) rfl rfl (HAPP.out _) ?_;rintro v9 w9 ⟨ho9,hu9,hk9⟩;have HO9:=Lib.hid ho9;have HU9:=Lib.hid (show Upd [] W w9 from hu9);have HK9:=Lib.hid hk9;obtain ⟨a9,c9,rfl,-⟩:=ho9.rd;clear ho9 hu9 hk9))
     go_ret2
     rw [HY.out]
     refine ⟨_,rfl,by simpa using HO9.out.base_le RA.out.up.size,foot gy F T' cs,⟨gf,gt,F,T',cs,HCW.out.upd0 HU9.out,rfl,hlen,HIN.out,rfl⟩,RA.out.up.trans HU9.out (fun _ hx=>hx) (by simp),fun y hy=>?_,fun y hy hyG=>?_⟩
     ·rcases (foot_mem _ _ _ _ _).1 hy with rfl|q|q|⟨c,hcm,q⟩
      ·exact .inl ((foot_mem _ _ _ _ _).2 (.inl rfl))
      ·exact .inl (foot_F q)
      ·exact HFT.out y q
      ·exact .inl (foot_c hcm q)
     ·have h1:=(HCW.out.ge y hyG).2
      rcases HK9.out y hy with q|q
      ·simp [blk] at q
      ·omega
   ·have ra:=(YR.first HC.out).upd0 HU1.out
    go_wp2_with fail
    generalize w1.alloc (.cells #[sv nm,.slice sa bs.length sk] 103)=wB at *
    have y1:=ra.p1
    go_region_held3 (fun w'=>w'.cell? ⟨gy,1,none⟩=some (.pointer (some ⟨gt,0,none⟩))) (first|go_keep|exact ra.p1)
     (first
      | (go_at_call 164;(with_reducible refine (yrTaken x v r0 (YR.upd0 ra ?_) HTL.out HI.out HVT.out).mono ?_);(repeat (first|exact Upd.refl _ _|apply Upd.drew|apply Upd.drewN|apply Upd.alloc));(rintro _ W ⟨rfl,ra⟩;dsimp only))
      | (go_at_call 163;(with_reducible refine (yrSet x (v+(((bs.length-K:Nat):Int):Int)) tk2 (YR.upd0 ra ?_) HTL.out HI.out HTK.out).mono ?_);(repeat (first|exact Upd.refl _ _|apply Upd.drew|apply Upd.drewN|apply Upd.alloc));(rintro _ W ⟨⟨r5,rfl⟩,ra⟩;dsimp only)))
    all_goals
     have RA:=Lib.hid ra
     obtain ⟨T',hcW,hfT⟩:=ra.ex
     have HCW:=Lib.hid hcW
     have HFT:=Lib.hid hfT
     have HOW:=Lib.hid (HO0.out _ (hcW.own _ HM0.out))
     have hrM:=HRL2.out
     have HAPP:=Lib.hid (fun ty=>run_app (P:=Tryz.prog) (ty:=ty) (base:=W.heap.size) bv_one Tryz.underlying33 infoByte rfl (.slice none 0 0) _ [] r (World.ownsRow_nil _ _ _ _) HOW.out (by simp;omega) (by unfold maxLen;simp;omega) (Nat.le_refl _))
     clear ra hcW hfT hrM
     go_wp2_with (at_builtin;go_must (refine wpList_app_of rfl _ _ rfl (.slice none 0 0) (.slice D (bs.length-K) (sk-K)) rfl rfl (HAPP.out _) ?_;rintro v9 w9 ⟨ho9,hu9,hk9⟩;have HO9:=Lib.hid ho9;have HU9:=Lib.hid (show Upd [] W w9 from hu9);have HK9:=Lib.hid hk9;obtain ⟨a9,c9,rfl,-⟩:=ho9.rd;clear ho9 hu9 hk9))
     go_ret2
     rw [HY.out]
     refine ⟨_,rfl,by simpa using HO9.out.base_le RA.out.up.size,foot gy F T' cs,⟨gf,gt,F,T',cs,HCW.out.upd0 HU9.out,rfl,hlen,HIN.out,rfl⟩,RA.out.up.trans HU9.out (fun _ hx=>hx) (by simp),fun y hy=>?_,fun y hy hyG=>?_⟩
     ·rcases (foot_mem _ _ _ _ _).1 hy with rfl|q|q|⟨c,hcm,q⟩
      ·exact .inl ((foot_mem _ _ _ _ _).2 (.inl rfl))
      ·exact .inl (foot_F q)
      ·exact HFT.out y q
      ·exact .inl (foot_c hcm q)
     ·have h1:=(HCW.out.ge y hyG).2
      rcases HK9.out y hy with q|q
      ·simp [blk] at q
      ·omega
   ·have ra:=(YR.first HC.out).upd0 HU1.out
    go_wp2_with fail
    generalize w1.alloc (.cells #[sv nm,.slice sa bs.length sk] 103)=wB at *
    have y1:=ra.p1
    go_region_held3 (fun w'=>w'.cell? ⟨gy,1,none⟩=some (.pointer (some ⟨gt,0,none⟩))) (first|go_keep|exact ra.p1)
     (first
      | (go_at_call 164;(with_reducible refine (yrTaken x v r0 (YR.upd0 ra ?_) HTL.out HI.out HVT.out).mono ?_);(repeat (first|exact Upd.refl _ _|apply Upd.drew|apply Upd.drewN|apply Upd.alloc));(rintro _ W ⟨rfl,ra⟩;dsimp only))
      | (go_at_call 163;(with_reducible refine (yrSet x (v+((M:Nat):Int)) tk2 (YR.upd0 ra ?_) HTL.out HI.out HTK.out).mono ?_);(repeat (first|exact Upd.refl _ _|apply Upd.drew|apply Upd.drewN|apply Upd.alloc));(rintro _ W ⟨⟨r5,rfl⟩,ra⟩;dsimp only)))
    all_goals
     have RA:=Lib.hid ra
     obtain ⟨T',hcW,hfT⟩:=ra.ex
     have HCW:=Lib.hid hcW
     have HFT:=Lib.hid hfT
     have HOW:=Lib.hid (HO0.out _ (hcW.own _ HM0.out))
     have hrM:=HRL2.out
     have HAPP:=Lib.hid (fun ty=>run_app (P:=Tryz.prog) (ty:=ty) (base:=W.heap.size) bv_one Tryz.underlying33 infoByte rfl (.slice none 0 0) _ [] r (World.ownsRow_nil _ _ _ _) HOW.out (by simp;omega) (by unfold maxLen;simp;omega) (Nat.le_refl _))
     clear ra hcW hfT hrM
     go_wp2_with (at_builtin;go_must (refine wpList_app_of rfl _ _ rfl (.slice none 0 0) (.slice D (M) (sk-bs.length)) rfl rfl (HAPP.out _) ?_;rintro v9 w9 ⟨ho9,hu9,hk9⟩;have HO9:=Lib.hid ho9;have HU9:=Lib.hid (show Upd [] W w9 from hu9);have HK9:=Lib.hid hk9;obtain ⟨a9,c9,rfl,-⟩:=ho9.rd;clear ho9 hu9 hk9))
     go_ret2
     rw [HY.out]
     refine ⟨_,rfl,by simpa using HO9.out.base_le RA.out.up.size,foot gy F T' cs,⟨gf,gt,F,T',cs,HCW.out.upd0 HU9.out,rfl,hlen,HIN.out,rfl⟩,RA.out.up.trans HU9.out (fun _ hx=>hx) (by simp),fun y hy=>?_,fun y hy hyG=>?_⟩
     ·rcases (foot_mem _ _ _ _ _).1 hy with rfl|q|q|⟨c,hcm,q⟩
      ·exact .inl ((foot_mem _ _ _ _ _).2 (.inl rfl))
      ·exact .inl (foot_F q)
      ·exact HFT.out y q
      ·exact .inl (foot_c hcm q)
     ·have h1:=(HCW.out.ge y hyG).2
      rcases HK9.out y hy with q|q
      ·simp [blk] at q
      ·omega
   ·simp only [Nat.sub_self,Int.natCast_zero,Int.ofNat_zero,Int.add_zero] at HTK HO0 hcut2 HRL2 hwr
    have ra:=(YR.first HC.out).upd0 HU1.out
    go_wp2_with fail
    generalize w1.alloc (.cells #[sv nm,.slice sa bs.length sk] 103)=wB at *
    have y1:=ra.p1
    go_region_held3 (fun w'=>w'.cell? ⟨gy,1,none⟩=some (.pointer (some ⟨gt,0,none⟩))) (first|go_keep|exact ra.p1)
     (first
      | (go_at_call 164;(with_reducible refine (yrTaken x v r0 (YR.upd0 ra ?_) HTL.out HI.out HVT.out).mono ?_);(repeat (first|exact Upd.refl _ _|apply Upd.drew|apply Upd.drewN|apply Upd.alloc));(rintro _ W ⟨rfl,ra⟩;dsimp only))
      | (go_at_call 163;(with_reducible refine (yrSet x v tk2 (YR.upd0 ra ?_) HTL.out HI.out HTK.out).mono ?_);(repeat (first|exact Upd.refl _ _|apply Upd.drew|apply Upd.drewN|apply Upd.alloc));(rintro _ W ⟨⟨r5,rfl⟩,ra⟩;dsimp only)))
    all_goals
     have RA:=Lib.hid ra
     obtain ⟨T',hcW,hfT⟩:=ra.ex
     have HCW:=Lib.hid hcW
     have HFT:=Lib.hid hfT
     have HOW:=Lib.hid (HO0.out _ (hcW.own _ HM0.out))
     have hrM:=HRL2.out
     have HAPP:=Lib.hid (fun ty=>run_app (P:=Tryz.prog) (ty:=ty) (base:=W.heap.size) bv_one Tryz.underlying33 infoByte rfl (.slice none 0 0) _ [] r (World.ownsRow_nil _ _ _ _) HOW.out (by simp;omega) (by unfold maxLen;simp;omega) (Nat.le_refl _))
     clear ra hcW hfT hrM
     go_wp2_with (at_builtin;go_must (refine wpList_app_of rfl _ _ rfl (.slice none 0 0) (.slice D 0 (sk-bs.length)) rfl rfl (HAPP.out _) ?_;rintro v9 w9 ⟨ho9,hu9,hk9⟩;have HO9:=Lib.hid ho9;have HU9:=Lib.hid (show Upd [] W w9 from hu9);have HK9:=Lib.hid hk9;obtain ⟨a9,c9,rfl,-⟩:=ho9.rd;clear ho9 hu9 hk9))
     go_ret2
     rw [HY.out]
     refine ⟨_,rfl,by simpa using HO9.out.base_le RA.out.up.size,foot gy F T' cs,⟨gf,gt,F,T',cs,HCW.out.upd0 HU9.out,rfl,hlen,HIN.out,rfl⟩,RA.out.up.trans HU9.out (fun _ hx=>hx) (by simp),fun y hy=>?_,fun y hy hyG=>?_⟩
     ·rcases (foot_mem _ _ _ _ _).1 hy with rfl|q|q|⟨c,hcm,q⟩
      ·exact .inl ((foot_mem _ _ _ _ _).2 (.inl rfl))
      ·exact .inl (foot_F q)
      ·exact HFT.out y q
      ·exact .inl (foot_c hcm q)
     ·have h1:=(HCW.out.ge y hyG).2
      rcases HK9.out y hy with q|q
      ·simp [blk] at q
      ·omega
end
end Go.Proofs.YthgnlfikneipiaaGreat
namespace Go.Proofs.YthgnlfikneipiaaGreat
open Go.RowKit
abbrev AF:=Int×ByteArray×Int
abbrev afCells (p:AF):List Value:=[iv p.1,sv p.2.1,iv p.2.2]
def tellF (p:Int×(ByteArray×List UInt8)):AF:=(p.1,p.2.1,(p.2.2.length:Int))
def yFiles (fl:FL):List AF:=fl.map tellF
section
variable {w0 w : World} {gy : Nat} {G : List Nat} {fl : FL} {tk : List (Int × Int)}
end
end Go.Proofs.YthgnlfikneipiaaGreat
namespace Go.Proofs.YthgnlfikneipiaaGreat
open Go.RowKit
theorem afCells_len:∀ p,(afCells p).length=3:=fun _=>rfl
theorem afCells_one:∀ p,∀ u∈afCells p,u.oneCell'=true:=by intro p u hu;simp [afCells] at hu;rcases hu with rfl|rfl|rfl<;>rfl
theorem infoAF:(Tryz.prog.info? 178).map (fun i=>(i.zero,i.size,i.bytes))=some (some (.agg #[.int .i64 0,.string ⟨#[]⟩,.int .i64 0]),3,32):=by kernel_rfl
theorem undAF:Tryz.prog.underlying 174=some (.slice 178):=by kernel_rfl
theorem files_take (cs:CL) (k:Nat) (hk:k < cs.length):(yFiles (filesOf cs)).take (k+1)=(yFiles (filesOf cs)).take k++[((nth cs k).1,(nth cs k).2.1.1,((nth cs k).2.2.length:Int))]:=by
 have h2:k < (filesOf cs).length:=by rw [files_len];exact hk
 show (List.map tellF (filesOf cs)).take (k+1)=(List.map tellF (filesOf cs)).take k++_
 rw [List.take_succ_eq_append_getElem (by rw [List.length_map];exact h2),List.getElem_map,← nth_get (filesOf cs) k h2,nth_files cs k hk]
 rfl
section
variable {w0 w : World} {gy : Nat} {G : List Nat} {fl : FL} {tk : List (Int × Int)}
set_option maxRecDepth 20000 in
set_option maxHeartbeats 1000000 in
theorem yFiles_any (h:YD w0 w gy G fl tk) :
  Calls Tryz.prog 65 #[.pointer (some ⟨gy,0,none⟩)] w fun e w'=>∃ v,e = .returned v∧OwnN 3 afCells w.heap.size 178 w' v (yFiles fl)∧Upd [] w w':=by
 obtain ⟨gf,gt,F,T,cs,hc,rfl,hlen,hin,rfl⟩:=h.ex
 have HC:=Lib.hid hc
 have HRL:Hid ((rowsOf cs).length≤100000):=by unfold Hid;rw [rows_len];omega
 have HLC:Hid (((rowsOf cs).length:Int)=(cs.length:Int)):=by unfold Hid;rw [rows_len]
 have y0:=hc.p0
 clear hc h hin
 go_enter Tryz.func65,Tryz.ntmps65
 go_wp2_with fail
 (with_reducible refine (txIF_Len _ HC.out.files HLC.out).mono ?_)
 rintro e w' ⟨rfl,rfl⟩
 clear y0
 go_wp2_with fail
 go_loopw [3,13] (fun v i wr=>∃ k:Nat,k≤cs.length∧i = .int .i64 k∧Hid (OwnN 3 afCells w.heap.size 178 wr v ((yFiles (filesOf cs)).take k))∧Hid (Upd [] w wr)) (fun _ i _=>cs.length-(intOf i).toNat)
 case atStart=>exact ⟨0,Nat.zero_le _,rfl,OwnN.nil _ _ _,Upd.refl _ _⟩
 case round =>
  obtain ⟨k,hk,rfl,ho,hu⟩:=hrel
  by_cases hlt:k < cs.length
  ·have HT:=Lib.hid (files_take cs k hlt)
   have HA:=Lib.hid (tAt_rows cs k hlt)
   have HM:=Lib.hid (HC.out.own _ (nth_mem k hlt))
   have hlen2:((yFiles (filesOf cs)).take k).length=k:=by unfold yFiles;rw [List.length_take,List.length_map,files_len];omega
   generalize nth cs k=c0 at *
   obtain ⟨x,⟨nm,sl⟩,bs⟩:=c0
   have hsn:sl.n=bs.length:=by
    have ho:=HM.out
    rcases ho.2 with ⟨he,h0⟩|⟨g',cap',cur,he,-⟩
    ·injection he with e1 e2 e3;rw [e2];exact h0.symm
    ·injection he with e1 e2 e3
   obtain ⟨sa,sn,sk⟩:=sl
   have hsn:sn=bs.length:=hsn
   subst hsn
   have HT:Hid ((yFiles (filesOf cs)).take (k+1)=(yFiles (filesOf cs)).take k++[(x,nm,(bs.length:Int))]):=HT
   obtain ⟨ao2,co2,rfl,-⟩:=ho.out.rd afCells_len
   rw [hlen2] at ho ⊢
   have HLEN:=Lib.hid hlen2
   have HKS:Hid (∃ ks,ks=(yFiles (filesOf cs)).take k):=⟨_,rfl⟩
   generalize hks:(yFiles (filesOf cs)).take k=ks at *
   clear hlen2 hks HKS HM
   have q0:(0:Int)≤k:=by omega
   have q1:(k:Int) < cs.length:=by omega
   have HI64:Hid (I64 (k:Int)):=⟨by omega,by omega⟩
   have HB:Hid ((ks.length+[(x,nm,(bs.length:Int))].length)*32≤140737488355328):=by unfold Hid;rw [HLEN.out];simp;omega
   have HL:Hid (ks.length+[(x,nm,(bs.length:Int))].length≤maxLen):=by unfold Hid maxLen;rw [HLEN.out];simp;omega
   have y1:=(HC.out.upd0 hu.out).p0
   go_wp2_with fail
   (with_reducible refine (txIF_At (k:Int) x (nm,⟨sa,bs.length,sk⟩) true HI64.out ((HC.out.upd0 hu.out).files) HRL.out HA.out).mono ?_)
   rintro e w2 ⟨rfl,hu2⟩
   have HU2:=Lib.hid ((hu.out.seq hu2).alloc (.cells #[sv nm,.slice sa bs.length sk] 103))
   have HO2:=Lib.hid (ho.out.upd (hu2.alloc (.cells #[sv nm,.slice sa bs.length sk] 103)) (by simp))
   have hsz2:=HU2.out.size
   have HRD:Hid (RdN 3 afCells ((w2.alloc (.cells #[sv nm,.slice sa bs.length sk] 103)).alloc (.cells #[iv x,sv nm,.int .i64 (bs.length:Int)] 178)) (.slice (some ⟨w2.heap.size+1,0,none⟩) 1 1) [(x,nm,(bs.length:Int))]):=by
    have hb:=Blk.new (w2.alloc (.cells #[sv nm,.slice sa bs.length sk] 103)) 178 [iv x,sv nm,.int .i64 (bs.length:Int)]
    refine ⟨_,1,rfl,by simp,by simp [maxLen],fun _=>⟨w2.heap.size+1,0,rfl,fun j hj i hi=>?_⟩⟩
    simp at hj;subst hj
    have:=hb.cell i
    rw [show (w2.alloc (.cells #[sv nm,.slice sa bs.length sk] 103)).heap.size=w2.heap.size+1 by simp] at this
    rw [nth_cons_zero,show 0+(0*3+i)=i by omega];exact this
   clear hu2 y1 ho
   go_wp2_with (at_builtin;go_must (refine wpList_app_of rfl _ _ rfl (.slice ao2 k co2) (.slice (some ⟨w2.heap.size+1,0,none⟩) 1 1) rfl rfl (run_appN (c:=afCells) afCells_len (by decide) afCells_one undAF infoAF rfl _ _ ks [(x,nm,(bs.length:Int))] (HO2.out.upd ((Upd.refl [] _).alloc _) (by simp)) HRD.out HB.out HL.out (by simp at hsz2 ⊢;omega)) ?_;rintro v1 w3 ⟨ho3,hu3,hk3⟩;have HO3:=Lib.hid ho3;have HU3:Hid (Upd [] w w3):=((HU2.out.alloc _).trans hu3 (by simp) (fun y hy => .inr (HO2.out.ge y hy).1));clear ho3 hu3 hk3))
   go_roundw
   case rel=>exact ⟨k+1,by omega,by go_num,by rw [HT.out];exact HO3,HU3⟩
   case measure=>simp [intOf];omega
  ·obtain rfl:k=cs.length:=by omega
   go_wp2_with fail
   go_ret
   exact ⟨_,rfl,by have:=ho.out;rwa [List.take_of_length_le (by unfold yFiles;rw [List.length_map,files_len];omega)] at this,hu.out⟩
end
end Go.Proofs.YthgnlfikneipiaaGreat
namespace Go.Proofs.YthgnlfikneipiaaGreat
open Go.RowKit
def headSum (l:List UInt8):BitVec 32:=sumOn 0 (l.take 16)
def headV (l:List UInt8):Value := .agg #[.int .i64 ((min l.length 16:Nat):Int),.int .u32 ((headSum l).toNat:Int)]
set_option maxHeartbeats 400000 in
theorem idHead_any (w:World) (v:Value) (l:List UInt8) (h:Bytes w v l) :
  Calls Tryz.prog 110 #[v] w fun e w'=>e = .returned (headV l)∧Upd [] w w':=by
 have h0:=h
 obtain ⟨a,cap,rfl,hlc,hm,hc⟩:=h
 have hm':cap≤9223372036854775807:=hm
 clear hm hc
 by_cases hl:l.length≤16
 ·have q:(l.length:Int)≤16:=by omega
  have H:=Lib.hid h0
  have hV:headV l = .agg #[.int .i64 (l.length:Int),.int .u32 ((sumOn 0 l).toNat:Int)]:=by
   unfold headV headSum;rw [Nat.min_eq_left hl,List.take_of_length_le hl]
  have HV:=Lib.hid hV
  clear h0 hV
  go_enter Tryz.func110,Tryz.ntmps110
  go_wp2_with fail
  refine (of_any _ [l] _ (Parts.one _ _ (by simp) rfl rfl rfl (H.out.alloc _))).mono ?_
  rintro e w' ⟨rfl,rfl⟩
  go_wp2_with fail
  exact bodyPost_ret (v := .agg #[.int .i64 (l.length:Int),.int .u32 ((sumOn 0 l).toNat:Int)]) (by simp [results,Tryz.results110,go_sem];try rfl) rfl ⟨by rw [HV.out],by exact by repeat (first|exact Upd.refl _ _|apply Upd.alloc|apply Upd.drew|(refine Upd.setCell ?_ _ _ (.inr (by simp))))⟩
 ·have q:(16:Int) < l.length:=by omega
  have q2:(16:Int)≤cap:=by omega
  have H:=Lib.hid (h0.take 16 (by omega))
  have hV:headV l = .agg #[.int .i64 16,.int .u32 ((sumOn 0 (l.take 16)).toNat:Int)]:=by
   unfold headV headSum;rw [Nat.min_eq_right (by omega)];rfl
  have HV:=Lib.hid hV
  clear h0 hV
  generalize l.take 16=l2 at *
  go_enter Tryz.func110,Tryz.ntmps110
  go_wp2_with fail
  refine (of_any _ [l2] _ (Parts.one _ _ (by simp) rfl rfl rfl (H.out.alloc _))).mono ?_
  rintro e w' ⟨rfl,rfl⟩
  go_wp2_with fail
  exact bodyPost_ret (v := .agg #[.int .i64 16,.int .u32 ((sumOn 0 l2).toNat:Int)]) (by simp [results,Tryz.results110,go_sem];try rfl) rfl ⟨by rw [HV.out],by exact by repeat (first|exact Upd.refl _ _|apply Upd.alloc|apply Upd.drew|(refine Upd.setCell ?_ _ _ (.inr (by simp))))⟩
theorem toNat_beqd (a b:BitVec 32):((a.toNat:Int)==(b.toNat:Int))=decide (a=b):=by
 by_cases h:a=b
 ·rw [h];simp
 ·rw [decide_eq_false h,beq_eq_false_iff_ne];intro e;exact h (BitVec.eq_of_toNat_eq (by omega))
set_option maxHeartbeats 400000 in
theorem idSame_yes (w:World) (m:Nat) (s:BitVec 32) (at_ size:Int) (v:Value) (l:List UInt8) (h:Bytes w v l) (h1:at_≤size) (h3:m≤16) (h4:m≤l.length) (hs:sumOn 0 (l.take m)=s) :
  Calls Tryz.prog 108 #[.agg #[.int .i64 (m:Int),.int .u32 (s.toNat:Int)],.int .i64 at_,.int .i64 size,v] w fun e w'=>e = .returned (.bool true)∧Upd [] w w':=by
 have h0:=h
 obtain ⟨a,cap,rfl,hlc,hm,hc⟩:=h
 have hm':cap≤9223372036854775807:=hm
 clear hm hc
 have HS:=Lib.hid hs
 have HT:=Lib.hid (toNat_beqd (sumOf [l.take m]) s)
 have H:=Lib.hid (h0.take m (by omega))
 have q5:(m:Int)≤cap:=by omega
 clear h0
 generalize l.take m=l2 at *
 go_enter Tryz.func108,Tryz.ntmps108
 go_wp2_with fail
 go_region_held3 (fun w'=>w'.cell? ⟨w.heap.size,0,none⟩=some (.int .i64 (m:Int))∧w'.cell? ⟨w.heap.size,1,none⟩=some (.int .u32 (s.toNat:Int))) (go_keep)
  (first|(go_at_call 144;refine (of_any _ [l2] _ (Parts.one _ l2 (by simp) rfl rfl rfl (H.out.alloc _)).drew).mono ?_;rintro e w' ⟨rfl,rfl⟩;dsimp only)|fail)
 go_wp2_with fail
 go_ret
 exact ⟨congrArg (fun b=>Ending.returned (.bool b)) (by rw [HT.out];exact decide_eq_true HS.out),by repeat (first|exact Upd.refl _ _|apply Upd.alloc|apply Upd.drew|apply Upd.drewN)⟩
end Go.Proofs.YthgnlfikneipiaaGreat
namespace Go.Eng
set_option maxRecDepth 100000
theorem pollA_e:goOks (call (EBh bdP (hks bdP pollA)) 300 8 [.ptr 6 0,step0 6] ⟨[],(0,.gho 0 as5)::hW0,10,[],[]⟩) (.agg [i6 0,i6 0,.nils,.nils]) 13 (as5++[.opq 30,.opq 31]) [⟨[0,1,2,3,4,5,30,31,6,7,8,37,9],hP2,13,as7++[.ptr 8 0],as5++[.opq 30,.opq 31]++[.ptr 6 0]⟩]=true:=by kernel_rfl
theorem pollB_e:goOks (call (EBh bdQ (hks bdQ pollB)) 300 8 [.ptr 8 0,step0 6] ⟨[],(0,.gho 0 as7)::hP1,13,[],[]⟩) (.agg [i6 0,i6 0,.nils,.nils]) 12 (as5++[.opq 35,.opq 36]) [⟨[0,1,2,3,4,5,35,36,8,9,10,11,12],hP2,13,as7++[.ptr 8 0],as5++[.opq 35,.opq 36]++[.ptr 8 0]⟩]=true:=by kernel_rfl
end Go.Eng
namespace Go.Eng
set_option maxRecDepth 100000
def nmLogS:Sel := .c (.str ⟨#[108,111,103]⟩)
def tApp (k n d:Nat):TS:=⟨22,k,[.s (.at 0),.s nmLogS,.s (.at d)],[],.s i0,ats n,k+1⟩
def tList (k n:Nat):TS:=⟨78,k,[.s (.at 2),.s i0],[.opq],.s (.at n),ats (n+1),k+1⟩
def appA:List TS:=[tMark 0 1 6,tApp 1 5 5]
def appB:List TS:=[tMark 0 1 8,tApp 1 7 7]
def qryB:List TS:=[tMark 0 1 7,tList 1 7]
def stepA (d:AV):AV := .agg [i6 2,i6 0,.str ⟨#[108,111,103]⟩,.str ⟨#[]⟩,d,.nils,.str ⟨#[]⟩]
theorem appA_e:goOks (call (EBh [] (hks [] appA)) 300 8 [.ptr 6 0,stepA (.opq 10)] ⟨[],(0,.gho 0 (as5++[.opq 10]))::hW0,11,[],[]⟩) (.agg [i6 0,i6 0,.nils,.nils]) 2 as5 [⟨List.range 10,hW0,10,as5++[.ptr 6 0],as5++[.ptr 6 0]⟩]=true:=by kernel_rfl
theorem appB_e:goOks (call (EBh [] (hks [] appB)) 300 8 [.ptr 8 0,stepA (.opq 13)] ⟨[],(0,.gho 0 (as7++[.opq 13]))::hP1,14,[],[]⟩) (.agg [i6 0,i6 0,.nils,.nils]) 2 as7 [⟨List.range 13,hP1,13,as7++[.ptr 8 0],as7++[.ptr 8 0]⟩]=true:=by kernel_rfl
theorem qryB_e:goOks (call (EBh [] (hks [] qryB)) 300 8 [.ptr 8 0,step0 8] ⟨[],(0,.gho 0 as7)::hP1,13,[],[]⟩) (.agg [i6 0,i6 0,.nils,.opq 17]) 2 (as7++[.opq 17]) [⟨List.range 13,hP1,13,as7++[.ptr 8 0],as7++[.ptr 8 0]⟩]=true:=by kernel_rfl
end Go.Eng
namespace Go.Eng
set_option maxRecDepth 100000
def as4:List AV:=[.ptr 1 0,.ptr 2 0,.ptr 3 0,.ptr 4 0]
def hN:Hp:=[(5,.row 67 [.ptr 1 0,.ptr 2 0,.ptr 6 0]),(6,.row 98 [.ptr 1 0,.nilp,.ptr 3 0,.ptr 4 0,.ptr 7 0,.ptr 8 0]),(7,.row 142 [.nils])]
def rlB:ByteArray:=⟨#[1,1,1,1,97,1,4,94,121,42,36,0]⟩
def tSetL (k n:Nat):TS:=⟨76,k,[.s (.at 3),.sl 190 1 [i0,.c (.str rlB)]],[],.s i0,ats n,k+1⟩
def tCreate (k n:Nat):TS:=⟨21,k,[.s (.at 0),.s nmLogS],[],.s i0,ats n,k+1⟩
def runTs:List TS:=[tMark 0 1 4,tSetL 1 4,tMark 2 3 4,tCreate 3 4]
def hSteps:Hp:=[(0,.row 35 [i6 7,i6 0,.str ⟨#[]⟩,.str ⟨#[]⟩,.nils,.slk 1 0 1 1,.str ⟨#[]⟩,i6 1,i6 0,.str ⟨#[108,111,103]⟩,.str ⟨#[]⟩,.nils,.nils,.str ⟨#[]⟩]),(1,.row 29 [.str ⟨#[97]⟩,.str ⟨#[94,121,42,36]⟩])]
theorem new_e:goOks (call (EBh [] (hks [] newTs)) 300 5 [] ⟨[],[(0,.gho 0 [])],1,[],[]⟩) (.ptr 3 0) 4 [.ptr 1 0,.ptr 2 0,.ptr 5 0,.ptr 6 0] [⟨[0,1,2,5,6,3,8,7,10],hN,9,as4++[.ptr 5 0],[.ptr 1 0,.ptr 2 0,.ptr 5 0,.ptr 6 0,.ptr 3 0]⟩]=true:=by kernel_rfl
theorem run_e:goOks (call (EBh [] (hks [] runTs)) 1000 6 [.ptr 5 0,.slk 9 0 2 2] ⟨[],(0,.gho 0 as4)::(hN++shH 9 hSteps),11,[],[]⟩) (.slc 319 0 2) 4 as4 [⟨[0,208,207,279,263,251,19,22],hR,8,[.ptr 1 0],[.ptr 208 0]⟩,⟨[0,1,2,3,4,208,5,6,7,8],hW0,10,as5++[.ptr 6 0],as4++[.ptr 208 0]++[.ptr 5 0]⟩]=true:=by kernel_rfl
end Go.Eng
namespace Go.Eng
section
variable {b : Nat} {ν : Nat → Int} {st : Nat → List Value → List (Asr b)}
theorem run_engs2 {P:Program} {E:Env} (hE:@EOK (mkVal b ν st) P E) {fuel:Nat} {f:FuncId} {args:List AV} {H:Hp} {n k0 kf:Nat} {as0 asf rt:List AV} {vf:AV} {ps:List Part}
  (hev:goOks (call E fuel f args ⟨[],(0,.gho k0 as0)::H,n,[],[]⟩) vf kf asf ps=true) (hn:0 < n) (h0:getA H 0=none)
  {w:World} {F:Nat→Prop} {gs us vals:List Value} (hb:b≤w.heap.size) (h:All (st k0 gs++[engA b ν H n rt vals]) w F)
  (hg:∀ G:GM,@dns (plainV b ν) G rt=some vals→@dns (plainV b ν) G as0=some gs∧@dvl (plainV b ν) G args us) :
  Calls P f us.toArray w fun e w'=>∃ u gs' G,e = .returned u∧@dv (plainV b ν) G vf=some u∧@dns (plainV b ν) G asf=some gs'∧(∃ F0,All (st kf gs') w' F0)∧(∀ vss,rgVs b ν G ps vss→∃ F',All (st kf gs'++engAs b ν ps vss) w' F'∧∀ x,F' x→F x∨w.heap.size≤x)∧(∀ p∈ps,∀ k c,getA p.B k=some c→c.live→∃ x,(nth p.ρ k).bind G=some x)∧UpdP F w w'∧∃ G0:GM,GLe G0 G∧@dns (plainV b ν) G0 rt=some vals:=by
 letI:Val:=mkVal b ν st
 obtain ⟨G0,hS,hr⟩:=sat_startE (k:=k0) (az:=as0) hn hb h0 h (fun G q=>(hg G q).1)
 unfold goOks at hev
 split at hev
 ·rename_i v' S hc
  simp only [Bool.and_eq_true] at hev
  obtain ⟨⟨⟨⟨h1,h2⟩,h3⟩,h4⟩,h5⟩:=hev
  have ho:S.obs=[]:=by simpa using h5
  refine ((@call_ok (mkVal b ν st) P E hE fuel f args _ S v' hc).2.2 (by rw [ho];intro p hp;cases hp) (dvl_pl _ _ _ (hg G0 hr).2) hS).mono ?_
  rintro e w' ⟨u,G,O,rfl,k1,k2,k3⟩
  have hgh:getA S.H 0=some (.gho kf asf):=by
   unfold ghoIs at h2
   split at h2
   ·rename_i k' az' he
    rw [Bool.and_eq_true] at h2
    rw [he,Nat.eq_of_beq_eq_true h2.1,eqAs_ok h2.2]
   ·cases h2
  obtain ⟨gs',F1,q1,q2,q3,q4⟩:=k2.gh kf asf hgh
  have q2:All (st kf gs') w' F1:=q2
  refine ⟨u,gs',G,rfl,by rw [eqV_ok h1,← dv_pl (st:=st)];exact k1,by rw [← dns_pl (st:=st)];exact q1,⟨F1,q2⟩,fun vss hv=>?_,fun p hp k c hc hl=>?_,k3.u,G0,k3.g,hr⟩
  rotate_left
  ·have hp:=List.all_eq_true.1 h3 p hp
   unfold Part.ok at hp
   rw [Bool.and_eq_true] at hp
   obtain ⟨x,q,_⟩:=(k2.gc hp.1).bs k c hc hl
   exact ⟨x,q⟩
  obtain ⟨F2,g1,g2,g3⟩:=parts_all k2 (fun p hp=>List.all_eq_true.1 h3 p hp) h4 hv
  refine ⟨fun x=>F1 x∨F2 x,q2.join g1 (fun x hx hy=>?_) (fun _=>Iff.rfl),fun x hx=>hx.elim (fun q=>k3.o x (q3 x q).1) fun q=>k3.o x (g2 x q)⟩
  obtain ⟨i,c,y,e0,e1,e2,e3,e4⟩:=g3 x hy
  subst e4
  exact q4 i c y e1 e2 e3 hx
 ·cases hev
end
end Go.Eng
