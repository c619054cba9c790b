/- Texts of the proof, joined. -/
import Derived.Test.YthgnlfikneipiaaGreatMg8
import Derived.Test.YthgnlfikneipiaaGreatMg5
import Derived.Laws.Externs
import Derived.Test.YthgnlfikneipiaaGreatMg6
import Derived.Lib.JoinLaws
import Derived.Deep.RegionHeld3
import Derived.StillTailTactics
import Derived.Deep.RegionLaw
import Derived.Test.YthgnlfikneipiaaGreatMg4
import Derived.Test.YthgnlfikneipiaaGreatMg1
set_option linter.unusedSimpArgs false
set_option linter.unusedVariables false
set_option linter.unusedSectionVars false
set_option maxRecDepth 100000
set_option maxHeartbeats 4000000
namespace Go.Proofs.YthgnlfikneipiaaGreat
open Go.RowKit
theorem wU:∀ p,∀ u∈kV p,u.oneCell'=true:=by intro p u a;simp[kV] at a;rcases a with rfl|rfl<;>rfl
theorem a6i:Tryz.prog.underlying 149=some (.slice 242):=by kernel_rfl
section
variable {base : Nat} {g : Nat} {lv : Value} {l : List (ByteArray × Sl)} {w w' : World}
theorem d7e (w:World) (v:Value) (i:Nat) (hs:cF 2 kV base 242 w v l) (hi:i < l.length) (hlen:l.length≤100000) :
  Calls Tryz.prog 103 #[v,.int .i64 (i:Int),.int .i64 ((i:Int)+1)] w fun e w'=>∃ v',e = .returned v'∧cF 2 kV base 242 w' v' (l.take i++l.drop (i+1))∧bR (blk v) w w'∧blk v'=blk v:=by
 rcases hs.2 with⟨-,L⟩|⟨g,cap,Q,rfl,-⟩
 ·omega
 obtain⟨-,V,W,X,b,I,t,F⟩:=hs.open_ fT;obtain⟨m,G⟩:∃ m,l.length=i+1+m:=⟨l.length-(i+1),by omega⟩
 have f:((l.drop (i+1)).flatMap kV).length=m*2:=by rw[dH fT,aH,G];congr 1;omega
 have z:((l.take i).flatMap kV).length=i*2:=by rw[dH fT,aJ];congr 1;omega
 have o:((l.take (i+1)).flatMap kV).length=(i+1)*2:=by rw[dH fT,aJ];congr 1;omega
 have B:eP b 0 ((l.take i).flatMap kV):=by rw[gO kV l i] at F;exact F.left
 have C:eP b ((i+1)*2) ((l.drop (i+1)).flatMap kV):=by rw[gO kV l (i+1)] at F;have:=F.right;rwa[o,aM] at this
 generalize y:(l.drop (i+1)).flatMap kV=cs at *
 have D:(i+1+m)*2≤b.size:=by rw[t];exact bO 2 (by omega)
 have a:i*2+cs.length≤b.size:=by rw[f];omega
 obtain⟨A,hA,p⟩:∃ A:Addr,(if cap=i+1 then some (⟨g,0,none⟩:Addr) else some ⟨g,(i+1)*2,none⟩)=some A∧∀ j u,cs[j]?=some u→w.cell? (A.add j)=some u:=by
  by_cases h:cap=i+1
  ·refine⟨⟨g,0,none⟩,by simp[h],fun j u x=>?_⟩;have L:cs.length=0:=by rw[f];omega
   rw[List.length_eq_zero_iff.1 L] at x;simp at x
  ·refine⟨⟨g,(i+1)*2,none⟩,by simp[h],fun j u x=>?_⟩;rw[dB];exact C.cell I j u x
 have E:∀ u∈cs,u.oneCell'=true:=by rw[← y];exact kI wU _
 have R:=bG (fun ty c=>rM (P:=Tryz.prog) (ty:=ty) (n:=i) (m:=m) (cap:=cap) (c:=c) (sz:=2) a6i (by kernel_rfl) w.drew I f p E (by omega) a);have J:=oO b (i*2) cs a;have M:=B.stay (i*2) cs a (.inl (by omega));have N:=eP.lay b (i*2) cs a;generalize iE b (i*2) cs=cur1 at *
 have r:(w.drew.setRow g cur1).heap[g]?=some (.cells cur1 242 (0,0)):=setRow_heap w.drew g b cur1 _ _ I;have d:(i+m)*2+1*2≤cur1.size:=by rw[J];omega
 have S:i+1+m-(i+m)=1:=by omega
 have O:=(fun ty c=>oP (P:=Tryz.prog) (ty:=ty) (c:=c) (n:=1) a6i sX rfl (by intro u x;simp[Value.cells] at x;rcases x with rfl|rfl<;>rfl) (w.drew.setRow g cur1) (by omega) r d)
 have T:Hid (∀ ty c,(Builtin.clear_ #[149] ty #[.slice (some ⟨g,(i+m)*2,none⟩) (i+1+m-(i+m)) c]).run Tryz.prog (w.drew.setRow g cur1) = .ok (.tuple #[]) ((w.drew.setRow g cur1).setRow g (iE cur1 ((i+m)*2) (Builtin.zeroCells (Value.agg #[.string ⟨#[]⟩,.slice none 0 0]).cells 1).toList))):=fun ty c=>by rw[S];exact O ty c
 clear O;have HK:=bG (show cF 2 kV base 242 ((w.drew.setRow g cur1).setRow g (iE cur1 ((i+m)*2) (Builtin.zeroCells (Value.agg #[.string ⟨#[]⟩,.slice none 0 0]).cells 1).toList)) (.slice (some ⟨g,0,none⟩) (i+m) cap) (l.take i++l.drop (i+1)) from by
  have K:(Builtin.zeroCells (Value.agg #[.string ⟨#[]⟩,.slice none 0 0]).cells 1).toList.length=2:=by rw[bD,size_zeroCells];rfl
  have s:(i+m)*2+(Builtin.zeroCells (Value.agg #[.string ⟨#[]⟩,.slice none 0 0]).cells 1).toList.length≤cur1.size:=by rw[K];omega
  refine cF.of_piece fT _ (by simp;omega) V (by simp;omega) X (setRow_heap _ g cur1 _ _ _ r) (by rw[oO _ _ _ s,J,t]) ?_;rw[bL,y];refine(M.stay _ _ s (.inl (by omega))).app ?_;rw[z,aM (i*2)];exact N.stay _ _ s (.inl (by omega)))
 clear hs F B C t I f z o p E a J M N r d y D;rw[G] at hlen W ⊢;have U:IntKind.i64.wrap ((i:Int)+1)=(i:Int)+1:=by rw[aQ];omega
 have Y:(0:Int)≤(i:Int)+1:=by omega
 have Z:(i:Int)+1≤(i:Int)+1+(m:Int):=by omega
 have q3:((i:Int)+1).toNat=i+1:=by omega
 have q4:i+1+m-(i+1)=m:=by omega
 have q5:i≤cap:=by omega
 have q6:¬ (cap=i+m):=by omega
 have q8:i+m≤i+1+m:=by omega
 have q9:(i:Int)+(m:Int)≤(i:Int)+1+(m:Int):=by omega
 go_enter Tryz.func103,Tryz.ntmps103;go_wp2_with fail
 go_region_law (refine rN rfl (.tmp 22) (.tmp 25) 149 rfl (.slice (some ⟨g,0,none⟩) i cap) (.slice (some A) m (cap-(i+1))) (by simp[Act.eval,Act.put]) (by simp[Act.eval,Act.put]) (R.out _ _) ?_)
 go_wp2_with (with_reducible refine mB rfl (.tmp 31) 149 rfl (.slice (some ⟨g,(i+m)*2,none⟩) (i+1+m-(i+m)) (cap-(i+m))) rfl (T.out _ _) ?_)
 go_ret;exact⟨_,rfl,HK.out,((bR.refl [g] w).drew.setRow g _ (.inl (by simp))).setRow g _ (.inl (by simp)),rfl⟩
theorem c5g (w:World) (k:ByteArray) (hs:jL base w g lv l) (hr:bV eR l) (hlen:l.length≤100000) (hk:True) (hn:cB eR l k=false) :
  Calls Tryz.prog 58 #[.pointer (some ⟨g,0,none⟩),sv k] w fun e w'=>e = .returned (.bool false)∧bR [] w w':=by
 have a:=jX w k hs hr hlen hk;rw[hn] at a;have c:=bG a;clear hs hr hlen hk a hn;go_enter Tryz.func58,Tryz.ntmps58;go_wp2_with fail
 with_reducible refine c.out.mono ?_
 rintro e d ⟨rfl,b⟩;go_wp2_with fail
 go_ret;exact⟨rfl,b⟩
theorem b8e (w:World) (k:ByteArray) (hs:jL base w g lv l) (hr:bV eR l) (hlen:l.length≤100000) (hk:True) (hn:cB eR l k=true) :
  Calls Tryz.prog 58 #[.pointer (some ⟨g,0,none⟩),sv k] w fun e w'=>e = .returned (.bool true)∧∃ lv',jL base w' g lv' (l.take (below eR l k)++l.drop (below eR l k+1))∧bR (g::blk lv) w w'∧blk lv'=blk lv:=by
 have u:=jX w k hs hr hlen hk;rw[hn] at u;have C:=bG u;have p:=bG hs;unfold cB at hn;have v:=(bI hn).1;have D:=bG (fun r (h:bR [] w r)=>d7e r lv (below eR l k) (hs.rows.upd h (by simp)) v hlen);have E:=bG (show w.cell? ⟨g,0,none⟩=some lv from hs.tab.cell 0);obtain⟨z,n,A,rfl⟩:=hs.rows.slice_;clear hs hr hk u hn;generalize below eR l k=i at *
 have F:IntKind.i64.wrap ((i:Int)+1)=(i:Int)+1:=by rw[aQ];omega
 go_enter Tryz.func58,Tryz.ntmps58;go_wp2_with fail
 with_reducible refine C.out.mono ?_
 rintro e r ⟨rfl,j⟩;have G:=j.cell E.out (by simp);have c:=bG j;go_wp2_with fail
 with_reducible refine(D.out r c.out).mono ?_
 rintro e s ⟨K,rfl,m,b,o⟩;have a:=p.out.g_lv;have J:s.frozen? ⟨g,0,none⟩=false:=((p.out.tab.upd c.out (by simp)).upd b a).frozen 0;have d2:s.cell? ⟨g,0,none⟩=some (.slice z n A):=b.cell G a;obtain⟨d,t,f,rfl⟩:=m.slice_
 have I:=bG (show jL base (s.setCell ⟨g,0,none⟩ (.slice d t f)) g (.slice d t f) (l.take i++l.drop (i+1)) from
  ⟨by simpa using((p.out.tab.upd c.out (by simp)).upd b a).set_ 0 (.slice d t f),m.upd ((bR.refl [g] _).setCell _ _ (.inl (by simp))) (by rw[o];intro x B;simp;rintro rfl;exact a B),p.out.gb⟩)
 have y:=bG (show bR (g::blk (.slice z n A)) w (s.setCell ⟨g,0,none⟩ (.slice d t f)) from(c.out.trans (T:=g::blk (.slice z n A)) b (by simp) (fun x B => .inl (by simp[B]))).setCell _ _ (.inl (by simp)));clear m j b a;go_wp2_with fail
 go_ret;exact⟨rfl,_,I.out,y.out,o⟩
end
section
variable {base : Nat} {g : Nat} {lv : Value} {l : List (ByteArray × Sl)} {w w' : World}
theorem b8f (w:World) (k:ByteArray) (hs:jL base w g lv l) (hr:bV eR l) (hlen:l.length≤100000) (hk:True) :
  Calls Tryz.prog 58 #[.pointer (some ⟨g,0,none⟩),sv k] w fun e w'=>e = .returned (.bool (cB eR l k))∧∃ lv',jL base w' g lv' (fS eR l k)∧bR (g::blk lv) w w'∧(∀ x∈blk lv',x∈blk lv∨w.heap.size≤x):=by
 cases b:cB eR l k with
 | false =>
  refine(c5g w k hs hr hlen hk b).mono ?_;rintro e w' ⟨rfl,a⟩;exact⟨rfl,lv,by unfold fS;rw[b];exact hs.upd0 a,a.mono (by simp),fun x c => .inl c⟩
 | true =>
  refine(b8e w k hs hr hlen hk b).mono ?_;rintro e w' ⟨rfl,d,f,a,h⟩;exact⟨rfl,d,by unfold fS;rw[b];exact f,a,fun x c => .inl (by rw[← h];exact c)⟩
end
section
variable {base : Nat} {g : Nat} {lv : Value} {l : List (ByteArray × Sl)} {w w' : World}
theorem c5h (w:World) (k:ByteArray) (hs:jL base w g lv l) (hr:bV eR l) (hlen:l.length≤100000) (hk:True) (hn:cB eR l k=false) :
  Calls Tryz.prog 56 #[.pointer (some ⟨g,0,none⟩),sv k] w fun e w'=>e = .returned (.tuple #[.slice none 0 0,.bool false])∧bR [] w w':=by
 have a:=jX w k hs hr hlen hk;rw[hn] at a;have c:=bG a;clear hs hr hlen hk a hn;go_enter Tryz.func56,Tryz.ntmps56;go_wp2_with fail
 refine c.out.mono ?_;rintro e d ⟨rfl,b⟩;go_wp2_with fail
 go_ret2
 exact⟨rfl,b⟩
theorem c5i (w:World) (k:ByteArray) (hs:jL base w g lv l) (hr:bV eR l) (hlen:l.length≤100000) (hk:True) (hn:cB eR l k=true) :
  Calls Tryz.prog 56 #[.pointer (some ⟨g,0,none⟩),sv k] w fun e w'=>e = .returned (.tuple #[gF (bT l (below eR l k)).2,.bool true])∧bR [] w w':=by
 have m:=jX w k hs hr hlen hk;rw[hn] at m;have p:=bG m;unfold cB at hn;have d:=(bI hn).1;obtain⟨B,t,rfl,u,o,a⟩:=hs.rows.rd fT;obtain⟨b,f,rfl,j⟩:=a (by intro h;simp[h] at d);have r:=bG (show w.cell? ⟨g,0,none⟩=some (.slice (some ⟨b,f,none⟩) l.length t) from hs.tab.cell 0);have s:=bG (show w.cell? ⟨b,f+below eR l k*2+1,none⟩=some (gF (bT l (below eR l k)).2) from j _ d 1 (by omega));clear hs hr hk m hn a j o;generalize (bT l (below eR l k)).2=x at *
 generalize below eR l k=i at *
 have v:(0:Int)≤i:=by omega
 have y:(i:Int) < l.length:=by omega
 go_enter Tryz.func56,Tryz.ntmps56;go_wp2_with fail
 refine p.out.mono ?_;rintro e C ⟨rfl,c⟩;have z:=c.cell r.out (by simp);have A:=c.cell s.out (by simp);go_wp2_with fail
 go_ret2
 exact⟨rfl,c⟩
theorem d1o (w:World) (i:Nat) (hs:jL base w g lv l) (hlen:l.length≤100000) (hi:i < l.length) :
  Calls Tryz.prog 60 #[.pointer (some ⟨g,0,none⟩),.int .i64 (i:Int)] w fun e w'=>e = .returned (.tuple #[sv (bT l i).1,gF (bT l i).2,.bool true])∧bR [] w w':=by
 obtain⟨t,j,rfl,m,f,a⟩:=hs.rows.rd fT;obtain⟨b,c,rfl,d⟩:=a (by intro h;simp[h] at hi);have o:w.cell? ⟨g,0,none⟩=some (.slice (some ⟨b,c,none⟩) l.length j):=hs.tab.cell 0;have p:w.cell? ⟨b,c+i*2,none⟩=some (sv (bT l i).1):=d _ hi 0 (by omega);have d2:w.cell? ⟨b,c+i*2+1,none⟩=some (gF (bT l i).2):=d _ hi 1 (by omega);clear hs a d f;generalize (bT l i).1=x at *
 generalize (bT l i).2=y at *
 have r:(0:Int)≤i:=by omega
 have s:(i:Int) < l.length:=by omega
 go_enter Tryz.func60,Tryz.ntmps60;go_wp2_with fail
 go_quiet (fail)
 go_wp2_with fail
 go_ret3
 exact⟨rfl,by first|exact(bR.refl [] _).drewN _|exact(bR.refl [] _).drew⟩
end
section
variable {base : Nat} {g : Nat} {lv : Value} {l : List (ByteArray × Sl)} {w w' : World}
theorem b8g (w:World) (k:ByteArray) (v:Sl) (hs:jL base w g lv l) (hr:bV eR l) (hlen:l.length≤100000) (hk:True) (hn:cB eR l k=true) :
  Calls Tryz.prog 57 #[.pointer (some ⟨g,0,none⟩),sv k,gF v] w fun e w'=>e = .returned (.bool false)∧jL base w' g lv (l.set (below eR l k) ((bT l (below eR l k)).1,v))∧bR (blk lv) w w':=by
 have o:=jX w k hs hr hlen hk;rw[hn] at o;have B:=bG o;have y:=bG hs;unfold cB at hn;have c:=(bI hn).1;have p:=hs.g_lv;rcases hs.rows.2 with⟨-,V⟩|⟨b,N,x,rfl,W,A,-⟩
 ·omega
 have C:=bG (show w.cell? ⟨g,0,none⟩=some (.slice (some ⟨b,0,none⟩) l.length N) from hs.tab.cell 0);have D:=bG c;have E:=bG (show ∃ u,w.cell? ⟨b,below eR l k*2+1,none⟩=some u from by
  obtain⟨G,I,J,-,-,f⟩:=hs.rows.rd fT;injection J with m X Y;obtain⟨U,K,L,t⟩:=f (by intro h;simp[h] at c);rw[L] at m;injection m with m;injection m with m O;subst m;subst O;exact⟨_,by simpa using t _ c 1 (by omega)⟩)
 have F:=bG A;clear hs hr hk o hn p A;generalize below eR l k=i at *
 have P:(0:Int)≤i:=by omega
 have Q:(i:Int) < l.length:=by omega
 go_enter Tryz.func57,Tryz.ntmps57;go_wp2_with fail
 with_reducible refine B.out.mono ?_
 rintro e j ⟨rfl,a⟩;have R:=a.cell C.out (by simp);obtain⟨u,M⟩:=E.out;have S:=a.cell M (by simp);have T:j.frozen? ⟨b,i*2+1,none⟩=false:=frozen_of_row j b _ x _ (a.heap F.out (by simp));go_wp2_with fail
 go_ret;have r:bR [b] j (j.setCell ⟨b,i*2+1,none⟩ (gF v)):=(bR.refl [b] j).setCell _ _ (.inl (by simp));have d:=y.out.upd0 a;have z:=D.out;have s:g≠b:=fun e=>y.out.g_lv (by rw[e];simp[blk])
 refine⟨rfl,⟨d.tab.upd r (by simpa using s),?_,d.gb⟩,?_⟩
 ·refine cF.set_ fT d.rows i 1 z (by omega) (gF v) _ ?_;rw[cO l i z];rfl
 ·exact(show bR [b] w j from a.mono (by simp)).setCell _ _ (.inl (by simp))
end
section
variable {base : Nat} {g : Nat} {lv : Value} {l : List (ByteArray × Sl)} {w w' : World}
theorem b3j (w:World) (v:Value) (vb:Nat) (x:ByteArray×Sl) (hs:cF 2 kV base 242 w v l) (hlen:l.length≤100000) (hbs:base≤w.heap.size) (hv:cU w vb 242 (kV x)) :
  Calls Tryz.prog 102 #[v,.int .i64 (l.length:Int),.slice (some ⟨vb,0,none⟩) 1 1] w fun e w'=>∃ v',e = .returned v'∧cF 2 kV base 242 w' v' (l++[x])∧bR (blk v) w w'∧(∀ y∈blk v',y∈blk v∨w.heap.size≤y):=by
 have b:qW 2 kV w (.slice (some ⟨vb,0,none⟩) 1 1) [x]:=⟨_,1,rfl,by simp,by simp[maxLen],fun _=>⟨vb,0,rfl,fun j o i G=>by
  simp at o;subst o;rw[hv.cell];simp[cP]⟩⟩
 have p:=bG (fun ty=>fR (P:=Tryz.prog) (ty:=ty) fT (by decide) wU a6i sX rfl v _ l [x] hs b (by simp;omega) (by simp[maxLen];omega) hbs);obtain⟨s,n,c,rfl⟩:=hs.slice_;have r:n=l.length∧l.length≤c:=by
  rcases hs.2 with⟨he,u⟩|⟨_,_,_,he,_,_,z,_⟩
  ·injection he with A h m;subst h;subst m;exact⟨u.symm,by omega⟩
  ·injection he with A h m;subst h;subst m;exact⟨rfl,z⟩
 obtain⟨rfl,t⟩:=r;clear hs b hv;have hd:c=l.length∨¬ c=l.length:=by omega
 rcases hd with hd|hd
 all_goals
  go_enter Tryz.func102,Tryz.ntmps102;go_wp2_with (at_builtin;refine cQ rfl _ _ rfl (.slice s l.length c) (.slice (some ⟨vb,0,none⟩) 1 1) rfl rfl (p.out _) ?_;rintro B C ⟨a,f,g⟩;have d:=bG a;obtain⟨D,E,F,rfl⟩:=a.slice_;clear a)
  go_ret;exact⟨_,rfl,d.out,f,g⟩
theorem e8y (w:World) (vb gb vo go_ la ca lb cb kA kB:Nat) (tA tB:TypeId) (hne:vb≠gb) (hsa:w.shape? vb=some (tA,kA)) (hsb:w.shape? gb=some (tB,kB)) (hkB:kB≠0) (hfa:w.frozen? ⟨vb,vo,none⟩=false) (hfe:w.frozen? ⟨vb,kA,none⟩=false) :
  (callFunc 160 #[.slice (some ⟨vb,vo,none⟩) la ca,.slice (some ⟨gb,go_,none⟩) lb cb]).run Tryz.prog w = .ok (.value (.bool false)) w:=by
 have a:∀ w,(sizeOf 242).run Tryz.prog w = .ok 2 w:=by
  intro w;obtain⟨i,b,d,c,f⟩:=info_parts sX;simp[sizeOf,typeInfo,b,c]
 rw[run_callFunc_extern Tryz.func160 (by kernel_rfl) (by kernel_rfl) (by kernel_rfl) (e:=Extern.SlicesOverlaps.overlaps #[149,149] #[4]) (by kernel_rfl),
  Lib.run_overlaps_apart w 149 4 242 a6i 2 a ⟨vb,vo,none⟩ ⟨gb,go_,none⟩ la ca lb cb hne tA tB kA kB hsa hsb hkB hfa hfe]
 rfl
theorem a4o (w:World) (g n cap i:Nat) (vb:Nat) (x:ByteArray×Sl) (hs:cF 2 kV base 242 w (.slice (some ⟨g,0,none⟩) n cap) l) (hi:i < l.length) (hroom:l.length+1≤cap) (hlen:l.length≤100000) (hv:cU w vb 242 (kV x)) (hvg:vb≠g) :
  Calls Tryz.prog 102 #[.slice (some ⟨g,0,none⟩) n cap,.int .i64 (i:Int),.slice (some ⟨vb,0,none⟩) 1 1] w fun e w'=>∃ v',e = .returned v'∧cF 2 kV base 242 w' v' (l.take i++x::l.drop i)∧bR [g] w w'∧(∀ y∈blk v',y∈[g]∨w.heap.size≤y):=by
 obtain⟨rfl,j,W1,F,m,o,HK,p,r,s,a,b,c,d,f⟩:=sS fT (by decide) wU a6i (by kernel_rfl) hs hi hroom hv hvg;have h:=bG (fun C D=>e8y w vb g 0 ((i+1)*2) 1 1 C D r s _ _ hvg a b c d f);clear hs hv a b c d f;generalize l.length=n at *
 obtain⟨G,I,J,K,L,M,N,O,P,Q,t,u,v,z,A,B⟩:=rP hi hlen hroom j;go_enter Tryz.func102,Tryz.ntmps102;go_wp2_with (simp only[h.out])
 go_region_law (refine fU rfl (.tmp 73) (.tmp 76) 149 149 rfl (.slice (some ⟨g,(i+1)*2,none⟩) (n+1-(i+1)) (cap-(i+1))) (.slice (some ⟨g,i*2,none⟩) (n+1-i) (cap-i)) (by simp[Act.eval,Act.put]) (by simp[Act.eval,Act.put]) (m.out _ _ _) ?_)
 go_wp2_with (with_reducible refine eG rfl (.tmp 80) (.tmp 81) 149 149 rfl (.slice (some ⟨g,i*2,none⟩) (n+1-i) (cap-i)) (.slice (some ⟨vb,0,none⟩) 1 1) rfl rfl (o.out _ _) ?_)
 go_ret;exact⟨_,rfl,HK.out,p.out,fun y E => .inl (by simpa [blk] using E)⟩
theorem a8y (w:World) (g n cap i:Nat) (vb:Nat) (x:ByteArray×Sl) (hs:cF 2 kV base 242 w (.slice (some ⟨g,0,none⟩) n cap) l) (hi:i < l.length) (hroom:cap < l.length+1) (hlen:l.length≤100000) (hbs:base≤w.heap.size) (hv:cU w vb 242 (kV x)) :
  Calls Tryz.prog 102 #[.slice (some ⟨g,0,none⟩) n cap,.int .i64 (i:Int),.slice (some ⟨vb,0,none⟩) 1 1] w fun e w'=>∃ v',e = .returned v'∧cF 2 kV base 242 w' v' (l.take i++x::l.drop i)∧bR [g] w w'∧(∀ y∈blk v',y∈[g]∨w.heap.size≤y):=by
 obtain⟨rfl,rfl,c,G,W1,z,A,a,b,d,f,h,j,HK,m⟩:=wI (Ti:=3) fT (by decide) wU a6i sX rfl (by decide) (by kernel_rfl) hs hi hroom hlen hbs hv;clear hs hroom hv;generalize l.length=n at *
 obtain⟨B,C,D,E,F,I,J,K,L,M,o,p,r,s,t,u⟩:=rP hi hlen a b;go_enter Tryz.func102,Tryz.ntmps102
 go_wp2_with (first
  | (at_builtin;refine lM rfl _ _ 149 3 rfl (.slice (some ⟨g,0,none⟩) i n) (.int .i64 ((n:Int)+1-(i:Int))) rfl rfl (f.out _) ?_)
  | (with_reducible refine eG rfl (.tmp 43) (.tmp 44) 149 149 rfl (.slice (some ⟨c,i*2,none⟩) (n+1-i) (G-i)) (.slice (some ⟨vb,0,none⟩) 1 1) rfl rfl (h.out _ _) ?_))
 go_region_law (refine fU rfl (.tmp 50) (.tmp 53) 149 149 rfl (.slice (some ⟨c,(i+1)*2,none⟩) (n+1-(i+1)) (G-(i+1))) (.slice (some ⟨g,i*2,none⟩) (n-i) (n-i)) (by simp[Act.eval,Act.put]) (by simp[Act.eval,Act.put]) (j.out _ _ _) ?_)
 go_wp2_with fail
 go_ret;exact⟨_,rfl,HK.out,m.out,fun y v => .inr (by simp[blk] at v;have:=d.out;omega)⟩
theorem b3k (w:World) (v:Value) (i:Nat) (vb:Nat) (x:ByteArray×Sl) (hs:cF 2 kV base 242 w v l) (hi:i≤l.length) (hlen:l.length≤100000) (hbs:base≤w.heap.size) (hv:cU w vb 242 (kV x)) (hvg:vb∉blk v) :
  Calls Tryz.prog 102 #[v,.int .i64 (i:Int),.slice (some ⟨vb,0,none⟩) 1 1] w fun e w'=>∃ v',e = .returned v'∧cF 2 kV base 242 w' v' (l.take i++x::l.drop i)∧bR (blk v) w w'∧(∀ y∈blk v',y∈blk v∨w.heap.size≤y):=by
 by_cases he:i=l.length
 ·subst he;rw[aV,List.drop_length];exact b3j w v vb x hs hlen hbs hv
 ·rcases hs.2 with⟨-,d⟩|⟨g,a,b,rfl,-⟩
  ·omega
  ·by_cases c:l.length+1≤a
   ·exact a4o w g l.length a i vb x hs (by omega) c hlen hv (by simpa [blk] using hvg)
   ·exact a8y w g l.length a i vb x hs (by omega) (by omega) hlen hbs hv
theorem b8h (w:World) (k:ByteArray) (y:Sl) (hs:jL base w g lv l) (hr:bV eR l) (hlen:l.length≤100000) (hbs:base≤w.heap.size) (hk:True) (hn:cB eR l k=false) :
  Calls Tryz.prog 57 #[.pointer (some ⟨g,0,none⟩),sv k,gF y] w fun e w'=>e = .returned (.bool true)∧∃ lv',jL base w' g lv' (l.take (below eR l k)++(k,y)::l.drop (below eR l k))∧bR (g::blk lv) w w'∧(∀ x∈blk lv',x∈blk lv∨w.heap.size≤x):=by
 have D:=jX w k hs hr hlen hk;rw[hn] at D;have I:=bG D;have t:=bG hs;have u:=iR (lt:=eR) l k;have J:=bG (fun r (h:bR [] w r)=>b3k (r.alloc (.cells #[sv k,gF y] 242)) lv (below eR l k) r.heap.size (k,y) (hs.rows.upd (h.alloc _) (by simp)) u hlen (by have:=h.size;simp;omega) (cU.new r _ [sv k,gF y]) (fun j=>by have:=(hs.rows.ge _ j).2;have:=h.size;omega));have G:=bG (show w.cell? ⟨g,0,none⟩=some lv from hs.tab.cell 0);obtain⟨A,n,B,rfl⟩:=hs.rows.slice_;clear hs hr hk D hn hbs u;generalize below eR l k=i at *
 go_enter Tryz.func57,Tryz.ntmps57;go_wp2_with fail
 with_reducible refine I.out.mono ?_
 rintro e r ⟨rfl,m⟩;have L:=m.cell G.out (by simp);have v:=bG m;go_wp2_with fail
 with_reducible refine(J.out r v.out).mono ?_
 rintro e C ⟨N,rfl,o,f,p⟩;have d:=t.out.g_lv;have a:=v.out.alloc (.cells #[sv k,gF y] 242);have M:C.frozen? ⟨g,0,none⟩=false:=((t.out.tab.upd a (by simp)).upd f d).frozen 0;have d2:C.cell? ⟨g,0,none⟩=some (.slice A n B):=f.cell (a.cell G.out (by simp)) d;obtain⟨b,s,c,rfl⟩:=o.slice_;have z:g∉blk (.slice b s c):=fun j=>by
  rcases p g j with q|q
  ·exact d q
  ·have:=t.out.tab.lt;have:=a.size;omega
 have K:=bG (show jL base (C.setCell ⟨g,0,none⟩ (.slice b s c)) g (.slice b s c) (l.take i++(k,y)::l.drop i) from
  ⟨by simpa using((t.out.tab.upd a (by simp)).upd f d).set_ 0 (.slice b s c),o.upd ((bR.refl [g] _).setCell _ _ (.inl (by simp))) (by intro x j;simp;rintro rfl;exact z j),t.out.gb⟩)
 have E:=bG (show bR (g::blk (.slice A n B)) w (C.setCell ⟨g,0,none⟩ (.slice b s c)) from(a.trans (T:=g::blk (.slice A n B)) f (by simp) (fun x j => .inl (by simp[j]))).setCell _ _ (.inl (by simp)));have F:=bG (show ∀ x∈blk (.slice b s c),x∈blk (.slice A n B)∨w.heap.size≤x from fun x j=>(p x j).imp id (fun h=>by have:=a.size;omega));clear o m f d z p a;go_wp2_with fail
 go_ret;exact⟨rfl,_,K.out,E.out,F.out⟩
theorem b8i (w:World) (k:ByteArray) (y:Sl) (hs:jL base w g lv l) (hr:bV eR l) (hlen:l.length≤100000) (hbs:base≤w.heap.size) (hk:True) :
  Calls Tryz.prog 57 #[.pointer (some ⟨g,0,none⟩),sv k,gF y] w fun e w'=>e = .returned (.bool (!cB eR l k))∧∃ lv',jL base w' g lv' (dD eR l k y)∧bR (g::blk lv) w w'∧(∀ x∈blk lv',x∈blk lv∨w.heap.size≤x):=by
 cases a:cB eR l k with
 | false =>
  refine(b8h w k y hs hr hlen hbs hk a).mono ?_;rintro e w' ⟨rfl,f,b,c,h⟩;exact⟨rfl,f,by unfold dD;rw[a];exact b,c,h⟩
 | true =>
  refine(b8g w k y hs hr hlen hk a).mono ?_;rintro e w' ⟨rfl,b,c⟩;refine⟨rfl,lv,?_,c.mono (fun x d => .inl (by simp[d])),fun x d => .inl d⟩;rw[sQ l k y a];exact b
end
section
variable {base : Nat} {g : Nat} {lv : Value} {l : List (ByteArray × Sl)} {w w' : World}
theorem c5j (w:World) (i:Int) (hi64:gR i) (hs:jL base w g lv l) (hi:i < 0) :
  Calls Tryz.prog 60 #[.pointer (some ⟨g,0,none⟩),.int .i64 i] w fun e w'=>e = .returned (.tuple #[.string ⟨#[]⟩,.slice none 0 0,.bool false])∧bR [] w w':=by
 obtain⟨c,d,rfl,f,b,a⟩:=hs.rows.rd fT;have h:w.cell? ⟨g,0,none⟩=some (.slice c l.length d):=hs.tab.cell 0;clear hs a b;go_enter Tryz.func60,Tryz.ntmps60;go_wp2_with fail
 go_quiet (fail)
 go_wp2_with fail
 go_ret3
 exact⟨rfl,by first|exact bR.refl [] _|exact(bR.refl [] _).alloc _|exact((bR.refl [] _).alloc _).drewN _⟩
theorem b8j (w:World) (i:Int) (hi64:gR i) (hs:jL base w g lv l) (hlen:l.length≤100000) (hi:(l.length:Int)≤i) :
  Calls Tryz.prog 60 #[.pointer (some ⟨g,0,none⟩),.int .i64 i] w fun e w'=>e = .returned (.tuple #[.string ⟨#[]⟩,.slice none 0 0,.bool false])∧bR [] w w':=by
 obtain⟨c,d,rfl,f,b,a⟩:=hs.rows.rd fT;have h:w.cell? ⟨g,0,none⟩=some (.slice c l.length d):=hs.tab.cell 0;have j:(0:Int)≤i:=by omega
 clear hs a b;go_enter Tryz.func60,Tryz.ntmps60;go_wp2_with fail
 go_quiet (fail)
 go_wp2_with fail
 go_ret3
 exact⟨rfl,by first|exact bR.refl [] _|exact(bR.refl [] _).alloc _|exact((bR.refl [] _).alloc _).drewN _⟩
end
structure nT (w0 w:World) (g:Nat) (F:List Nat) (l:List (ByteArray×Sl)):Prop where
 ex:∃ lv,F=g::blk lv∧jL w0.heap.size w g lv l
 ris:bV eR l
 old:bR [] w0 w
section
variable {w0 w w' : World} {g : Nat} {F : List Nat} {l : List (ByteArray × Sl)}
theorem nT.ge (h:nT w0 w g F l):∀ x∈F,w0.heap.size≤x∧x < w.heap.size:=by
 obtain⟨b,rfl,a⟩:=h.ex;exact a.lt
theorem nT.upd (h:nT w0 w g F l) {S:List Nat} (hu:bR S w w') (hs:∀ x∈F,x∉S) (hS:∀ x∈S,w0.heap.size≤x):nT w0 w' g F l:=by
 obtain⟨a,rfl,b⟩:=h.ex;exact⟨⟨a,rfl,b.upd hu hs⟩,h.ris,h.old.trans hu (by simp) (fun x c => .inr (hS x c))⟩
theorem nT.upd0 (h:nT w0 w g F l) (hu:bR [] w w'):nT w0 w' g F l:=h.upd hu (by simp) (by simp)
theorem a3h (w0 w:World) (hu:bR [] w0 w) :
  Calls Tryz.prog 32 #[] w fun e w'=>∃ g F,e = .returned (.pointer (some ⟨g,0,none⟩))∧nT w0 w' g F []∧bR [] w w'∧(∀ x∈F,w.heap.size≤x):=by
 refine(b8d w).mono ?_;rintro e w' ⟨rfl,b,a⟩;exact⟨_,_,rfl,⟨⟨_,rfl,⟨b.tab,cF.nil _ _ _,hu.size⟩⟩,bV.nil,hu.seq a⟩,a,fun x c=>(b.lt x c).1⟩
theorem d1p (k:ByteArray) (y:Sl) (r:Bool) (l':List (ByteArray×Sl)) (hs:nT w0 w g F l) (hlen:l.length≤100000) (hk:True) (h1:(!cB eR l k)=r) (h2:dD eR l k y=l') :
  Calls Tryz.prog 57 #[.pointer (some ⟨g,0,none⟩),sv k,gF y] w fun e w'=>e = .returned (.bool r)∧∃ F',nT w0 w' g F' l'∧bR F w w'∧(∀ x∈F',x∈F∨w.heap.size≤x):=by
 subst h1;subst h2;have a:=hs.old;obtain⟨⟨m,rfl,f⟩,h,-⟩:=hs;refine(b8i w k y f h hlen a.size hk).mono ?_;rintro e w' ⟨rfl,b,d,i,j⟩;refine⟨rfl,g::blk b,⟨⟨b,rfl,d⟩,h.set_ gB k y,a.trans i (by simp) (fun x c => .inr (f.lt x c).1)⟩,i,fun x c=>?_⟩;rcases aG.1 c with rfl|c
 ·exact .inl (by simp)
 ·exact(j x c).imp (fun q=>by simp[q]) id
theorem d1q (k:ByteArray) (r:Bool) (l':List (ByteArray×Sl)) (hs:nT w0 w g F l) (hlen:l.length≤100000) (hk:True) (h1:cB eR l k=r) (h2:fS eR l k=l') :
  Calls Tryz.prog 58 #[.pointer (some ⟨g,0,none⟩),sv k] w fun e w'=>e = .returned (.bool r)∧∃ F',nT w0 w' g F' l'∧bR F w w'∧(∀ x∈F',x∈F∨w.heap.size≤x):=by
 subst h1;subst h2;have a:=hs.old;obtain⟨⟨m,rfl,f⟩,h,-⟩:=hs;refine(b8f w k f h hlen hk).mono ?_;rintro e w' ⟨rfl,b,d,i,j⟩;refine⟨rfl,g::blk b,⟨⟨b,rfl,d⟩,h.del gB k,a.trans i (by simp) (fun x c => .inr (f.lt x c).1)⟩,i,fun x c=>?_⟩;rcases aG.1 c with rfl|c
 ·exact .inl (by simp)
 ·exact(j x c).imp (fun q=>by simp[q]) id
theorem a3i (k:ByteArray) (y:Sl) (r:Bool) (hs:nT w0 w g F l) (hlen:l.length≤100000) (hk:True) (h:fC eR (⟨none,0,0⟩:Sl) l k=(y,r)) :
  Calls Tryz.prog 56 #[.pointer (some ⟨g,0,none⟩),sv k] w fun e w'=>e = .returned (.tuple #[gF y,.bool r])∧bR [] w w':=by
 obtain⟨⟨i,rfl,d⟩,f,-⟩:=hs;unfold fC at h;cases a:cB eR l k with
 | false=>rw[a] at h;injection h with b c;subst b;subst c;exact c5h w k d f hlen hk a
 | true=>rw[a] at h;injection h with b c;subst b;subst c;exact c5i w k d f hlen hk a
theorem b3l (n:Int) (hs:nT w0 w g F l) (h:(l.length:Int)=n) :
  Calls Tryz.prog 59 #[.pointer (some ⟨g,0,none⟩)] w fun e w'=>e = .returned (.int .i64 n)∧w=w':=by
 subst h;obtain⟨⟨b,rfl,a⟩,c,-⟩:=hs;exact b8c w a
theorem c1u (i:Int) (k:ByteArray) (y:Sl) (r:Bool) (hi:gR i) (hs:nT w0 w g F l) (hlen:l.length≤100000) (h:tAt (⟨#[]⟩:ByteArray) (⟨none,0,0⟩:Sl) l i=(k,y,r)) :
  Calls Tryz.prog 60 #[.pointer (some ⟨g,0,none⟩),.int .i64 i] w fun e w'=>e = .returned (.tuple #[sv k,gF y,.bool r])∧bR [] w w':=by
 obtain⟨⟨m,rfl,b⟩,o,-⟩:=hs;unfold tAt at h;split at h
 ·rename_i hd;obtain⟨j,rfl⟩:=Int.eq_ofNat_of_zero_le hd.1;injection h with c a;injection a with a d;subst c;subst a;subst d;exact d1o w j b hlen (by omega)
 ·rename_i hd;injection h with c a;injection a with a d;subst c;subst a;subst d;by_cases f:i < 0
  ·exact c5j w i hi b f
  ·exact b8j w i hi b hlen (by omega)
end
abbrev CF:=List (ByteArray×(Sl×List UInt8))
abbrev kX (cs:CF):List (ByteArray×Sl):=gA id (·.1) cs
abbrev fY (cs:CF):DF:=gA id (·.2) cs
section
variable {ν μ : Type} [Inhabited ν] [Inhabited μ]
theorem sY (a b:ByteArray) (h:bY a b=true):a≠b:=by rintro rfl;rw[gB.irr] at h;exact absurd h (by simp)
theorem uJ {α:Type} [Inhabited α] {l:List α} {n:Nat} {p:α} (h:p∈l.take n):∃ i,i < n∧i < l.length∧bT l i=p:=by
 obtain⟨i,a,rfl⟩:=List.mem_iff_getElem.1 h;rw[aJ] at a;exact⟨i,by omega,by omega,by rw[cO l i (by omega)];simp⟩
theorem uK {α:Type} [Inhabited α] {l:List α} {n:Nat} {p:α} (h:p∈l.drop n):∃ i,n≤i∧i < l.length∧bT l i=p:=by
 obtain⟨i,a,rfl⟩:=List.mem_iff_getElem.1 h;rw[aH] at a;exact⟨n+i,by omega,by omega,by rw[cO l _ (by omega)];simp⟩
theorem pL {l:List (ByteArray×ν)} (h:bV bY l) (k:ByteArray) (v:ν) (p:ByteArray×ν) (hp:p∈dD bY l k v):p=(k,v)∨(p∈l∧p.1≠k):=by
 unfold dD at hp;rcases aI.1 hp with hp|hp
 ·obtain⟨i,b,a,rfl⟩:=uJ hp;exact .inr ⟨eM i a,sY _ _ (kJ l k i b)⟩
 ·rcases aG.1 hp with hp|hp
  ·exact .inl hp
  ·obtain⟨i,b,a,rfl⟩:=uK hp;exact .inr ⟨eM i a,(sY _ _ (a5s gB h k i b a)).symm⟩
theorem c5k {l:List (ByteArray×ν)} (h:bV bY l) (k:ByteArray) (p:ByteArray×ν) (hp:p∈fS bY l k):p∈l∧(cB bY l k=true→p.1≠k):=by
 refine⟨iG l k p hp,fun a=>?_⟩;unfold fS at hp;rw[if_pos a] at hp;rcases aI.1 hp with hp|hp
 ·obtain⟨i,b,c,rfl⟩:=uJ hp;exact sY _ _ (kJ l k i b)
 ·obtain⟨i,b,c,rfl⟩:=uK hp;exact(sY _ _ (a5s gB h k i (by rw[if_pos a];exact b) c)).symm
variable (f : ν → μ)
theorem sZ (l:List (ByteArray×ν)) (k:ByteArray):cB bY (gA id f l) k=cB bY l k:=sR (lt:=bY) (lt':=bY) id f (fun _=>True) (fun _ _ _ _=>rfl) (fun _ _ _ _ h=>h) l (fun _ _=>trivial) k trivial
theorem a3j (l:List (ByteArray×ν)) (k:ByteArray):below bY (gA id f l) k=below bY l k:=nG (lt:=bY) (lt':=bY) id f (fun _=>True) (fun _ _ _ _=>rfl) l (fun _ _=>trivial) k trivial
theorem b3m (l:List (ByteArray×ν)) (k:ByteArray) (v:ν):dD bY (gA id f l) k (f v)=gA id f (dD bY l k v):=b1x (lt:=bY) (lt':=bY) id f (fun _=>True) (fun _ _ _ _=>rfl) (fun _ _ _ _ h=>h) l (fun _ _=>trivial) k trivial v
theorem b3n (l:List (ByteArray×ν)) (k:ByteArray):fS bY (gA id f l) k=gA id f (fS bY l k):=b1y (lt:=bY) (lt':=bY) id f (fun _=>True) (fun _ _ _ _=>rfl) (fun _ _ _ _ h=>h) l (fun _ _=>trivial) k trivial
theorem b3o (l:List (ByteArray×ν)):(gA (κ':=ByteArray) id f l).length=l.length:=by simp[gA]
theorem zV {l:List (ByteArray×ν)} (h:bV bY (gA (κ':=ByteArray) id f l)):bV bY l:=fun i j a b=>by
 have c:=b3o f l;have:=h i j a (by rw[c];exact b);rwa[fD id f l i (by omega),fD id f l j b] at this
theorem a8z {l:List (ByteArray×ν)} (h:bV bY l):bV bY (gA (κ':=ByteArray) id f l):=fun i j a c=>by
 have b:=b3o f l;rw[fD id f l i (by omega),fD id f l j (by omega)];exact h i j a (by omega)
end
theorem mC (cs:CF):(fY cs).length=cs.length:=by simp[gA]
theorem gV (cs:CF):(kX cs).length=cs.length:=by simp[gA]
structure TD (w0 w:World) (g:Nat) (F B:List Nat) (K:KB) (cs:CF):Prop where
 tab:nT w0 w g F (kX cs)
 sh:∀ c∈cs,Sh B K c.2.1 c.2.2
 gr:∀ c∈cs,Gr B K c.2.1 c.2.2
 ap:∀ c∈cs,∀ d∈cs,c.1≠d.1→Ap (gb c.2.1) (gb d.2.1)
theorem c1v {w0 w:World} {g:Nat} {F:List Nat} {l:List (ByteArray×Sl)} (h:nT w0 w g F l):∀ x∈F,∃ C f e,w.heap[x]?=some (.cells C e f)∧(e=151∨e=242):=by
 intro x a;obtain⟨d,rfl,b⟩:=h.ex;rcases aG.1 a with rfl|a
 ·exact⟨_,_,_,b.tab,.inl rfl⟩
 ·obtain⟨C,f,c⟩:=b.rows.typ x a;exact⟨C,f,_,c,.inr rfl⟩
theorem zW {w:World} {x:Nat} {C C':Array Value} {e e':TypeId} {f f':Nat×Nat} (h:w.heap[x]?=some (.cells C e f)) (h':w.heap[x]?=some (.cells C' e' f')):e=e':=by
 rw[h] at h';injection h' with a;injection a
theorem a9a {w0 w:World} {g base:Nat} {F B:List Nat} {K:KB} {l:List (ByteArray×Sl)} (h:nT w0 w g F l) (k:yD base w B K):Ap F B:=by
 intro x c d;obtain⟨C,f,e,i,a⟩:=c1v h x c;obtain⟨j,m,b⟩:=k.typ x d;have:=zW i b;rcases a with a|a<;>(rw[a] at this;exact absurd this (by decide))
section
variable {w0 w w' : World} {g : Nat} {F B B' : List Nat} {K K' : KB} {cs : CF}
theorem TD.ris (h:TD w0 w g F B K cs):bV bY cs:=zV (fun x:Sl×List UInt8=>x.1) h.tab.ris
theorem TD.risD (h:TD w0 w g F B K cs):bV bY (fY cs):=a8z (fun x:Sl×List UInt8=>x.2) h.ris
theorem TD.upd (h:TD w0 w g F B K cs) {S:List Nat} (hu:bR S w w') (hs:∀ x∈F,x∉S) (hS:∀ x∈S,w0.heap.size≤x):TD w0 w' g F B K cs:=⟨h.tab.upd hu hs hS,h.sh,h.gr,h.ap⟩
theorem TD.upd0 (h:TD w0 w g F B K cs) (hu:bR [] w w'):TD w0 w' g F B K cs:=h.upd hu (by simp) (by simp)
theorem TD.keep (h:TD w0 w g F B K cs) (he:Ext B K B' K') (hk:∀ x∈B,K' x=K x):TD w0 w g F B' K' cs :=
 ⟨h.tab,fun c a=>(h.sh c a).ext he,fun c a=>(h.gr c a).keep he.sub hk,h.ap⟩
def d1r (cs:CF):Prop:=∀ c∈cs,c.2.1.k≤c.2.1.n
theorem TD.ext (h:TD w0 w g F B K cs) (hf:d1r cs) (he:Ext B K B' K'):TD w0 w g F B' K' cs :=
 ⟨h.tab,fun c a=>(h.sh c a).ext he,fun c a=>Gr.full (hf c a),h.ap⟩
theorem d1s (cs:CF) (k:ByteArray) (h:cB bY cs k=true):fC bY (⟨none,0,0⟩:Sl) (kX cs) k=((bT cs (below bY cs k)).2.1,true):=by
 have a:below bY cs k < cs.length:=by unfold cB at h;exact(bI h).1
 unfold fC;rw[sZ (·.1) cs k,h,if_pos rfl,a3j (·.1) cs k,fD id (·.1) cs _ a]
theorem b3p (cs:CF) (k:ByteArray) (h:cB bY cs k=false):fC bY (⟨none,0,0⟩:Sl) (kX cs) k=(⟨none,0,0⟩,false):=by
 unfold fC;rw[sZ (·.1) cs k,h];rfl
theorem e3h (cs:CF) (k:ByteArray) (h:cB bY cs k=true):dI (fY cs) k=((bT cs (below bY cs k)).2.2,true):=by
 have a:below bY cs k < cs.length:=by unfold cB at h;exact(bI h).1
 unfold dI fC;rw[sZ (·.2) cs k,h,if_pos rfl,a3j (·.2) cs k,fD id (·.2) cs _ a]
theorem c1w (cs:CF) (k:ByteArray):uI (fY cs) k=cB bY cs k:=sZ (·.2) cs k
theorem TD.found (h:TD w0 w g F B K cs) (k:ByteArray):∃ s l b,fC bY (⟨none,0,0⟩:Sl) (kX cs) k=(s,b)∧dI (fY cs) k=(l,b)∧uI (fY cs) k=b∧Sh B K s l∧Gr B K s l∧(∀ d∈cs,d.1≠k→Gr B K d.2.1 d.2.2∧Ap (gb d.2.1) (gb s)):=by
 cases a:cB bY cs k with
 | true =>
  have hd:below bY cs k < cs.length∧(bT cs (below bY cs k)).1=k:=by unfold cB at a;exact bI a
  have f:=eM (l:=cs) _ hd.1;exact⟨_,_,true,d1s cs k a,e3h cs k a,by rw[c1w,a],h.sh _ f,h.gr _ f,fun d c i=>⟨h.gr d c,h.ap d c _ f (by rw[hd.2];exact i)⟩⟩
 | false =>
  refine⟨⟨none,0,0⟩,[],false,b3p cs k a,a8t (by rw[c1w,a]),by rw[c1w,a],Sh.nil,Gr.full (aF _),fun d hd _=>⟨h.gr d hd,fun x _ j=>?_⟩⟩;rw[a7s (aF _)] at j;simp at j
def wV (w0 w:World) (g:Nat) (F B:List Nat) (K:KB) (fs':DF) (w':World):Prop :=
 ∃ F' B' K' cs',TD w0 w' g F' B' K' cs'∧yD w0.heap.size w' B' K'∧Ext B K B' K'∧fY cs'=fs'∧bR (F++B) w w'∧(∀ x∈F',x∈F∨w.heap.size≤x)∧(∀ x∈B',x∈B∨w.heap.size≤x)
theorem a3k (k:ByteArray) (s:Sl) (l:List UInt8) (ht:nT w0 w g F (kX cs)) (hB:yD w0.heap.size w B K) (hlen:cs.length≤100000) (hc:∀ d∈cs,d.1≠k→Sh B K d.2.1 d.2.2∧Gr B K d.2.1 d.2.2∧Ap (gb d.2.1) (gb s)) (hap:∀ c∈cs,∀ d∈cs,c.1≠d.1→Ap (gb c.2.1) (gb d.2.1)) (hs:Sh B K s l) (hg:Gr B K s l) :
  Calls Tryz.prog 57 #[.pointer (some ⟨g,0,none⟩),sv k,gF s] w fun e w'=>(∃ r,e = .returned (.bool r))∧∃ F',TD w0 w' g F' B K (dD bY cs k (s,l))∧yD w0.heap.size w' B K∧bR F w w'∧(∀ x∈F',x∈F∨w.heap.size≤x):=by
 have i:bV bY cs:=zV (fun x:Sl×List UInt8=>x.1) ht.ris;refine(d1p k s _ _ ht (by rw[gV];exact hlen) trivial rfl rfl).mono ?_;rintro e w' ⟨rfl,F',m,o,j⟩;have a:dD eR (kX cs) k s=kX (dD bY cs k (s,l)):=b3m (·.1) cs k (s,l);rw[a] at m;refine⟨⟨_,rfl⟩,F',⟨m,fun c f=>?_,fun c f=>?_,fun c f d hd h=>?_⟩,hB.upd o (a9a ht hB).symm,o,j⟩
 ·rcases pL i k _ c f with rfl|⟨q,b⟩
  ·exact hs
  ·exact(hc c q b).1
 ·rcases pL i k _ c f with rfl|⟨q,b⟩
  ·exact hg
  ·exact(hc c q b).2.1
 ·rcases pL i k _ c f with rfl|⟨q,b⟩<;>rcases pL i k _ d hd with rfl|⟨r,p⟩
  ·exact absurd rfl h
  ·exact(hc d r p).2.2.symm
  ·exact(hc c q b).2.2
  ·exact hap c q d r h
theorem d1t (k:ByteArray) (h:TD w0 w g F B K cs) (hB:yD w0.heap.size w B K) (hlen:cs.length≤100000) :
  Calls Tryz.prog 58 #[.pointer (some ⟨g,0,none⟩),sv k] w fun e w'=>(∃ r,e = .returned (.bool r))∧∃ F',TD w0 w' g F' B K (fS bY cs k)∧yD w0.heap.size w' B K∧bR F w w'∧(∀ x∈F',x∈F∨w.heap.size≤x):=by
 refine(d1q k _ _ h.tab (by rw[gV];exact hlen) trivial rfl rfl).mono ?_;rintro e w' ⟨rfl,F',j,l,f⟩;have a:fS eR (kX cs) k=kX (fS bY cs k):=b3n (·.1) cs k;rw[a] at j;exact⟨⟨_,rfl⟩,F',⟨j,fun c b=>h.sh c (iG cs k c b),fun c b=>h.gr c (iG cs k c b),fun c b d hd i=>h.ap c (iG cs k c b) d (iG cs k d hd) i⟩,hB.upd l (a9a h.tab hB).symm,l,f⟩
theorem a3l (cs:CF) (k:ByteArray) (s:Sl) (l:List UInt8):fY (dD bY cs k (s,l))=dD bY (fY cs) k l:=(b3m (·.2) cs k (s,l)).symm
theorem d1u (cs:CF) (k:ByteArray):fY (fS bY cs k)=fS bY (fY cs) k:=(b3n (·.2) cs k).symm
end
abbrev wrv (x:Wr) (sl:Sl):Value := .agg #[.int .i64 x.kd,sv x.nm,sv x.tn,gF sl,.int .i64 x.n]
section
variable {w0 w w' : World} {g : Nat} {F B : List Nat} {K : KB} {cs : CF}
theorem wV.of {w1 w2:World} {F' B':List Nat} {K':KB} {cs':CF} {fs':DF} (h1:TD w0 w2 g F' B' K' cs') (h2:yD w0.heap.size w2 B' K') (h3:Ext B K B' K') (h4:fY cs'=fs') (hu:bR [] w w1) (hu2:bR (F++B) w1 w2) (hf:∀ x∈F',x∈F∨w.heap.size≤x) (hb:∀ x∈B',x∈B∨w.heap.size≤x):wV w0 w g F B K fs' w2 :=
 ⟨F',B',K',cs',h1,h2,h3,h4,hu.trans hu2 (by simp) (fun x a => .inl a),hf,hb⟩
theorem a9b {F:List Nat} {s:Sl} (h:s.k≤s.n):Ap F (gb s):=fun x _ a=>by rw[a7s h] at a;simp at a
theorem d1v (nm tn:ByteArray) (p:List UInt8) (n:Int) (fs:DF):eC ⟨1,nm,tn,p,n⟩ fs=dD bY fs nm []:=by unfold eC;simp
theorem d1w (nm tn:ByteArray) (p:List UInt8) (n:Int) (fs:DF):eC ⟨2,nm,tn,p,n⟩ fs=dD bY fs nm ((dI fs nm).1++p):=by unfold eC;simp
theorem b3q (nm tn:ByteArray) (p:List UInt8) (n:Int) (fs:DF):eC ⟨3,nm,tn,p,n⟩ fs=if uI fs nm then dD bY (fS bY fs nm) tn (dI fs nm).1 else fs:=by unfold eC;simp
theorem d1x (nm tn:ByteArray) (p:List UInt8) (n:Int) (fs:DF):eC ⟨4,nm,tn,p,n⟩ fs=dD bY fs nm ((dI fs nm).1.take n.toNat):=by unfold eC;simp
theorem d1y (nm tn:ByteArray) (p:List UInt8) (n:Int) (fs:DF):eC ⟨5,nm,tn,p,n⟩ fs=fS bY fs nm:=by unfold eC;simp
theorem later {F:List Nat} {w w2:World} {x:Nat} (hu:bR [] w w2) (h:x∈F∨w2.heap.size≤x):x∈F∨w.heap.size≤x:=h.imp id (fun q=>by have:=hu.size;omega)
theorem c5l (x:Wr) (sl:Sl) (hx:wR x (fY cs)) (ht:TD w0 w g F B K cs) (hB:yD w0.heap.size w B K) (hp:Sh B K sl x.p) :
  Calls Tryz.prog 34 #[wrv x sl,.pointer (some ⟨g,0,none⟩)] w fun e w'=>e = .returned (.tuple #[])∧wV w0 w g F B K (eC x (fY cs)) w':=by
 obtain⟨kd,o,O,p,n⟩:=x;obtain⟨pa,pn,pk⟩:=sl;obtain⟨⟨X,on,ok⟩,old,b,Y,b6,b7,b8,b9,Z⟩:=ht.found o;have z:cs.length≤100000:=by have:=hx.len;rw[mC] at this;omega
 have a5:(kX cs).length≤100000:=by rw[gV];exact z
 have a0:=hB;have R:bR [] w (w.alloc (.cells #[.int .i64 kd,sv o,sv O,.slice pa pn pk,.int .i64 n] 116)):=(bR.refl [] w).alloc _;have HT:=bG (ht.upd0 R);have HB:=bG (hB.upd R (by simp));have a6:=bG (cU.new w 116 [.int .i64 kd,sv o,sv O,.slice pa pn pk,.int .i64 n]);have a7:=bG Y;have HX:=bG hx;have a8:=bG R;have A:=bG b8;have a9:=bG b9;have D:=bG Z;have HP:=bG hp;have E:=bG b6;have a1:=bG b7;have c6:=bG a5;have s:=bG z;have v:=hx.kd;clear ht hB Y hx R b8 b9 Z hp b6 b7 a0 a5 z;go_enter Tryz.func34,Tryz.ntmps34;go_wp2_with fail
 (with_reducible refine(a3i o ⟨X,on,ok⟩ b HT.out.tab c6.out trivial a7.out).mono ?_)
 rintro e Q ⟨rfl,J⟩;have u:=a6.out.upd J (by simp);have d0:=u.cell 0;have d1:=u.cell 1;have d2:=u.cell 2;have d3:=u.cell 3;have d4:=u.cell 4;simp only[List.getElem?_cons_zero,List.getElem?_cons_succ] at d0 d1 d2 d3 d4;have a:=bG (HT.out.upd0 J);have l:=bG (HB.out.upd J (by simp));have i:=bG (a8.out.seq J);have a2:Hid (w.heap.size∉F):=fun hx=>by
  obtain⟨C,f,e,h1,h2⟩:=c1v a.out.tab _ hx;have:=zW h1 u;rcases h2 with h2|h2<;>(rw[h2] at this;exact absurd this (by decide))
 have b0:Hid (w.heap.size∉B):=fun hx=>by
  obtain⟨C,f,h1⟩:=l.out.typ _ hx;exact absurd (zW h1 u) (by decide)
 clear u J HT HB a6 a8;rcases (show kd=1∨kd=2∨kd=3∨kd=4∨kd=5 by have:=v.1;have:=v.2;omega) with rfl|rfl|rfl|rfl|rfl
 ·clear v;go_wp2_with fail
  (with_reducible refine(a3k o ⟨none,0,0⟩ [] a.out.tab l.out s.out (fun d hd t=>⟨a.out.sh d hd,a.out.gr d hd,a9b (aF _)⟩) a.out.ap Sh.nil (Gr.full (aF _))).mono ?_)
  rintro e w3 ⟨⟨r,rfl⟩,F3,L,h,c,j⟩;have U:=bG (wV.of (fs':=eC ⟨1,o,O,p,n⟩ (fY cs)) (w:=w) (B:=B) (K:=K) (F:=F) L h (Ext.refl _ _) (by rw[a3l,d1v o O p n]) i.out (c.mono (fun x hx => .inl (by simp[hx]))) (fun x hx=>later i.out (j x hx)) (fun x hx => .inl hx));clear L h c j;go_wp2_with fail
  go_end0
  exact⟨rfl,U.out⟩
 ·clear v;obtain⟨t,V⟩:=HX.out.put rfl;dsimp only at t V;rw[E.out] at V;dsimp only at V;have b1:Hid (∀ ty,∃ v' w',(Builtin.append_ #[33,33] ty #[gF ⟨X,on,ok⟩,gF ⟨pa,pn,pk⟩]).run Tryz.prog Q.drew = .ok v' w'∧e6c w0.heap.size Q.drew B K ⟨X,on,ok⟩ (old++p) v' w'):=fun ty=>c9t (l.out.upd (bR.refl [] Q).drew (by simp)) A.out a9.out (HP.out.rd (l.out.upd (bR.refl [] Q).drew (by simp))) t (by omega) (by have:=a.out.tab.old.size;exact this)
  clear t V;have c7:Hid (∀ x∈F,x∉B):=a9a a.out.tab l.out;go_wp2_with fail
  go_region_held3 (fun w'=>w'.cell? ⟨w.heap.size,1,none⟩=some (sv o)∧w'.cell? ⟨w.heap.size,3,none⟩=some (.slice pa pn pk)) (first|go_keep|exact k5|exact k4)
   (first
    | ((with_reducible refine jS rfl (.tmp 26) (.tmp 28) rfl (.slice X on ok) (.slice pa pn pk) rfl rfl (b1.out _) ?_);(rintro v3 w3 ⟨⟨sa,sn,sk⟩,B3,K3,rfl,h,c1,c2,c3,c4,c,c5⟩;have k4:=And.intro (c.cell (p:=⟨w.heap.size,1,none⟩) d1 b0.out) (c.cell (p:=⟨w.heap.size,3,none⟩) d3 b0.out);have a3:=bG h;have b2:=bG c1;have c8:=bG c2;have c9:=bG c3;have d5:=bG c4;have G:=bG c;have a4:=bG c5;clear h c1 c2 c3 c4 c c5;dsimp only))
    | (go_at_call 57;(with_reducible refine(a3k o ⟨sa,sn,sk⟩ (old++p) (a.out.tab.upd (S:=B) ((bR.refl [] Q).drew.trans G.out (by simp) (fun x hx => .inl hx)) c7.out (fun x hx=>(l.out.ge x hx).1)) a3.out s.out (fun d hd t=>⟨(a.out.sh d hd).ext b2.out,a4.out _ _ (D.out d hd t).1 (D.out d hd t).2⟩) a.out.ap c9.out d5.out).mono ?_);(rintro e w4 ⟨⟨r,rfl⟩,F4,h4,M,y,N⟩;have k5:=And.intro (y.cell (p:=⟨w.heap.size,1,none⟩) k4.1 a2.out) (y.cell (p:=⟨w.heap.size,3,none⟩) k4.2 a2.out);dsimp only)))
  have I:bR B w w3:=i.out.drew.trans G.out (by simp) (fun x hx => .inl hx);have U:Hid (wV w0 w g F B K (eC ⟨2,o,O,p,n⟩ (fY cs)) w4):=⟨F4,B3,K3,_,h4,M,b2.out,by rw[a3l,d1w,E.out],I.trans y (fun x hx=>by simp[hx]) (fun x hx => .inl (by simp[hx])),fun x hx=>(N x hx).imp id (fun q=>by have:=I.size;omega),fun x hx=>(c8.out x hx).imp id (fun q=>by have:=i.out.size;have:Q.drew.heap.size=Q.heap.size:=rfl;omega)⟩
  clear h4 M y N I;go_wp2_with fail
  go_end0
  exact⟨rfl,U.out⟩
 ·clear v;cases b with
  | false =>
   go_wp2_with fail
   go_end0
   exact⟨rfl,wV.of (w:=w) (B:=B) (K:=K) (F:=F) a.out l.out (Ext.refl _ _) (by rw[b3q,a1.out];rfl) (bR.refl _ _) (i.out.mono (by simp)) (fun x hx => .inl hx) (fun x hx => .inl hx)⟩
  | true =>
   go_wp2_with fail
   (with_reducible refine(d1t o a.out l.out s.out).mono ?_)
   rintro e w3 ⟨⟨r,rfl⟩,F3,L,h,c,j⟩;have e2:=c.cell d2 (a2.out);have H3:=bG L;have a3:=bG h;have G:=bG c;have b3:=bG j;clear L h c j d0 d1 d2 d3 d4;have d6:Hid (List.length (fS bY cs o)≤100000):=aL (b1v cs o) s.out;have a4:Hid (∀ d∈fS bY cs o,Gr B K d.2.1 d.2.2∧Ap (gb d.2.1) (gb ⟨X,on,ok⟩)):=fun d hd=>by
    obtain⟨h1,h2⟩:=c5k a.out.ris o d hd;exact D.out d h1 (h2 (by rw[← c1w];exact a1.out))
   go_wp2_with fail
   (with_reducible refine(a3k O ⟨X,on,ok⟩ old H3.out.tab a3.out d6.out (fun d hd t=>⟨H3.out.sh d hd,a4.out d hd⟩) H3.out.ap A.out a9.out).mono ?_)
   rintro e w4 ⟨⟨r,rfl⟩,F4,h4,M,y,N⟩;have U:Hid (wV w0 w g F B K (eC ⟨3,o,O,p,n⟩ (fY cs)) w4):=⟨F4,B,K,_,h4,M,Ext.refl _ _,by rw[a3l,d1u,b3q,a1.out,E.out];rfl,i.out.trans (G.out.trans (T:=F++B) y (fun x hx=>by simp[hx]) (fun x hx=>(b3.out x hx).imp (fun q=>by simp[q]) id)) (by simp) (fun x hx => .inl hx),fun x hx=>by
    have:=i.out.size;have:=G.out.size;rcases N x hx with q|q
    ·exact later i.out (b3.out x q)
    ·exact .inr (by omega),fun x hx => .inl hx⟩
   clear h4 M y N;go_wp2_with fail
   go_end0
   exact⟨rfl,U.out⟩
 ·clear v;obtain⟨h0,hn⟩:=HX.out.cut rfl;dsimp only at h0 hn;rw[E.out] at hn;dsimp only at hn;obtain⟨m,rfl⟩:=Int.eq_ofNat_of_zero_le h0;have b4:m≤old.length:=by omega
  have b5:m≤ok:=by have:=A.out.n;have:=A.out.k;dsimp only at *;omega
  have hcut:=fun W=>a2p (P:=Tryz.prog) (size:=1) Tryz.underlying33 (by kernel_rfl) X on ok m b5 W
  have d7:=bG b4;clear h0 hn b4 b5;go_wp2_with fail
  go_still_tail 9,(by kernel_rfl)
  change wpList _ _ _ _ _ Q.drew;go_wp2_with fail
  (with_reducible refine(a3k o ⟨X,m,m⟩ (old.take m) (a.out.tab.upd0 (bR.refl [] Q).drew) (l.out.upd (bR.refl [] Q).drew (by simp)) s.out (fun d hd t=>⟨a.out.sh d hd,a.out.gr d hd,a9b (aF _)⟩) a.out.ap (A.out.cut m d7.out) (Gr.full (aF _))).mono ?_)
  rintro e w3 ⟨⟨r,rfl⟩,F3,L,h,c,j⟩;have U:=bG (wV.of (fs':=eC ⟨4,o,O,p,(m:Int)⟩ (fY cs)) (w:=w) (B:=B) (K:=K) (F:=F) L h (Ext.refl _ _) (by rw[a3l,d1x,E.out,Int.toNat_natCast]) i.out.drew (c.mono (fun x hx => .inl (by simp[hx]))) (fun x hx=>later i.out (j x hx)) (fun x hx => .inl hx));clear L h c j;go_wp2_with fail
  go_end0
  exact⟨rfl,U.out⟩
 ·clear v;go_wp2_with fail
  (with_reducible refine(d1t o a.out l.out s.out).mono ?_)
  rintro e w3 ⟨⟨r,rfl⟩,F3,L,h,c,j⟩;have U:=bG (wV.of (fs':=eC ⟨5,o,O,p,n⟩ (fY cs)) (w:=w) (B:=B) (K:=K) (F:=F) L h (Ext.refl _ _) (by rw[d1u,d1y o O p n]) i.out (c.mono (fun x hx => .inl (by simp[hx]))) (fun x hx=>later i.out (j x hx)) (fun x hx => .inl hx));clear L h c j;go_wp2_with fail
  go_end0
  exact⟨rfl,U.out⟩
end
abbrev LW:=Wr×Sl
abbrev mO (x:LW):List Value:=[.int .i64 x.1.kd,sv x.1.nm,sv x.1.tn,gF x.2,.int .i64 x.1.n]
theorem oD:∀ x,(mO x).length=5:=fun _=>rfl
theorem b3r:∀ x,∀ u∈mO x,u.oneCell'=true:=by intro x u a;simp[mO] at a;rcases a with rfl|rfl|rfl|rfl|rfl<;>rfl
theorem e3i:(Tryz.prog.info? 116).map (fun i=>(i.zero,i.size,i.bytes))=some (some (.agg #[.int .i64 0,.string ⟨#[]⟩,.string ⟨#[]⟩,.slice none 0 0,.int .i64 0]),5,72):=by kernel_rfl
theorem e8z:Tryz.prog.underlying 110=some (.slice 116):=by kernel_rfl
theorem d7f {base:Nat} {e:TypeId} {w:World} {v:Value} {l:List LW} (h:cF 5 mO base e w v l):∃ s:Sl,v = .slice s.a s.n s.k:=by
 obtain⟨a,k,h,_⟩:=h.rd oD;exact⟨⟨a,_,k⟩,h⟩
structure DC (w0 w:World) (gd gn gm:Nat) (Fn Fm B:List Nat) (K:KB) (cn cm:CF) (lv:Value) (lg:List LW):Prop where
 dk:cU w gd 112 [.pointer (some ⟨gn,0,none⟩),.pointer (some ⟨gm,0,none⟩),lv]
 gdb:w0.heap.size≤gd
 now:TD w0 w gn Fn B K cn
 mark:TD w0 w gm Fm B K cm
 full:d1r cm
 apt:Ap Fn Fm
 bks:yD w0.heap.size w B K
 log:cF 5 mO w0.heap.size 116 w lv lg
 lsh:∀ x∈lg,Sh B K x.2 x.1.p
def qS (gd:Nat) (Fn Fm B:List Nat) (lv:Value):List Nat:=gd::(Fn++Fm++B++blk lv)
theorem cV (gd:Nat) (Fn Fm B:List Nat) (lv:Value) (x:Nat):x∈qS gd Fn Fm B lv↔x=gd∨x∈Fn∨x∈Fm∨x∈B∨x∈blk lv:=by
 unfold qS;simp only[aG,aI];constructor
 ·rintro(h|((h|h)|h)|h)
  ·exact .inl h
  ·exact .inr (.inl h)
  ·exact .inr (.inr (.inl h))
  ·exact .inr (.inr (.inr (.inl h)))
  ·exact .inr (.inr (.inr (.inr h)))
 ·rintro(h|h|h|h|h)
  ·exact .inl h
  ·exact .inr (.inl (.inl (.inl h)))
  ·exact .inr (.inl (.inl (.inr h)))
  ·exact .inr (.inl (.inr h))
  ·exact .inr (.inr h)
section
variable {w0 w w' : World} {gd gn gm : Nat} {Fn Fm B : List Nat} {K : KB} {cn cm : CF} {lv : Value} {lg : List LW}
theorem DC.old (h:DC w0 w gd gn gm Fn Fm B K cn cm lv lg):bR [] w0 w:=h.now.tab.old
theorem DC.upd (h:DC w0 w gd gn gm Fn Fm B K cn cm lv lg) {S:List Nat} (hu:bR S w w') (hs:∀ x∈qS gd Fn Fm B lv,x∉S) (hS:∀ x∈S,w0.heap.size≤x):DC w0 w' gd gn gm Fn Fm B K cn cm lv lg :=
 ⟨h.dk.upd hu (hs gd ((cV _ _ _ _ _ _).2 (.inl rfl))),h.gdb,h.now.upd hu (fun x a=>hs x ((cV _ _ _ _ _ _).2 (.inr (.inl a)))) hS,h.mark.upd hu (fun x a=>hs x ((cV _ _ _ _ _ _).2 (.inr (.inr (.inl a))))) hS,h.full,h.apt,
  h.bks.upd hu (fun x a=>hs x ((cV _ _ _ _ _ _).2 (.inr (.inr (.inr (.inl a)))))),h.log.upd hu (fun x a=>hs x ((cV _ _ _ _ _ _).2 (.inr (.inr (.inr (.inr a)))))),h.lsh⟩
theorem DC.upd0 (h:DC w0 w gd gn gm Fn Fm B K cn cm lv lg) (hu:bR [] w w'):DC w0 w' gd gn gm Fn Fm B K cn cm lv lg:=h.upd hu (by simp) (by simp)
theorem DC.ge (h:DC w0 w gd gn gm Fn Fm B K cn cm lv lg):∀ x∈qS gd Fn Fm B lv,w0.heap.size≤x∧x < w.heap.size:=by
 intro x a;rcases (cV _ _ _ _ _ _).1 a with rfl|a|a|a|a
 ·exact⟨h.gdb,h.dk.lt⟩
 ·exact h.now.tab.ge x a
 ·exact h.mark.tab.ge x a
 ·exact h.bks.ge x a
 ·exact h.log.ge x a
theorem d1z {l:List (ByteArray×Sl)} {g:Nat} {F:List Nat} {xs:List Value} (h:cU w gd 112 xs) (k:nT w0 w g F l):gd∉F:=fun c=>by
 obtain⟨C,f,e,b,a⟩:=c1v k gd c;have:=zW b h;rcases a with a|a<;>(rw[a] at this;exact absurd this (by decide))
theorem e3j {base:Nat} {xs:List Value} (h:cU w gd 112 xs) (k:yD base w B K):gd∉B:=fun b=>by
 obtain⟨C,f,a⟩:=k.typ gd b;exact absurd (zW a h) (by decide)
theorem f1u {base:Nat} {xs:List Value} {v:Value} {l:List LW} (h:cU w gd 112 xs) (k:cF 5 mO base 116 w v l):gd∉blk v:=fun b=>by
 obtain⟨C,f,a⟩:=k.typ gd b;exact absurd (zW a h) (by decide)
theorem d2a {base:Nat} {v:Value} {lg:List LW} {l:List (ByteArray×Sl)} {g:Nat} {F:List Nat} (h:cF 5 mO base 116 w v lg) (k:nT w0 w g F l):Ap (blk v) F:=fun x d i=>by
 obtain⟨j,m,b⟩:=h.typ x d;obtain⟨C,f,e,c,a⟩:=c1v k x i;have:=zW c b;rcases a with a|a<;>(rw[a] at this;exact absurd this (by decide))
theorem e0e {base base':Nat} {v:Value} {lg:List LW} (h:cF 5 mO base 116 w v lg) (k:yD base' w B K):Ap (blk v) B:=fun x c d=>by
 obtain⟨g,i,a⟩:=h.typ x c;obtain⟨C,f,b⟩:=k.typ x d;exact absurd (zW b a) (by decide)
theorem DC.step (h:DC w0 w gd gn gm Fn Fm B K cn cm lv lg) {Fn' B':List Nat} {K':KB} {cn':CF} (h1:TD w0 w' gn Fn' B' K' cn') (h2:yD w0.heap.size w' B' K') (h3:Ext B K B' K') (hu:bR (Fn++B) w w') (hf:∀ x∈Fn',x∈Fn∨w.heap.size≤x):DC w0 w' gd gn gm Fn' Fm B' K' cn' cm lv lg :=
 have c:∀ x∈Fn++B,w0.heap.size≤x:=fun x a=>by
  rcases aI.1 a with q|q
  ·exact(h.now.tab.ge x q).1
  ·exact(h.bks.ge x q).1
 ⟨h.dk.upd hu (fun a=>by
   rcases aI.1 a with q|q
   ·exact d1z h.dk h.now.tab q
   ·exact e3j h.dk h.bks q),h.gdb,h1,(h.mark.upd hu (fun x a b=>by
   rcases aI.1 b with q|q
   ·exact h.apt x q a
   ·exact a9a h.mark.tab h.bks x a q) c).ext h.full h3,h.full,h.apt.next hf (fun x a=>(h.mark.tab.ge x a).2),h2,h.log.upd hu (fun x a b=>by
   rcases aI.1 b with q|q
   ·exact d2a h.log h.now.tab x a q
   ·exact e0e h.log h.bks x a q),fun x a=>(h.lsh x a).ext h3⟩
end
structure DD (w0 w:World) (gd:Nat) (G:List Nat) (s:DS):Prop where
 ex:∃ gn gm Fn Fm B K cn cm lv lg,DC w0 w gd gn gm Fn Fm B K cn cm lv lg∧s=⟨fY cn,fY cm,lg.map (·.1)⟩∧zU s∧G=qS gd Fn Fm B lv
def uA (w0 w:World) (gd:Nat) (G:List Nat) (s':DS) (w':World):Prop:=∃ G',DD w0 w' gd G' s'∧bR G w w'∧(∀ x∈G',x∈G∨w.heap.size≤x)
section
variable {w0 w w' : World} {gd : Nat} {G : List Nat} {s : DS}
theorem DD.old (h:DD w0 w gd G s):bR [] w0 w:=by
 obtain⟨b,c,d,f,B,K,g,i,j,l,a,-⟩:=h.ex;exact a.old
theorem DD.ge (h:DD w0 w gd G s):∀ x∈G,w0.heap.size≤x∧x < w.heap.size:=by
 obtain⟨b,c,d,f,B,K,g,i,j,l,a,-,-,rfl⟩:=h.ex;exact a.ge
theorem DD.ok (h:DD w0 w gd G s):zU s:=by
 obtain⟨b,c,d,f,B,K,g,i,j,l,m,-,a,-⟩:=h.ex;exact a
theorem DD.upd (h:DD w0 w gd G s) {S:List Nat} (hu:bR S w w') (hs:∀ x∈G,x∉S) (hS:∀ x∈S,w0.heap.size≤x):DD w0 w' gd G s:=by
 obtain⟨a,b,c,d,B,K,f,g,i,j,l,e,m,rfl⟩:=h.ex;exact⟨a,b,c,d,B,K,f,g,i,j,l.upd hu hs hS,e,m,rfl⟩
theorem DD.upd0 (h:DD w0 w gd G s) (hu:bR [] w w'):DD w0 w' gd G s:=h.upd hu (by simp) (by simp)
theorem DD.out0 (h:DD w0 w gd G s) (hu:bR [] w w'):uA w0 w gd G s w':=⟨G,h.upd0 hu,hu.mono (by simp),fun x a => .inl a⟩
end
section
variable {w0 w w' : World} {gd gn gm : Nat} {Fn Fm B : List Nat} {K : KB} {cn cm : CF} {lv : Value} {lg : List LW}
theorem d2b (x:Wr) (sl:Sl) (h:DC w0 w gd gn gm Fn Fm B K cn cm lv lg) (hx:wR x (fY cn)) (hp:Sh B K sl x.p) (hl:lg.length≤1000000000) :
  Calls Tryz.prog 148 #[.pointer (some ⟨gd,0,none⟩),wrv x sl] w fun e w'=>e = .returned (.tuple #[])∧∃ Fn' B' K' cn' lv',DC w0 w' gd gn gm Fn' Fm B' K' cn' cm lv' (lg++[(x,sl)])∧Ext B K B' K'∧fY cn'=eC x (fY cn)∧bR (qS gd Fn Fm B lv) w w'∧(∀ y∈qS gd Fn' Fm B' lv',y∈qS gd Fn Fm B lv∨w.heap.size≤y):=by
 obtain⟨z,A,rfl,d5,d6,-⟩:=h.log.rd oD;obtain⟨g,l,m,p,n⟩:=x;obtain⟨o,r,s⟩:=sl;have D:bR [] w (w.alloc (.cells #[.int .i64 g,sv l,sv m,.slice o r s,.int .i64 n] 116)):=(bR.refl [] w).alloc _;have H1:=bG (h.upd0 D);have d:=bG (cU.new w 116 [.int .i64 g,sv l,sv m,.slice o r s,.int .i64 n]);have a8:=bG h.ge;have HX:=bG hx;have HP:=bG hp;have L:=bG D;have c0:(w.alloc (.cells #[.int .i64 g,sv l,sv m,.slice o r s,.int .i64 n] 116)).cell? ⟨gd,0,none⟩=some (.pointer (some ⟨gn,0,none⟩)):=D.cell (h.dk.cell 0) (by simp);have c6:gd < w.heap.size:=h.dk.lt;clear h hx hp D;go_enter Tryz.func148,Tryz.ntmps148;go_wp2_with fail
 have d0:=d.out.cell 0;have d1:=d.out.cell 1;have d2:=d.out.cell 2;have d3:=d.out.cell 3;have d4:=d.out.cell 4;simp only[List.getElem?_cons_zero,List.getElem?_cons_succ] at d0 d1 d2 d3 d4;have U:=L.out.size;have a9:Hid (w.heap.size < (w.alloc (.cells #[.int .i64 g,sv l,sv m,.slice o r s,.int .i64 n] 116)).heap.size):=d.out.lt;generalize w.alloc (.cells #[.int .i64 g,sv l,sv m,.slice o r s,.int .i64 n] 116)=w1 at *
 go_still_tail 5,(by kernel_rfl)
 change wpList _ _ _ _ _ w1.drew;go_wp2_with fail
 (with_reducible refine(c5l ⟨g,l,m,p,n⟩ ⟨o,r,s⟩ HX.out (H1.out.now.upd0 (bR.refl [] w1).drew) (H1.out.bks.upd (bR.refl [] w1).drew (by simp)) HP.out).mono ?_)
 rintro e c ⟨rfl,F2,B2,K2,c5,h2,a5,O,J,C,Q,a6⟩;have M:∀ y∈Fn++B,y∈qS gd Fn Fm B (Value.slice z lg.length A):=fun y a=>(cV _ _ _ _ _ _).2 (by rcases aI.1 a with q|q;exact .inr (.inl q);exact .inr (.inr (.inr (.inl q))))
 have V:w.heap.size∉Fn++B:=fun a=>by have:=(a8.out _ (M _ a)).2;omega
 have b:=bG ((H1.out.upd0 (bR.refl [] w1).drew).step h2 a5 O C Q);have f:cU c w.heap.size 116 [.int .i64 g,sv l,sv m,.slice o r s,.int .i64 n]:=cU.upd (w:=w1.drew) d.out C V;have b0:Hid (bR (qS gd Fn Fm B (Value.slice z lg.length A)) w c):=L.out.drew.trans C (by simp) (fun y a => .inl (M y a));have d0:=f.cell 0;have d1:=f.cell 1;have d2:=f.cell 2;have d3:=f.cell 3;have d4:=f.cell 4;simp only[List.getElem?_cons_zero,List.getElem?_cons_succ] at d0 d1 d2 d3 d4;have c2:c.cell? ⟨gd,2,none⟩=some (.slice z lg.length A):=b.out.dk.cell 2;have f2:c.frozen? ⟨gd,2,none⟩=false:=b.out.dk.frozen 2;have W:=bG O;have X:=bG J;have b1:=bG Q;have b2:=bG a6;have b3:=C.size;have b4:Hid (w.heap.size < c.heap.size):=f.lt;clear h2 a5 O J C Q a6 M V f c0 H1 d L U b3;have u:bR [] c (c.drew.alloc (.cells #[.int .i64 g,sv l,sv m,.slice o r s,.int .i64 n] 116)):=(bR.refl [] c).drew.alloc _;have N:=bG u;have Y:=b.out.log.upd u (by simp);have v:cU (c.drew.alloc (.cells #[.int .i64 g,sv l,sv m,.slice o r s,.int .i64 n] 116)) c.heap.size 116 [.int .i64 g,sv l,sv m,.slice o r s,.int .i64 n]:=cU.new c.drew _ _;have Z:qW 5 mO (c.drew.alloc (.cells #[.int .i64 g,sv l,sv m,.slice o r s,.int .i64 n] 116)) (.slice (some ⟨c.heap.size,0,none⟩) 1 1) [(⟨g,l,m,p,n⟩,⟨o,r,s⟩)]:=by
  refine⟨_,1,rfl,by simp,by simp[maxLen],fun _=>⟨c.heap.size,0,rfl,fun j hj i hi=>?_⟩⟩;have b5:j=0:=by simpa using hj
  subst b5;rw[Nat.zero_mul,aM,aM,v.cell];rfl
 have a0:w0.heap.size≤(c.drew.alloc (.cells #[.int .i64 g,sv l,sv m,.slice o r s,.int .i64 n] 116)).heap.size:=(b.out.old.seq u).size;have a1:=bG (fun ty=>fR (P:=Tryz.prog) (ty:=ty) oD (by decide) b3r e8z e3i rfl _ _ lg [(⟨g,l,m,p,n⟩,⟨o,r,s⟩)] Y Z (by simp;omega) (by simp[maxLen];omega) a0);have b6:=bG (b.out.dk.upd u (by simp));have a2:=bG (f1u b.out.dk b.out.log);clear u Y v Z a0;go_wp2_with fail
 have c7:(c.alloc (Obj.cells #[.int .i64 g,sv l,sv m,.slice o r s,.int .i64 n] 116)).cell? ⟨gd,2,none⟩=some (.slice z lg.length A):=((bR.refl [] c).alloc _).cell c2 (by simp);go_region_law (first|((with_reducible refine jS rfl (.tmp 14) (.tmp 16) rfl (.slice z lg.length A) (.slice (some ⟨c.heap.size,0,none⟩) 1 1) rfl rfl (a1.out _) ?_);(rintro v3 T ⟨R,S,a7⟩;obtain⟨⟨a3,n3,k3⟩,rfl⟩:=d7f R;have E:=b6.out.upd S a2.out;have c3:T.cell? ⟨gd,2,none⟩=some (.slice z lg.length A):=E.cell 2;have f3:=E.frozen 2;have b7:=bG E;have b8:=bG R;have b9:=bG S;have a4:=bG a7;clear R S a7 E;dsimp only)))
 all_goals
  go_end0
  have F:bR [gd] T (T.setCell ⟨gd,2,none⟩ (.slice a3 n3 k3)):=(bR.refl [gd] T).setCell _ _ (.inl (by simp));have c1:gd∉blk (.slice a3 n3 k3):=fun a=>by
   rcases a4.out _ a with q|q
   ·exact a2.out q
   ·have:=b.out.dk.lt;have:=N.out.size;omega
  have c4:bR (blk (Value.slice z lg.length A)) c T:=N.out.trans b9.out (by simp) (fun y a => .inl a);have G:∀ y∈blk (Value.slice z lg.length A),y∈qS gd Fn Fm B (Value.slice z lg.length A):=fun y a=>(cV _ _ _ _ _ _).2 (.inr (.inr (.inr (.inr a))))
  have t:bR (gd::blk (Value.slice z lg.length A)) c (T.setCell ⟨gd,2,none⟩ (.slice a3 n3 k3)):=c4.trans F (fun y a=>by simp[a]) (fun y a => .inl (by simp at a;simp[a]));have I:∀ x∈gd::blk (Value.slice z lg.length A),w0.heap.size≤x:=fun x hx=>by
   rcases aG.1 hx with rfl|q
   ·exact b.out.gdb
   ·exact(b.out.log.ge x q).1
  refine⟨rfl,F2,B2,K2,c5,(.slice a3 n3 k3),⟨b7.out.set_ 2 (.slice a3 n3 k3),b.out.gdb,?_,?_,b.out.full,b.out.apt,?_,?_,?_⟩,W.out,X.out,?_,?_⟩
  ·refine b.out.now.upd t (fun x hx a=>?_) I;rcases aG.1 a with rfl|q
   ·exact d1z b.out.dk b.out.now.tab hx
   ·exact d2a b.out.log b.out.now.tab x q hx
  ·refine b.out.mark.upd t (fun x hx a=>?_) I;rcases aG.1 a with rfl|q
   ·exact d1z b.out.dk b.out.mark.tab hx
   ·exact d2a b.out.log b.out.mark.tab x q hx
  ·refine b.out.bks.upd t (fun x hx a=>?_);rcases aG.1 a with rfl|q
   ·exact e3j b.out.dk b.out.bks hx
   ·exact e0e b.out.log b.out.bks x q hx
  ·exact b8.out.upd F (fun x hx a=>c1 (by simp at a;rw[← a];exact hx))
  ·intro y a;rcases aI.1 a with q|q
   ·exact b.out.lsh y q
   ·simp at q;subst q;exact HP.out.ext W.out
  ·refine b0.out.trans t (fun y a=>a) (fun y a => .inl ?_);rcases aG.1 a with rfl|q
   ·exact(cV _ _ _ _ _ _).2 (.inl rfl)
   ·exact G y q
  ·intro y a;have c8:=b4.out;have U:w1.drew.heap.size=w1.heap.size:=rfl;have c9:=a9.out;rcases (cV _ _ _ _ _ _).1 a with rfl|q|q|q|q
   ·exact .inl ((cV _ _ _ _ _ _).2 (.inl rfl))
   ·exact(b1.out y q).imp (fun q=>(cV _ _ _ _ _ _).2 (.inr (.inl q))) (fun q=>by omega)
   ·exact .inl ((cV _ _ _ _ _ _).2 (.inr (.inr (.inl q))))
   ·exact(b2.out y q).imp (fun q=>(cV _ _ _ _ _ _).2 (.inr (.inr (.inr (.inl q))))) (fun q=>by omega)
   ·exact(a4.out y q).imp (fun q=>G y q) (fun q=>by have:=N.out.size;omega)
end
section
variable {w0 w w' : World} {gd : Nat} {G : List Nat} {s : DS}
theorem d2c (w0 w:World) (hu:bR [] w0 w) :
  Calls Tryz.prog 17 #[] w fun e w'=>∃ gd G,e = .returned (.pointer (some ⟨gd,0,none⟩))∧DD w0 w' gd G ⟨[],[],[]⟩∧bR [] w w'∧(∀ x∈G,w.heap.size≤x):=by
 have t:=bG hu;clear hu;go_enter Tryz.func17,Tryz.ntmps17;go_wp2_with fail
 (with_reducible refine(a3h w0 w t.out).mono ?_)
 rintro e v ⟨r,D,rfl,y,f,j⟩;have u:=bG y;have g:=bG (t.out.seq f);have h:=bG f;have p:=bG j;clear y f j;go_wp2_with fail
 (with_reducible refine(a3h w0 v g.out).mono ?_)
 rintro e o ⟨s,E,rfl,z,l,m⟩;have A:=bG z;have b:=bG l;have i:=bG m;clear z l m;go_wp2_with fail
 go_ret;have d:bR [] o (o.alloc (.cells #[.pointer (some ⟨r,0,none⟩),.pointer (some ⟨s,0,none⟩),.slice none 0 0] 112)):=(bR.refl [] o).alloc _;have B:=h.out.size;have C:=b.out.size;refine⟨_,_,rfl,⟨r,s,D,E,[],fun _=>([],0),[],[],.slice none 0 0,[],⟨cU.new o _ [.pointer (some ⟨r,0,none⟩),.pointer (some ⟨s,0,none⟩),.slice none 0 0],?_,⟨(u.out.upd0 b.out).upd0 d,by simp,by simp,by simp⟩,⟨A.out.upd0 d,by simp,by simp,by simp⟩,fun c F=>by simp at F,?_,⟨by simp⟩,cF.nil _ _ _,by simp⟩,rfl,zU.zero,rfl⟩,(h.out.seq b.out).seq d,fun x a=>?_⟩
 ·exact(g.out.seq b.out).size
 ·exact Ap.symm (Ap.new (n:=v.heap.size) i.out (fun x a=>(u.out.ge x a).2))
 ·rcases (cV _ _ _ _ _ _).1 a with rfl|a|a|a|a
  ·omega
  ·exact p.out x a
  ·have:=i.out x a;omega
  ·simp at a
  ·simp[blk] at a
theorem qH (nm:ByteArray) (h:DD w0 w gd G s) (hl:s.now.length≤100000) :
  Calls Tryz.prog 86 #[.pointer (some ⟨gd,0,none⟩),sv nm] w fun e w'=>∃ v,e = .returned (.tuple #[v,.bool (dI s.now nm).2])∧fB bv w.heap.size 5 w' v (dI s.now nm).1∧bR [] w w':=by
 have a:=qF s.now nm;have d:=h.ok.tot;obtain⟨N,R,S,T,B,K,O,U,V,W,o,rfl,Q,rfl⟩:=h.ex;have c0:w.cell? ⟨gd,0,none⟩=some (.pointer (some ⟨N,0,none⟩)):=o.dk.cell 0;have l:(kX O).length≤100000:=by rw[gV];rwa[mC] at hl
 have F:=bG l;obtain⟨⟨z,on,ok⟩,old,b,g,p,A,i,C,r⟩:=o.now.found nm;dsimp only at a d;rw[p] at a ⊢;dsimp only at a ⊢;have I:=bG g;have J:=bG o.now;have L:=bG (i.rd o.bks);have m:=i.n;dsimp only at m;subst m;have M:old.length≤16777216:=by omega
 clear o h Q hl l g p A i C r a d;go_enter Tryz.func86,Tryz.ntmps86;go_wp2_with fail
 (with_reducible refine(a3i nm ⟨z,old.length,ok⟩ b J.out.tab F.out trivial I.out).mono ?_)
 rintro e E ⟨rfl,c⟩;have u:=bG c;have f:=bG (fun ty=>lJ (P:=Tryz.prog) (w:=E) (ty:=ty) gE Tryz.underlying33 a2n rfl (.slice none 0 0) (.slice z old.length ok) [] old (bK E w.heap.size _ 1) (L.out.upd0 c) (by simp;omega) (by simp[maxLen];omega) c.size);clear c;go_wp2_with (at_builtin;go_must (refine cQ rfl _ _ rfl (.slice none 0 0) (.slice z old.length ok) rfl rfl (f.out _) ?_;rintro X Y ⟨j,t,D⟩;have x:=bG j;have y:=bG t;obtain⟨Z,k2,rfl,-⟩:=j.rd;clear j t D f;dsimp only))
 go_ret2
 exact⟨_,rfl,x.out,u.out.seq (y.out.mono (by simp[blk]))⟩
end
theorem d2d {ν:Type} [Inhabited ν] {l:List (ByteArray×ν)} (h:bV bY l) (k:Nat) (hk:k < l.length):dD bY (l.take k) (bT l k).1 (bT l k).2=l.take (k+1):=by
 have a:(l.take k).length=k:=by rw[aJ];omega
 have b:below bY (l.take k) (bT l k).1=k:=nD _ _ _ (by rw[a];exact aF _) (fun j c=>by rw[iB _ _ _ c];exact h j k c hk) (fun q=>absurd q (by rw[a];omega));have d:cB bY (l.take k) (bT l k).1=false:=by unfold cB;rw[b,a];simp
 unfold dD;rw[d,b,if_neg (by simp),Nat.add_zero,oT l k hk,aZ (by omega),List.drop_of_length_le (by omega)]
section
variable {w0 w w' : World} {gd : Nat} {G : List Nat} {s : DS}
theorem vJ (h:DD w0 w gd G s) (hl:s.now.length≤100000) :
  Calls Tryz.prog 190 #[.pointer (some ⟨gd,0,none⟩)] w fun e w'=>e = .returned (.int .i64 (cN s.now:Int))∧bR [] w w':=by
 have d:=h.ok.tot;obtain⟨M,P,Q,R,B,K,b,S,U,V,D,rfl,N,rfl⟩:=h.ex;have c0:w.cell? ⟨gd,0,none⟩=some (.pointer (some ⟨M,0,none⟩)):=D.dk.cell 0;have u:=bG D;have l:(kX b).length≤100000:=by rw[gV];rwa[mC] at hl
 have E:=bG l;have F:b.length≤100000:=by rwa[mC] at hl
 dsimp only at d ⊢;have I:=bG d;have J:=bG c0;clear D h N hl l d;go_enter Tryz.func190,Tryz.ntmps190;go_wp2_with fail
 (with_reducible refine(b3l (b.length:Int) u.out.now.tab (by rw[gV])).mono ?_)
 rintro e W ⟨rfl,rfl⟩;go_wp2_with fail
 go_loopw [3,13] (fun v i wr=>∃ k:Nat,k≤b.length∧i = .int .i64 k∧v = .int .i64 (cN ((fY b).take k):Int)∧Hid (bR [] w wr)) (fun _ i _=>b.length-(intOf i).toNat)
 case atStart=>exact⟨0,aS _,rfl,rfl,bR.refl _ _⟩
 case round =>
  obtain⟨k,X,rfl,rfl,r⟩:=hrel;clear c0;have c0:=r.out.cell J.out (by simp);by_cases f:k < b.length
  ·have m:tAt (⟨#[]⟩:ByteArray) (⟨none,0,0⟩:Sl) (kX b) (k:Int)=((bT b k).1,(bT b k).2.1,true):=by
    rw[b6d _ _ (kX b) k (by rw[gV];exact f),fD id (fun x:Sl×List UInt8=>x.1) b k f];rfl
   have g:cN ((fY b).take (k+1))=cN ((fY b).take k)+(bT b k).2.2.length:=by
    rw[b7s (fY b) k (by rw[mC];exact f),fD id (fun x:Sl×List UInt8=>x.2) b k f]
   have j:=d1f (fY b) (k+1);have o:=I.out;have p:=(u.out.now.sh _ (eM k f)).n;have y:=bG m;have z:=bG g;rw[g] at j;clear m g;generalize bT b k=c at *
   obtain⟨key,⟨a,n,O⟩,bs⟩:=c;dsimp only at p j;subst p;generalize cN ((fY b).take k)=T at *
   have hT:T+bs.length≤16777216:=by omega
   have L:Hid (gR (k:Int)):=⟨by omega,by omega⟩
   clear j o;go_wp2_with fail
   (with_reducible refine(c1u (k:Int) key ⟨a,bs.length,O⟩ true L.out (u.out.now.tab.upd0 r.out) E.out y.out).mono ?_)
   rintro e Y ⟨rfl,t⟩;have A:=bG (r.out.seq t);clear t r;go_wp2_with fail
   go_roundw
   case rel=>exact⟨k+1,by omega,by go_num,by rw[z.out];go_num,A⟩
   case measure=>simp[intOf];omega
  ·obtain rfl:k=b.length:=by omega
   have he:(fY b).take b.length=fY b:=aZ (by rw[mC];exact aF _);obtain⟨T,hT⟩:∃ T,cN (fY b)=T:=⟨_,rfl⟩
   have C:=bG hT;rw[he,hT];clear hT;go_wp2_with fail
   go_ret;exact⟨by rw[C.out];rfl,r.out⟩
end
section
variable {w0 w w' : World} {g : Nat} {F B : List Nat} {K : KB} {cs : CF}
theorem b8k (ht:TD w0 w g F B K cs) (hB:yD w0.heap.size w B K) (hlen:cs.length≤100000) :
  Calls Tryz.prog 35 #[.pointer (some ⟨g,0,none⟩)] w fun e w'=>∃ g' F' cs',e = .returned (.pointer (some ⟨g',0,none⟩))∧TD w0 w' g' F' B K cs'∧d1r cs'∧fY cs'=fY cs∧bR [] w w'∧(∀ x∈F',w.heap.size≤x):=by
 have L:=bG ht;have HB:=bG hB;have HR:=bG ht.risD;have s:(kX cs).length≤100000:=by rw[gV];exact hlen
 have N:=bG s;clear ht hB s;go_enter Tryz.func35,Tryz.ntmps35;go_wp2_with fail
 (with_reducible refine(a3h w0 w L.out.tab.old).mono ?_)
 rintro e w1 ⟨Z,F1,rfl,h1,A,C⟩;have H1:Hid (TD w0 w1 Z F1 B K []):=⟨h1,by simp,by simp,by simp⟩
 have m:=bG A;have t:=bG C;clear h1 A C;go_wp2_with fail
 (with_reducible refine(b3l (cs.length:Int) (L.out.tab.upd0 m.out) (by rw[gV])).mono ?_)
 rintro e w2 ⟨rfl,rfl⟩;go_wp2_with fail
 go_loopw [11] (fun i wr=>∃ (k:Nat) (M:List Nat) (j:CF),k≤cs.length∧i = .int .i64 k∧Hid (TD w0 wr Z M B K j)∧Hid (d1r j)∧Hid (fY j=(fY cs).take k)∧Hid (bR [] w wr)∧Hid (∀ x∈M,w.heap.size≤x)) (fun i _=>cs.length-(intOf i).toNat)
 case atStart=>exact⟨0,F1,[],aS _,rfl,H1,fun c hc=>by simp at hc,rfl,m,t⟩
 case round =>
  obtain⟨k,M,j,hk,rfl,p,D,l,E,o⟩:=hrel;clear H1 m t;by_cases b:k < cs.length
  ·have u:tAt (⟨#[]⟩:ByteArray) (⟨none,0,0⟩:Sl) (kX cs) (k:Int)=((bT cs k).1,(bT cs k).2.1,true):=by
    rw[b6d _ _ (kX cs) k (by rw[gV];exact b),fD id (fun x:Sl×List UInt8=>x.1) cs k b];rfl
   have v:dD bY ((fY cs).take k) (bT cs k).1 (bT cs k).2.2=(fY cs).take (k+1):=by
    rw[← d2d HR.out k (by rw[mC];exact b),fD id (fun x:Sl×List UInt8=>x.2) cs k b];rfl
   have f:=L.out.sh _ (eM k b);have O:j.length=k:=by
    have:=congrArg List.length l.out;rw[mC,aJ,mC] at this;omega
   have Q:=bG u;have R:=bG v;clear u v;generalize bT cs k=c at *
   obtain⟨key,⟨a,n,cp⟩,bs⟩:=c;have hn:=f.n;have y:=f.k;dsimp only at hn y;subst hn;have S:=bG (f.cut bs.length (aF _));have HI:Hid (gR (k:Int)):=⟨by omega,by omega⟩
   have T:Hid (j.length≤100000):=by unfold Hid;omega
   have hcut:=fun W=>a2p (P:=Tryz.prog) (size:=1) Tryz.underlying33 (by kernel_rfl) a bs.length cp bs.length y W
   clear f O;go_wp2_with fail
   (with_reducible refine(c1u (k:Int) key ⟨a,bs.length,cp⟩ true HI.out (L.out.tab.upd0 E.out) N.out Q.out).mono ?_)
   rintro e w2 ⟨rfl,G⟩;have h:=bG G;clear G;go_wp2_with fail
   (with_reducible refine(a3k key ⟨a,bs.length,bs.length⟩ (bs.take bs.length) (p.out.tab.upd0 h.out) (HB.out.upd (E.out.seq h.out) (by simp)) T.out (fun d hd a1=>⟨p.out.sh d hd,p.out.gr d hd,a9b (aF _)⟩) p.out.ap S.out (Gr.full (aF _))).mono ?_)
   rintro e w3 ⟨⟨r,rfl⟩,F3,h3,a0,I,J⟩;have hw:=E.out.size;have U:=h.out.size;have H3:=bG h3;have V:Hid (bR [] w w3):=(E.out.seq h.out).trans I (by simp) (fun x hx => .inr (o.out x hx));have X:Hid (∀ x∈F3,w.heap.size≤x):=fun x hx=>by
    rcases J x hx with q|q
    ·exact o.out x q
    ·omega
   have Y:Hid (fY (dD bY j key (⟨a,bs.length,bs.length⟩,bs.take bs.length))=(fY cs).take (k+1)):=by unfold Hid;rw[a3l,l.out,aV];exact R.out
   have z:Hid (d1r (dD bY j key (⟨a,bs.length,bs.length⟩,bs.take bs.length))):=fun c hc=>by
    rcases pL p.out.ris key _ c hc with rfl|⟨q,-⟩
    ·exact aF _
    ·exact D.out c q
   clear h3 a0 I J hw U hcut;go_wp2_with fail
   go_roundw
   case rel=>exact⟨k+1,F3,_,by omega,by go_num,H3,z,Y,V,X⟩
   case measure=>simp[intOf];omega
  ·obtain rfl:k=cs.length:=by omega
   have he:(fY cs).take cs.length=fY cs:=aZ (by rw[mC];exact aF _);rw[he] at l;go_wp2_with fail
   go_ret;exact⟨Z,M,j,rfl,p.out,D.out,l.out,E.out,o.out⟩
end
section
variable {w0 w w' : World} {gd gn gm : Nat} {F B : List Nat} {K : KB} {cs : CF}
theorem d2e (p1:Option Addr) (s2:Sl) (hd:cU w gd 112 [.pointer (some ⟨gn,0,none⟩),.pointer p1,gF s2]) (hgd:w0.heap.size≤gd) (ht:TD w0 w gn F B K cs) (hB:yD w0.heap.size w B K) (hlen:cs.length≤100000) :
  Calls Tryz.prog 20 #[.pointer (some ⟨gd,0,none⟩)] w fun e w'=>e = .returned (.tuple #[])∧∃ gm' Fm' cm',DC w0 w' gd gn gm' F Fm' B K cs cm' (.slice none 0 0) []∧fY cm'=fY cs∧bR [gd] w w'∧(∀ x∈Fm',w.heap.size≤x):=by
 obtain⟨G,ln,lk⟩:=s2;have c0:w.cell? ⟨gd,0,none⟩=some (.pointer (some ⟨gn,0,none⟩)):=hd.cell 0;have E:=bG hd;have u:=bG ht;have z:=bG hB;clear hd ht hB;go_enter Tryz.func20,Tryz.ntmps20;go_wp2_with fail
 (with_reducible refine(b8k u.out z.out hlen).mono ?_)
 rintro e s ⟨y,I,J,rfl,D,t,g,l,h⟩;have b:=E.out.upd l (by simp);have L:s.cell? ⟨gd,1,none⟩=some (.pointer p1):=b.cell 1;have M:s.cell? ⟨gd,2,none⟩=some (.slice G ln lk):=b.cell 2;have N:=b.frozen 1;have O:=b.frozen 2;have d:=bG b;have A:=bG D;have v:=bG t;have m:=bG g;have j:=bG l;have f:=bG h;clear b D t g l h c0;go_wp2_with fail
 go_end0
 have a:bR [gd] s ((s.setCell ⟨gd,1,none⟩ (.pointer (some ⟨y,0,none⟩))).setCell ⟨gd,2,none⟩ (.slice none 0 0)):=((bR.refl [gd] s).setCell _ _ (.inl (by simp))).setCell _ _ (.inl (by simp));have o:=(d.out.set_ 1 (.pointer (some ⟨y,0,none⟩))).set_ 2 (.slice none 0 0);have C:∀ x∈[gd],w0.heap.size≤x:=fun x c=>by simp at c;omega
 have p:=u.out.upd0 j.out;have r:=z.out.upd j.out (by simp);refine⟨rfl,y,I,J,⟨o,hgd,p.upd a (fun x c i=>?_) C,A.out.upd a (fun x c i=>?_) C,v.out,?_,r.upd a (fun x c i=>?_),cF.nil _ _ _,by simp⟩,m.out,j.out.trans a (by simp) (fun x c => .inl c),f.out⟩
 ·simp at i;subst i;exact d1z d.out p.tab c
 ·simp at i;subst i;exact d1z d.out A.out.tab c
 ·exact Ap.symm (Ap.new (n:=w.heap.size) f.out (fun x c=>(u.out.tab.ge x c).2))
 ·simp at i;subst i;exact e3j d.out r c
end
section
variable {w0 w w' : World} {gd : Nat} {G : List Nat} {s : DS}
theorem c5m (h:DD w0 w gd G s) (hl:s.now.length≤100000) :
  Calls Tryz.prog 20 #[.pointer (some ⟨gd,0,none⟩)] w fun e w'=>e = .returned (.tuple #[])∧uA w0 w gd G (b3e s) w':=by
 obtain⟨j,y,l,z,B,K,m,A,C,o,b,rfl,p,rfl⟩:=h.ex;obtain⟨r,t,rfl,-⟩:=b.log.rd oD;refine(d2e _ ⟨r,o.length,t⟩ b.dk b.gdb b.now b.bks (by rwa[mC] at hl)).mono ?_;rintro e w' ⟨rfl,c,d,f,u,g,v,i⟩;refine⟨rfl,_,⟨j,c,l,d,B,K,m,f,_,[],u,by rw[g];rfl,p.mark,rfl⟩,v.mono (fun x a => .inl (by simp at a;subst a;exact(cV _ _ _ _ _ _).2 (.inl rfl))),fun x a=>?_⟩;rcases (cV _ _ _ _ _ _).1 a with rfl|a|a|a|a
 ·exact .inl ((cV _ _ _ _ _ _).2 (.inl rfl))
 ·exact .inl ((cV _ _ _ _ _ _).2 (.inr (.inl a)))
 ·exact .inr (i x a)
 ·exact .inl ((cV _ _ _ _ _ _).2 (.inr (.inr (.inr (.inl a)))))
 ·simp[blk] at a
end
section
variable {w0 w w' : World} {gd : Nat} {G : List Nat} {s : DS}
def e9a (w0 w:World) (gd:Nat) (G:List Nat) (r:Int×DS) (e:Ending) (w':World):Prop:=e = .returned (.int .i64 r.1)∧uA w0 w gd G r.2 w'
theorem uA.later {w1:World} (hu:bR [] w w1) (h:uA w0 w1 gd G s w'):uA w0 w gd G s w':=by
 obtain⟨b,c,d,f⟩:=h;exact⟨b,c,hu.trans d (by simp) (fun x a => .inl a),fun x a=>(f x a).imp id (fun q=>by have:=hu.size;omega)⟩
theorem d7g (x:Wr) (h:DD w0 w gd G s) (hx:wR x s.now) (hp:x.p=[]) (hl:s.log.length≤1000000000) :
  Calls Tryz.prog 148 #[.pointer (some ⟨gd,0,none⟩),wrv x ⟨none,0,0⟩] w fun e w'=>e = .returned (.tuple #[])∧uA w0 w gd G (nS x s) w':=by
 obtain⟨d,f,y,g,B,K,z,i,A,C,j,rfl,l,rfl⟩:=h.ex;refine(d2b x ⟨none,0,0⟩ j hx (by rw[hp];exact Sh.nil) (by simpa using hl)).mono ?_;rintro e w' ⟨rfl,a,m,o,b,c,r,D,t,u,v⟩;exact⟨rfl,_,⟨d,f,a,g,m,o,b,i,c,_,r,by unfold nS;rw[t];simp,l.do_ hx,rfl⟩,u,v⟩
theorem DD.p0 (h:DD w0 w gd G s):∃ gn Fn B K cn,w.cell? ⟨gd,0,none⟩=some (.pointer (some ⟨gn,0,none⟩))∧TD w0 w gn Fn B K cn∧fY cn=s.now:=by
 obtain⟨gn,b,Fn,c,B,K,cn,d,f,g,a,rfl,i,rfl⟩:=h.ex;exact⟨gn,Fn,B,K,cn,a.dk.cell 0,a.now,rfl⟩
theorem DD.look (h:DD w0 w gd G s) (nm:ByteArray) (hl:s.now.length≤5000):∃ gn oa on ok,w.cell? ⟨gd,0,none⟩=some (.pointer (some ⟨gn,0,none⟩))∧on=(dI s.now nm).1.length ∧
  ∀ W,bR [] w W→Calls Tryz.prog 56 #[.pointer (some ⟨gn,0,none⟩),sv nm] W fun e w'=>e = .returned (.tuple #[.slice oa on ok,.bool (uI s.now nm)])∧bR [] W w':=by
 obtain⟨gn,m,B,K,o,j,g,he⟩:=h.p0;obtain⟨⟨oa,on,ok⟩,old,b,a,c,d,f,l,i⟩:=g.found nm;rw[he] at c d;refine⟨gn,oa,on,ok,j,by rw[c];exact f.n,fun W hW=>?_⟩;rw[d];exact a3i nm ⟨oa,on,ok⟩ b (g.tab.upd0 hW) (by rw[gV];rw[← he,mC] at hl;omega) trivial a
end
structure JC (w0 w:World) (gd gj gt:Nat) (F0:List Nat) (t:JS):Prop where
 top:cU w gj 226 [.pointer (some ⟨gd,0,none⟩),.pointer (some ⟨gt,0,none⟩)]
 tab:pK w0 w gt F0 t
 gjb:w0.heap.size≤gj
 nin:gj∉F0
 jt:JT t
section
variable {w0 w w' : World} {gd gj gt : Nat} {F0 F0' F G : List Nat} {t t' : JS} {s s' : DS}
theorem JC.upd (h:JC w0 w gd gj gt F0 t) {S:List Nat} (hu:bR S w w') (hs:∀ x∈gj::F0,x∉S) (hS:∀ x∈S,w0.heap.size≤x):JC w0 w' gd gj gt F0 t :=
 ⟨h.top.upd hu (hs gj (by simp)),h.tab.upd hu (fun x a=>hs x (by simp[a])) hS,h.gjb,h.nin,h.jt⟩
theorem JC.upd0 (h:JC w0 w gd gj gt F0 t) (hu:bR [] w w'):JC w0 w' gd gj gt F0 t:=h.upd hu (by simp) (by simp)
theorem JC.ge (h:JC w0 w gd gj gt F0 t):∀ x∈gj::F0,w0.heap.size≤x∧x < w.heap.size:=by
 intro x a;rcases aG.1 a with rfl|a
 ·exact⟨h.gjb,h.top.lt⟩
 ·exact h.tab.ge x a
theorem JC.step (h:JC w0 w gd gj gt F0 t) (h1:pK w0 w' gt F0' t') (hu:bR F0 w w') (hf:∀ x∈F0',x∈F0∨w.heap.size≤x) (hj:JT t'):JC w0 w' gd gj gt F0' t' :=
 ⟨h.top.upd hu h.nin,h1,h.gjb,fun a=>by
  rcases hf gj a with q|q
  ·exact h.nin q
  ·have:=h.top.lt;omega,hj⟩
structure JD (w0 w:World) (gd gj:Nat) (F G:List Nat) (t:JS) (s:DS):Prop where
 jc:∃ gt F0,JC w0 w gd gj gt F0 t∧F=gj::F0
 dd:DD w0 w gd G s
 ap:Ap F G
def yQ (w0 w:World) (gd gj:Nat) (S:List Nat) (t:JS) (s:DS) (w':World):Prop:=∃ F' G',JD w0 w' gd gj F' G' t s∧bR S w w'∧(∀ x∈F',x∈S∨w.heap.size≤x)∧(∀ x∈G',x∈S∨w.heap.size≤x)
theorem JD.geF (h:JD w0 w gd gj F G t s):∀ x∈F,w0.heap.size≤x∧x < w.heap.size:=by
 obtain⟨b,c,a,rfl⟩:=h.jc;exact a.ge
theorem JD.jt (h:JD w0 w gd gj F G t s):JT t:=by
 obtain⟨b,c,a,rfl⟩:=h.jc;exact a.jt
theorem JD.upd (h:JD w0 w gd gj F G t s) {S:List Nat} (hu:bR S w w') (h1:∀ x∈F,x∉S) (h2:∀ x∈G,x∉S) (hS:∀ x∈S,w0.heap.size≤x):JD w0 w' gd gj F G t s:=by
 obtain⟨a,b,c,rfl⟩:=h.jc;exact⟨⟨a,b,c.upd hu h1 hS,rfl⟩,h.dd.upd hu h2 hS,h.ap⟩
theorem JD.upd0 (h:JD w0 w gd gj F G t s) (hu:bR [] w w'):JD w0 w' gd gj F G t s:=h.upd hu (by simp) (by simp) (by simp)
theorem JD.disk (h:JD w0 w gd gj F G t s) (hd:uA w0 w gd G s' w'):yQ w0 w gd gj (F++G) t s' w':=by
 obtain⟨g,i,b,c⟩:=hd;obtain⟨j,d,f,rfl⟩:=h.jc;refine⟨gj::d,g,⟨⟨j,d,f.upd b h.ap (fun x a=>(h.dd.ge x a).1),rfl⟩,i,fun x a l=>?_⟩,b.mono (fun x a => .inl (aI.2 (.inr a))),fun x a => .inl (aI.2 (.inl a)),fun x a=>(c x a).imp (fun q=>aI.2 (.inr q)) id⟩;rcases c x l with q|q
 ·exact h.ap x a q
 ·have:=(f.ge x a).2;omega
theorem yQ.later {w1:World} {S:List Nat} (hu:bR [] w w1) (h:yQ w0 w1 gd gj S t s w'):yQ w0 w gd gj S t s w':=by
 obtain⟨b,c,d,f,g,i⟩:=h;have:=hu.size;exact⟨b,c,d,hu.trans f (by simp) (fun x a => .inl a),fun x a=>(g x a).imp id (fun q=>by omega),fun x a=>(i x a).imp id (fun q=>by omega)⟩
theorem b8l {c:Ch} (h:c.2=s0) (t:JS):qG t c=fS ltI t c.1:=by unfold qG;rw[if_pos h]
theorem b8m {c:Ch} (h:c.2≠s0) (t:JS):qG t c=dD ltI t c.1 c.2:=by unfold qG;rw[if_neg h]
theorem d2f (u:Value) (l:List Ch) (h:JD w0 w gd gj F G t s) (hl:qW 2 jB w u l) (hap:∀ x∈blk u,x∉F) (hI:∀ c∈l,c9u c) :
  Calls Tryz.prog 95 #[.pointer (some ⟨gj,0,none⟩),u] w fun e w'=>e = .returned (.tuple #[])∧∃ F',JD w0 w' gd gj F' G (yP t l) s∧bR F w w'∧(∀ x∈F',x∈F∨w.heap.size≤x):=by
 have HL:=bG hl;have b4:=bG hap;have HI:=bG hI;have HD:=bG h;obtain⟨a2,c6,rfl,c2,hm,-⟩:=hl;have c7:l.length≤9223372036854775807:=by unfold maxLen at hm;omega
 clear h hap hI c2 hm;go_enter Tryz.func95,Tryz.ntmps95;go_wp2_with fail
 go_loopw [5,8] (fun y i wr=>∃ (k:Nat) (F':List Nat),i = .int .i64 (k:Int)∧k≤l.length∧Hid (JD w0 wr gd gj F' G (yP t (l.take k)) s)∧Hid (bR F w wr)∧Hid (∀ x∈F',x∈F∨w.heap.size≤x)) (fun _ i _=>l.length-(intOf i).toNat)
 case atStart=>exact⟨0,F,rfl,aS _,HD.out,bR.refl _ _,fun x f => .inl f⟩
 case round =>
  obtain⟨k,F',rfl,hk,hd,hu,hf⟩:=hrel;by_cases p:k < l.length
  ·have b5:=HL.out.upd lR hu.out b4.out;obtain⟨a9,c9,c3,-,-,b0⟩:=b5;injection c3 with e1 e2 e3;subst e1;subst e3;obtain⟨b,U,rfl,b1⟩:=b0 (by intro e;rw[e] at p;simp at p);have O:∀ i,i < 2→wr.cell? ⟨b,U+(k*2+i),none⟩=(jB (bT l k))[i]?:=b1 k p;have D:=HI.out (bT l k) (by rw[cO l k p];exact bP p);have V:Hid (yP t (l.take (k+1))=qG (yP t (l.take k)) (bT l k)):=by
    unfold Hid;rw[bC p,d1i,cO l k p];rfl
   generalize bT l k=x at *
   obtain⟨a,g⟩:=x;have K:=D.lo;have L:=D.hi;dsimp only at K L;have c0:wr.cell? ⟨b,U+k*2,none⟩=some (.int .i64 a):=O 0 (by omega);have c1:wr.cell? ⟨b,U+k*2+1,none⟩=some (.string g):=O 1 (by omega);obtain⟨C,b3⟩:∃ C,yP t (l.take k)=C:=⟨_,rfl⟩
   rw[b3] at V hd;have X:Hid (gR a):=a7p (by omega) (by omega);have Y:=bG D;have q0:(0:Int)≤k:=by omega
   have q1:(k:Int) < l.length:=by omega
   obtain⟨I,J,hc,hF⟩:=hd.out.jc;have E:bR [] wr (wr.alloc (.cells #[.int .i64 a,.string g] 190)):=(bR.refl [] wr).alloc _;have P:=bG (hc.upd0 E);have Z:=bG (hd.out.dd.upd0 E);have z:Hid (Ap (gj::J) G):=by rw[← hF];exact hd.out.ap
   have Q:Hid (∀ x∈gj::J,x∈F∨w.heap.size≤x):=by rw[← hF];exact hf.out
   have a0:Hid (bR F w (wr.alloc (.cells #[.int .i64 a,.string g] 190))):=hu.out.trans E (fun x f=>f) (by simp);have a1:Hid (cU (wr.alloc (.cells #[.int .i64 a,.string g] 190)) wr.heap.size 190 [.int .i64 a,.string g]):=cU.new wr _ [.int .i64 a,.string g];have a3:Hid (C.length≤100000):=by have:=hc.jt.len;unfold Hid;omega
   have a4:=a1.out.cell 0;have a5:=a1.out.cell 1;simp only[List.getElem?_cons_zero,List.getElem?_cons_succ] at a4 a5;have a6:=bG a4;have b6:=bG a5;have b7:(wr.alloc (.cells #[.int .i64 a,.string g] 190)).cell? ⟨gj,1,none⟩=some (.pointer (some ⟨I,0,none⟩)):=P.out.top.cell 1;have a7:=bG b7;have M:∀ (t2:JS),qG C (a,g)=t2→JT t2→∀ (W:World),∀ m,pK w0 W I m t2→bR J (wr.alloc (.cells #[.int .i64 a,.string g] 190)) W→(∀ x∈m,x∈J∨(wr.alloc (.cells #[.int .i64 a,.string g] 190)).heap.size≤x)→∃ F',Hid (JD w0 W gd gj F' G (yP t (l.take (k+1))) s)∧Hid (bR F w W)∧Hid (∀ x∈F',x∈F∨w.heap.size≤x):=by
    intro t2 c4 c5 W m B o d;have c8:=a0.out.size;have b8:=P.out.ge;have b9:=Z.out.ge;refine⟨gj::m,?_,?_,?_⟩
    ·refine⟨⟨I,m,by rw[V.out,c4];exact P.out.step B o d c5,rfl⟩,Z.out.upd o (fun x f q=>z.out x (by simp[q]) f) (fun x f=>(b8 x (by simp[f])).1),fun x f hg=>?_⟩;rcases aG.1 f with q|q
     ·exact z.out x (by simp[q]) hg
     ·rcases d x q with r|r
      ·exact z.out x (by simp[r]) hg
      ·have:=(b9 x hg).2;omega
    ·exact a0.out.trans o (fun x f=>f) (fun x f=>Q.out x (by simp[f]))
    ·intro x f;rcases aG.1 f with q|q
     ·exact Q.out x (by simp[q])
     ·rcases d x q with r|r
      ·exact Q.out x (by simp[r])
      ·exact .inr (by omega)
   have N:=bG M;have R:Hid (wr.heap.size∉J):=fun f=>by have:=(hc.tab.ge _ f).2;omega
   have a8:=bG hc.jt;clear O b0 b1 D K L hd hu hf hc hF E b3 M;by_cases v:g=s0
   ·have t1:(g.toList==([]:List UInt8))=true:=by rw[v,gM];rfl
    have HE:=bG (b8l (c:=(a,g)) v C);have S:Hid (JT (fS ltI C a)):=by have:=a8.out.hold1 (a,g) Y.out;rwa[HE.out] at this
    clear v;go_wp2_with fail
    generalize wr.alloc (.cells #[.int .i64 a,.string g] 190)=w1 at *
    generalize wr.heap.size=gx at *
    have A:Hid (∀ W,bR [] w1 W→Calls Tryz.prog 152 #[.pointer (some ⟨I,0,none⟩),.int .i64 a] W fun e w'=>∃ b,e = .returned (.bool b)∧∃ m,Hid (pK w0 w' I m (fS ltI C a))∧bR J w1 w'∧Hid (∀ x∈m,x∈J∨w1.heap.size≤x)):=fun W hW=>by
     refine(d1m a _ _ (P.out.tab.upd0 hW) a3.out X.out rfl rfl).mono ?_;rintro e w' ⟨rfl,m,B,o,d⟩;exact⟨_,rfl,m,B,hW.trans o (by simp) (fun x f => .inl f),fun x f=>(d x f).imp id (fun q=>aL hW.size q)⟩
    have T:=bG P.out.nin;have ru:=bR.refl [] w1
    go_region_held3 (fun W=>W.cell? ⟨gj,1,none⟩=some (.pointer (some ⟨I,0,none⟩))∧W.cell? ⟨gx,0,none⟩=some (.int .i64 a)) (first|go_keep|exact⟨j.cell a7.out T.out,j.cell a6.out R.out⟩)
     (first
      | (go_at_call 152;(with_reducible refine(A.out _ (bR.seq ru ?_)).mono ?_);(repeat (first|exact bR.refl _ _|apply bR.drew|apply bR.drewN|apply bR.alloc));(rintro _ W2 ⟨b2,rfl,m,B,j,d⟩;dsimp only)))
    all_goals
     obtain⟨F9,k1,k2,k3⟩:=N.out _ HE.out S.out W2 m B.out j d.out;clear ru j B d A;go_wp2_with fail
     go_roundw
     case rel=>exact⟨k+1,F9,by go_num,by omega,k1,k2,k3⟩
     case measure=>simp[intOf];omega
   ·have t1:(g.toList==([]:List UInt8))=false:=by rw[bJ];exact fun q=>v (pV _ _ (by rw[q,gM]))
    have HE:=bG (b8m (c:=(a,g)) v C);have S:Hid (JT (dD ltI C a g)):=by have:=a8.out.hold1 (a,g) Y.out;rwa[HE.out] at this
    clear v;go_wp2_with fail
    generalize wr.alloc (.cells #[.int .i64 a,.string g] 190)=w1 at *
    generalize wr.heap.size=gx at *
    have A:Hid (∀ W,bR [] w1 W→Calls Tryz.prog 153 #[.pointer (some ⟨I,0,none⟩),.int .i64 a,.string g] W fun e w'=>∃ b,e = .returned (.bool b)∧∃ m,Hid (pK w0 w' I m (dD ltI C a g))∧bR J w1 w'∧Hid (∀ x∈m,x∈J∨w1.heap.size≤x)):=fun W hW=>by
     refine(d1l a g _ _ (P.out.tab.upd0 hW) a3.out X.out rfl rfl).mono ?_;rintro e w' ⟨rfl,m,B,o,d⟩;exact⟨_,rfl,m,B,hW.trans o (by simp) (fun x f => .inl f),fun x f=>(d x f).imp id (fun q=>aL hW.size q)⟩
    have T:=bG P.out.nin;have ru:=bR.refl [] w1
    go_region_held3 (fun W=>W.cell? ⟨gj,1,none⟩=some (.pointer (some ⟨I,0,none⟩))∧W.cell? ⟨gx,0,none⟩=some (.int .i64 a)∧W.cell? ⟨gx,1,none⟩=some (.string g)) (first|go_keep|exact⟨j.cell a7.out T.out,j.cell a6.out R.out,j.cell b6.out R.out⟩)
     (first
      | (go_at_call 153;(with_reducible refine(A.out _ (bR.seq ru ?_)).mono ?_);(repeat (first|exact bR.refl _ _|apply bR.drew|apply bR.drewN|apply bR.alloc));(rintro _ W2 ⟨b2,rfl,m,B,j,d⟩;dsimp only)))
    all_goals
     obtain⟨F9,k1,k2,k3⟩:=N.out _ HE.out S.out W2 m B.out j d.out;clear ru j B d A;go_wp2_with fail
     go_roundw
     case rel=>exact⟨k+1,F9,by go_num,by omega,k1,k2,k3⟩
     case measure=>simp[intOf];omega
  ·obtain rfl:k=l.length:=by omega
   have HF:Hid (JD w0 wr gd gj F' G (yP t l) s):=by have:=hd.out;rwa[aV] at this
   clear hd;go_wp2_with fail
   go_end0
   exact⟨rfl,F',HF.out,hu.out,hf.out⟩
end
section
variable {w0 w w' : World} {gd gj : Nat} {F G : List Nat} {t t' : JS} {s s' : DS}
theorem JD.cells (h:JD w0 w gd gj F G t s):∃ gt F0,w.cell? ⟨gj,0,none⟩=some (.pointer (some ⟨gd,0,none⟩))∧w.cell? ⟨gj,1,none⟩=some (.pointer (some ⟨gt,0,none⟩))∧pK w0 w gt F0 t∧F=gj::F0:=by
 obtain⟨gt,F0,a,b⟩:=h.jc;exact⟨gt,F0,a.top.cell 0,a.top.cell 1,a.tab,b⟩
theorem d2g (k:Int) (hk:gR k) (h:JD w0 w gd gj F G t s) :
  Calls Tryz.prog 53 #[.pointer (some ⟨gj,0,none⟩),.int .i64 k] w fun e w'=>e = .returned (.string (e3g t k))∧bR [] w w':=by
 obtain⟨m,o,-,p,f,-⟩:=h.cells;have d:=h.jt.len;have g:=bG f;have HK:=bG hk;obtain⟨y,b,c⟩:∃ y b,fC ltI s0 t k=(y,b):=⟨_,_,rfl⟩
 have i:=bG c;have j:Hid (e3g t k=y):=by unfold Hid e3g;rw[c]
 clear h f hk c;go_enter Tryz.func53,Tryz.ntmps53;go_wp2_with fail
 (with_reducible refine(d1n k y b g.out (by omega) HK.out i.out).mono ?_)
 rintro e r ⟨rfl,a⟩;have l:=bG a;clear a;go_wp2_with fail
 go_ret;exact⟨by rw[j.out];rfl,l.out⟩
def c5n (s:DS) (nm:ByteArray):Nat:=(dI s.now nm).1.length
theorem c5o (nm:ByteArray) (h:JD w0 w gd gj F G t s) (hn:s.now.length≤100000) :
  Calls Tryz.prog 130 #[.pointer (some ⟨gj,0,none⟩),sv nm] w fun e w'=>e = .returned (.int .i64 (c5n s nm:Int))∧bR [] w w':=by
 obtain⟨o,p,c0,-,-,-⟩:=h.cells;have i:=bG h.dd;have j:=bG hn;have f:Hid (c5n s nm=(dI s.now nm).1.length):=rfl;obtain⟨b,ok,d⟩:∃ b ok,dI s.now nm=(b,ok):=⟨_,_,rfl⟩
 have l:=bG d;rw[d] at f;clear h hn d;go_enter Tryz.func130,Tryz.ntmps130;go_wp2_with fail
 (with_reducible refine(qH nm i.out j.out).mono ?_)
 rw[l.out];rintro e r ⟨v,rfl,g,c⟩;have m:=bG c;obtain⟨a,k,rfl,-⟩:=g.rd;clear c g;go_wp2_with fail
 go_ret;exact⟨by rw[f.out];rfl,m.out⟩
end
section
variable {w0 w w' : World} {gd gj : Nat} {F G G1 : List Nat} {t t' : JS} {s s1 s2 : DS}
theorem b8n {W W':World} (h:JD w0 W gd gj F G1 t s1) (hu:bR G w W) (hf:∀ x∈F,w.heap.size≤x) (hg:∀ x∈G1,x∈G∨w.heap.size≤x) (hd:uA w0 W gd G1 s2 W'):yQ w0 w gd gj G t s2 W':=by
 obtain⟨c,d,f,g,i,j⟩:=(show ∃ c d,_ from h.disk hd)
 have hs:=hu.size;have b:∀ x∈F++G1,x∈G∨w.heap.size≤x:=fun x a=>by
  rcases aI.1 a with q|q
  ·exact .inr (hf x q)
  ·exact hg x q
 have key:∀ x,x∈F++G1∨W.heap.size≤x→x∈G∨w.heap.size≤x:=fun x a=>by
  rcases a with q|q
  ·exact b x q
  ·exact .inr (by omega)
 exact⟨c,d,f,hu.trans g (fun x a=>a) b,fun x a=>key x (i x a),fun x a=>key x (j x a)⟩
end
section
variable {B : List Nat} {K : KB} {s : Sl} {l : List UInt8}
theorem Sh.take_ (h:Sh B K s l) (m:Nat) (hm:m≤l.length):Sh B K ⟨s.a,m,s.k⟩ (l.take m):=by
 have o:=h.n;have p:=h.k;refine⟨by rw[aJ];show m=_;omega,by show m≤s.k;omega,h.m,h.nul,fun d=>?_⟩;have f:l≠[]:=fun q=>d (by rw[q];simp)
 obtain⟨b,c,g,i,r,j⟩:=h.ex f;refine⟨b,c,g,i,by rw[aJ];omega,?_⟩;rw[aJ,Nat.min_eq_left hm]
 conv=>rhs;rw[← j]
 rw[List.take_take,Nat.min_eq_left hm]
theorem Sh.drop_ (h:Sh B K s l) (m:Nat) (hm:m≤l.length):Sh B K ⟨if s.k=m then s.a else s.a.map (·.add m),l.length-m,s.k-m⟩ (l.drop m):=by
 have o:=h.n;have p:=h.k;refine⟨by rw[aH],by show l.length-m≤s.k-m;omega,by have:=h.m;show s.k-m≤_;omega,fun q=>?_,fun f=>?_⟩
 ·dsimp only at q ⊢;split at q
  ·have:=h.nul q;omega
  ·have:=h.nul (by simpa using q);omega
 ·have c:m < l.length:=by
   rcases Nat.lt_or_ge m l.length with q|q
   ·exact q
   ·exact absurd (List.drop_eq_nil_of_le q) f
  obtain⟨b,d,g,i,r,j⟩:=h.ex (fun q=>by rw[q] at c;simp at c);refine⟨b,d+m,?_,i,by rw[aH];omega,?_⟩
  ·show (if s.k=m then s.a else s.a.map (·.add m))=_;rw[if_neg (by omega),g];simp[dB]
  ·rw[aH]
   conv=>rhs;rw[← j]
   rw[List.drop_take,List.drop_drop]
end
structure DP (w0 w:World) (gd:Nat) (G:List Nat) (s:DS) (sl:Sl) (l:List UInt8):Prop where
 ex:∃ gn gm Fn Fm B K cn cm lv lg,DC w0 w gd gn gm Fn Fm B K cn cm lv lg∧s=⟨fY cn,fY cm,lg.map (·.1)⟩∧zU s∧G=qS gd Fn Fm B lv∧Sh B K sl l
section
variable {w0 w w' : World} {gd : Nat} {G : List Nat} {s : DS} {sl sl' : Sl} {l l' : List UInt8}
theorem DP.dd (h:DP w0 w gd G s sl l):DD w0 w gd G s:=by
 obtain⟨a,b,c,d,B,K,f,g,i,j,m,e,o,p,hs⟩:=h.ex;exact⟨a,b,c,d,B,K,f,g,i,j,m,e,o,p⟩
theorem DP.drop_ (h:DP w0 w gd G s sl l) (m:Nat) (hm:m≤l.length):DP w0 w gd G s ⟨if sl.k=m then sl.a else sl.a.map (·.add m),l.length-m,sl.k-m⟩ (l.drop m):=by
 obtain⟨b,c,d,f,B,K,g,i,j,o,p,e,r,t,hs⟩:=h.ex;exact⟨b,c,d,f,B,K,g,i,j,o,p,e,r,t,hs.drop_ m hm⟩
theorem DP.form (h:DP w0 w gd G s sl l):sl.n=l.length∧sl.n≤sl.k∧sl.k≤maxLen:=by
 obtain⟨a,b,c,d,B,K,f,g,i,j,o,e,p,r,hs⟩:=h.ex;exact⟨hs.n,hs.k,hs.m⟩
theorem DD.bytes (h:DD w0 w gd G s) {v:Value} (ho:fB bv w.heap.size 5 w' v l) (hu:bR [] w w'):∃ sl G',v = .slice sl.a sl.n sl.k∧DP w0 w' gd G' s sl l∧(∀ x∈G',x∈G∨w.heap.size≤x)∧(∀ x∈G,x∈G'):=by
 obtain⟨i,j,m,o,B,K,p,r,t,u,d,e,f,rfl⟩:=h.ex;obtain⟨sl,y,z,rfl,A,c,C,D,E,F,g⟩:=d.bks.new ho hu d.old.size;have hd:=d.upd0 hu;refine⟨sl,_,rfl,⟨i,j,m,o,y,z,p,r,t,u,⟨hd.dk,hd.gdb,hd.now.keep c g,hd.mark.keep c g,hd.full,hd.apt,A,hd.log,fun x b=>(hd.lsh x b).ext c⟩,e,f,rfl,D⟩,fun x b=>?_,fun x b=>?_⟩
 ·rcases (cV _ _ _ _ _ _).1 b with rfl|b|b|b|b
  ·exact .inl ((cV _ _ _ _ _ _).2 (.inl rfl))
  ·exact .inl ((cV _ _ _ _ _ _).2 (.inr (.inl b)))
  ·exact .inl ((cV _ _ _ _ _ _).2 (.inr (.inr (.inl b))))
  ·exact(C x b).imp (fun q=>(cV _ _ _ _ _ _).2 (.inr (.inr (.inr (.inl q))))) id
  ·exact .inl ((cV _ _ _ _ _ _).2 (.inr (.inr (.inr (.inr b)))))
 ·rcases (cV _ _ _ _ _ _).1 b with rfl|b|b|b|b
  ·exact(cV _ _ _ _ _ _).2 (.inl rfl)
  ·exact(cV _ _ _ _ _ _).2 (.inr (.inl b))
  ·exact(cV _ _ _ _ _ _).2 (.inr (.inr (.inl b)))
  ·exact(cV _ _ _ _ _ _).2 (.inr (.inr (.inr (.inl (c.sub x b)))))
  ·exact(cV _ _ _ _ _ _).2 (.inr (.inr (.inr (.inr b))))
theorem tC (nm:ByteArray) (m:Nat) (h:DP w0 w gd G s sl l) (hm:m≤l.length) (hx:wR (pJ nm (l.take m)) s.now) (hl:s.log.length≤1000000000) :
  Calls Tryz.prog 148 #[.pointer (some ⟨gd,0,none⟩),wrv (pJ nm (l.take m)) ⟨sl.a,m,sl.k⟩] w fun e w'=>e = .returned (.tuple #[])∧∃ G',DP w0 w' gd G' (nS (pJ nm (l.take m)) s) sl l∧bR G w w'∧(∀ x∈G',x∈G∨w.heap.size≤x):=by
 obtain⟨f,g,C,i,B,K,D,j,E,F,o,rfl,p,rfl,hs⟩:=h.ex;refine(d2b (pJ nm (l.take m)) ⟨sl.a,m,sl.k⟩ o hx (hs.take_ m hm) (by simpa using hl)).mono ?_;rintro e w' ⟨rfl,b,r,t,c,d,u,v,y,z,A⟩;exact⟨rfl,_,⟨f,g,b,i,r,t,c,j,d,_,u,by unfold nS;rw[y];simp,p.do_ hx,rfl,hs.ext v⟩,z,A⟩
def c5p:Value→Nat
 | .slice _ n _=>n
 | _=>0
theorem c5q {w w':World} {v:Value} {l:List UInt8} (h:eQ w v l) {S:List Nat} (hu:bR S w w') (hs:l≠[]→∀ x∈blk v,x∉S):eQ w' v l:=by
 by_cases b:l=[]
 ·obtain⟨a,k,e,c,d,f⟩:=h;exact⟨a,k,e,c,d,fun q=>absurd b q⟩
 ·exact h.upd hu (hs b)
theorem uA.dp {w1 w2:World} {G1 G2:List Nat} (h:DP w0 w2 gd G2 s sl l) (hu:bR G w w1) (hf:∀ x∈G1,x∈G∨w.heap.size≤x) (hu2:bR G1 w1 w2) (hf2:∀ x∈G2,x∈G1∨w1.heap.size≤x):uA w0 w gd G s w2 :=
 ⟨G2,h.dd,hu.trans hu2 (fun x a=>a) hf,fun x a=>by
  have:=hu.size;rcases hf2 x a with q|q
  ·exact hf x q
  ·exact .inr (by omega)⟩
theorem zX (nm:ByteArray) (v:Value) (p:List UInt8) (hp:eQ w v p) (hap:p≠[]→∀ x∈blk v,x∉G) (h:DD w0 w gd G s) (hpl:p.length≤100000000) (hn:s.now.length≤4999) (hl:s.log.length≤500000000) :
  Calls Tryz.prog 128 #[.pointer (some ⟨gd,0,none⟩),sv nm,v] w (e9a w0 w gd G (dJ s nm p)):=by
 have HP:=bG hp;obtain⟨ap,cp,rfl,f0,d0,-⟩:=hp;have e9:cp≤9223372036854775807:=by unfold maxLen at d0;omega
 obtain⟨gn,oa,on,ok,c0,-,b6⟩:=h.look nm (by omega);have S:=bG b6;have C0:=bG c0;have HD:=bG h;have HL:=bG hl;have b4:=bG hn;have d6:=bG hap;have b5:=h.ok.tot;clear b6 h hl hn d0 c0 hap;cases u:dL nm with
 | false =>
  have X:Hid (dJ s nm p=(14,s)):=by unfold Hid dJ;rw[u];rfl
  have Y:=bG u;clear u;go_enter Tryz.func128,Tryz.ntmps128;go_wp2_with fail
  (with_reducible refine(qA w nm).mono ?_)
  rw[Y.out];rintro e w1 ⟨rfl,rfl⟩;go_wp2_with fail
  go_ret;exact⟨by rw[X.out];rfl,by rw[X.out];exact HD.out.out0 (bR.refl _ _)⟩
 | true =>
  have Y:=bG u;have Z:Hid (s.now.length≤100000):=by have:=b4.out;unfold Hid;omega
  by_cases t:16777216 < cN s.now+p.length
  ·have X:Hid (dJ s nm p=(9,s)):=by unfold Hid dJ;rw[u,if_pos rfl,if_pos t]
   have q:(16777216:Int)-(cN s.now:Int) < p.length:=by omega
   have b7:IntKind.i64.wrap (16777216-(cN s.now:Int))=16777216-(cN s.now:Int):=by rw[aQ];omega
   clear u;go_enter Tryz.func128,Tryz.ntmps128;go_wp2_with fail
   (with_reducible refine(qA w nm).mono ?_)
   rw[Y.out];rintro e w1 ⟨rfl,rfl⟩;go_wp2_with fail
   (with_reducible refine(vJ HD.out Z.out).mono ?_)
   rintro e w2 ⟨rfl,c⟩;have d:=bG c;clear c;go_wp2_with fail
   go_ret;exact⟨by rw[X.out];rfl,by rw[X.out];exact HD.out.out0 d.out⟩
  ·have q:¬ (16777216:Int)-(cN s.now:Int) < p.length:=by omega
   have b7:IntKind.i64.wrap (16777216-(cN s.now:Int))=16777216-(cN s.now:Int):=by rw[aQ];omega
   have HT:Hid (cN s.now+p.length≤16777216):=by unfold Hid;omega
   cases I:uI s.now nm with
   | true =>
    have X:Hid (dJ s nm p=(0,iO nm s (cX p))):=by unfold Hid dJ;rw[u,if_pos rfl,if_neg t,I,if_pos rfl]
    rw[I] at S;have a0:=bG I;clear u I t;go_enter Tryz.func128,Tryz.ntmps128;go_wp2_with fail
    (with_reducible refine(qA w nm).mono ?_)
    rw[Y.out];rintro e w1 ⟨rfl,rfl⟩;go_wp2_with fail
    (with_reducible refine(vJ HD.out Z.out).mono ?_)
    rintro e w2 ⟨rfl,c⟩;have d:=bG c;have c0:=c.cell C0.out (by simp);clear c;go_wp2_with fail
    (with_reducible refine(S.out w2 d.out).mono ?_)
    rintro e w3 ⟨rfl,a9⟩;have U:=bG (d.out.seq a9);have D1:=bG (HD.out.upd0 U.out);have b8:=bG (HP.out.upd0 U.out);have B:Hid (s.now.length≤5000):=by have:=b4.out;unfold Hid;omega
    have C:Hid (cN s.now+p.length≤16777216):=HT.out;have a1:Hid (s.log.length≤500000001):=by have:=HL.out;unfold Hid;omega
    clear a9 c0 q b7 b5;have D:=bG (fun ty=>lJ (P:=Tryz.prog) (w:=w3) (ty:=ty) gE Tryz.underlying33 a2n rfl (.slice none 0 0) (.slice ap p.length cp) [] p (bK w3 (w3.heap).size _ 1) b8.out (by simp;omega) (by simp[maxLen];omega) (aF _));go_wp2_with (at_builtin;go_must (refine cQ rfl _ _ rfl (.slice none 0 0) (.slice ap p.length cp) rfl rfl (D.out _) ?_;rintro v2 w2 ⟨b0,c,V⟩;have d:=bG (c.mono (T:=[]) (by simp[blk]));obtain⟨⟨a2,n2,k2⟩,G2,rfl,b1,b2,E⟩:=D1.out.bytes (l:=p) b0 d.out;have a3:=bG b1;have a4:=bG b2;have a5:=bG E;clear b0 c V b1 b2 E D;dsimp only))
    go_loopw [2] (fun v wr=>∃ (k:Nat) (sl:Sl) (G':List Nat),k≤(cX p).length∧v = .slice sl.a sl.n sl.k∧Hid (DP w0 wr gd G' (iO nm s ((cX p).take k)) sl (p.drop (32*k)))∧Hid (bR G w3 wr)∧Hid (∀ x∈G',x∈G∨(w3.heap).size≤x)) (fun v _=>c5p v)
    case atStart=>exact⟨0,⟨a2,n2,k2⟩,G2,aS _,rfl,a3.out,d.out.mono (by simp),a4.out⟩
    case round =>
     obtain⟨k,⟨O,b,F⟩,G',hk,rfl,hd,hu,hg⟩:=hrel;clear a3 d a4 a5;have f:=hd.out.form;dsimp only at f;obtain⟨z,e5,e6⟩:=f;rw[aH] at z;have a6:=jO p;by_cases c7:k < (cX p).length
     ·have c8:32*k < p.length:=by omega
      obtain⟨b3,i⟩:wR (pJ nm ((p.drop (32*k)).take 32)) (iO nm s ((cX p).take k)).now∧(iO nm s ((cX p).take k)).log.length≤1000000000:=by
       have ih:=nM.all p D1.out.ok a0.out B.out C.out k hk;have g:((p.drop (32*k)).take 32).length=min 32 (p.length-32*k):=by rw[aJ,aH]
       have d7:=C.out;refine⟨(ih.step ((p.drop (32*k)).take 32) (fun q=>by rw[q] at g;simp at g;omega) B.out (by rw[g];omega)).1,?_⟩;have:=ih.log;have:=a1.out;omega
      have K:=bG b3;have a7:=bG i;have b9:=bG (sV nm s p k c7);obtain⟨m,Q⟩:∃ m,m=min b 32:=⟨_,rfl⟩
      have a8:Hid ((p.drop (32*k)).take 32=(p.drop (32*k)).take m):=by
       unfold Hid;rcases Nat.lt_or_ge b 32 with q|q
       ·rw[aZ (by rw[aH];omega),aZ (by rw[aH];omega)]
       ·rw[show m=32 by omega]
      have c1:Hid ((p.drop (32*k)).drop m=p.drop (32*(k+1))):=by
       unfold Hid;rw[List.drop_drop];rcases Nat.lt_or_ge b 32 with q|q
       ·rw[List.drop_of_length_le (by omega),List.drop_of_length_le (by omega)]
       ·rw[show 32*k+m=32*(k+1) by omega]
      have L:Hid (m≤(p.drop (32*k)).length):=by unfold Hid;rw[aH];omega
      have c2:m≤b:=by omega
      have d8:0 < m:=by omega
      have c3:Hid ((p.drop (32*k)).length=b):=by unfold Hid;rw[aH];omega
      obtain⟨A,hA,c5⟩:∃ A:Option Addr,A=(if F=m then O else O.map (·.add m))∧∀ W,(Instr.slice 33 (.slice O b F) (some (.int .i64 (m:Int))) none none).run Tryz.prog W = .ok (.slice A (b-m) (F-m)) W :=
       ⟨_,rfl,fun W=>by have h:=a0w (P:=Tryz.prog) (size:=1) Tryz.underlying33 (by kernel_rfl) O b F m c2 W;simpa using h⟩
      have c4:=fun W=>sP (P:=Tryz.prog) (size:=1) Tryz.underlying33 (by kernel_rfl) O b F m (by omega) W
      have HA:=bG hA;have d9:(0:Int) < b:=by omega
      have e0:=bG Q;clear b3 i hA z a6;have y:Hid (∀ w' G2,DP w0 w' gd G2 (nS (pJ nm ((p.drop (32*k)).take m)) (iO nm s ((cX p).take k))) ⟨O,b,F⟩ (p.drop (32*k))→DP w0 w' gd G2 (iO nm s ((cX p).take (k+1))) ⟨A,b-m,F-m⟩ (p.drop (32*(k+1)))):=fun w' G2 h=>by
       have h2:=h.drop_ m L.out;rw[c1.out,c3.out] at h2;dsimp only at h2;rw[← HA.out] at h2;rw[b9.out,a8.out];exact h2
      rw[a8.out] at K;rcases Nat.lt_or_ge 32 b with q|q
      ·obtain rfl:m=32:=by omega
       have q1:(32:Int) < b:=by omega
       clear q Q;go_wp2_with fail
       (with_reducible refine(tC nm _ hd.out L.out K.out a7.out).mono ?_)
       rintro e w4 ⟨rfl,R,h4,j,o⟩;have H4:=bG (y.out w4 R h4)
       try rw[Nat.sub_self] at H4
       have M:Hid (bR G w3 w4):=hu.out.trans j (fun x J=>J) hg.out;have N:Hid (∀ x∈R,x∈G∨(w3.heap).size≤x):=fun x J=>by
        have:=hu.out.size;rcases o x J with r|r
        ·exact hg.out x r
        ·exact .inr (by omega)
       clear h4 j o y;go_wp2_with fail
       go_roundw
       case rel=>exact⟨k+1,⟨A,_,_⟩,R,by omega,by first|rfl|(rw[HA.out,if_neg (by omega)];rfl),H4,M,N⟩
       case measure=>simp[c5p];omega
      ·obtain rfl:m=b:=by omega
       have q1:¬ (32:Int) < m:=by omega
       clear q Q;go_wp2_with fail
       (with_reducible refine(tC nm _ hd.out L.out K.out a7.out).mono ?_)
       rintro e w4 ⟨rfl,R,h4,j,o⟩;have H4:=bG (y.out w4 R h4)
       try rw[Nat.sub_self] at H4
       have M:Hid (bR G w3 w4):=hu.out.trans j (fun x J=>J) hg.out;have N:Hid (∀ x∈R,x∈G∨(w3.heap).size≤x):=fun x J=>by
        have:=hu.out.size;rcases o x J with r|r
        ·exact hg.out x r
        ·exact .inr (by omega)
       clear h4 j o y;go_wp2_with fail
       go_roundw
       case rel=>exact⟨k+1,⟨A,_,_⟩,R,by omega,by first|rfl|(rw[HA.out,if_neg (by omega)];rfl),H4,M,N⟩
       case measure=>simp[c5p];omega
     ·obtain rfl:k=(cX p).length:=by omega
      have hz:b=0:=by omega
      have HF:Hid (DP w0 wr gd G' (iO nm s (cX p)) ⟨O,b,F⟩ (p.drop (32*(cX p).length))):=by have:=hd.out;rwa[aV] at this
      have e1:=bG z;clear z a6 hd;subst hz;go_wp2_with fail
      go_ret;exact⟨by rw[X.out];rfl,by rw[X.out];exact uA.dp HF.out (U.out.mono (by simp)) (fun x J => .inl J) hu.out hg.out⟩
   | false =>
    have X:Hid (dJ s nm p=(0,iO nm (nS (gQ nm) s) (cX p))):=by unfold Hid dJ;rw[u,if_pos rfl,if_neg t,I,if_neg (by simp)]
    rw[I] at S;obtain⟨hw,e7,V,d1,e8⟩:=HD.out.ok.make nm I (by have:=b4.out;omega);have HW:=bG hw;have a0:=bG V;have B:Hid ((nS (gQ nm) s).now.length≤5000):=by have:=b4.out;unfold Hid;omega
    have C:Hid (cN (nS (gQ nm) s).now+p.length≤16777216):=by unfold Hid;rw[d1];exact HT.out
    have a1:Hid ((nS (gQ nm) s).log.length≤500000001):=by have:=HL.out;unfold Hid nS;simp;omega
    have e2:Hid (s.log.length≤1000000000):=by have:=HL.out;unfold Hid;omega
    clear u I t hw e7 V d1 e8;go_enter Tryz.func128,Tryz.ntmps128;go_wp2_with fail
    (with_reducible refine(qA w nm).mono ?_)
    rw[Y.out];rintro e w1 ⟨rfl,rfl⟩;go_wp2_with fail
    (with_reducible refine(vJ HD.out Z.out).mono ?_)
    rintro e w2 ⟨rfl,c⟩;have d:=bG c;have c0:=c.cell C0.out (by simp);clear c;go_wp2_with fail
    (with_reducible refine(S.out w2 d.out).mono ?_)
    rintro e w3 ⟨rfl,a9⟩;have U:=bG (d.out.seq a9);clear a9 c0 q b7 b5;go_wp2_with fail
    (with_reducible refine(d7g (gQ nm) (HD.out.upd0 U.out) HW.out rfl e2.out).mono ?_)
    rintro e w5 ⟨rfl,d3⟩;have c9:=bG (d3.later U.out);obtain⟨G5,d4,c6,d5⟩:=c9.out;have D1:=bG d4;have e3:=bG c6;have e4:=bG d5;have b8:=bG (c5q HP.out c6 d6.out);clear d3 d4 c6 d5 c9;have D:=bG (fun ty=>lJ (P:=Tryz.prog) (w:=w5) (ty:=ty) gE Tryz.underlying33 a2n rfl (.slice none 0 0) (.slice ap p.length cp) [] p (bK w5 (w5.heap).size _ 1) b8.out (by simp;omega) (by simp[maxLen];omega) (aF _));go_wp2_with (at_builtin;go_must (refine cQ rfl _ _ rfl (.slice none 0 0) (.slice ap p.length cp) rfl rfl (D.out _) ?_;rintro v2 w2 ⟨b0,c,V⟩;have d:=bG (c.mono (T:=[]) (by simp[blk]));obtain⟨⟨a2,n2,k2⟩,G2,rfl,b1,b2,E⟩:=D1.out.bytes (l:=p) b0 d.out;have a3:=bG b1;have a4:=bG b2;have a5:=bG E;clear b0 c V b1 b2 E D;dsimp only))
    go_loopw [2] (fun v wr=>∃ (k:Nat) (sl:Sl) (G':List Nat),k≤(cX p).length∧v = .slice sl.a sl.n sl.k∧Hid (DP w0 wr gd G' (iO nm (nS (gQ nm) s) ((cX p).take k)) sl (p.drop (32*k)))∧Hid (bR G5 w5 wr)∧Hid (∀ x∈G',x∈G5∨(w5.heap).size≤x)) (fun v _=>c5p v)
    case atStart=>exact⟨0,⟨a2,n2,k2⟩,G2,aS _,rfl,a3.out,d.out.mono (by simp),a4.out⟩
    case round =>
     obtain⟨k,⟨O,b,F⟩,G',hk,rfl,hd,hu,hg⟩:=hrel;clear a3 d a4 a5;have f:=hd.out.form;dsimp only at f;obtain⟨z,e5,e6⟩:=f;rw[aH] at z;have a6:=jO p;by_cases c7:k < (cX p).length
     ·have c8:32*k < p.length:=by omega
      obtain⟨b3,i⟩:wR (pJ nm ((p.drop (32*k)).take 32)) (iO nm (nS (gQ nm) s) ((cX p).take k)).now∧(iO nm (nS (gQ nm) s) ((cX p).take k)).log.length≤1000000000:=by
       have ih:=nM.all p D1.out.ok a0.out B.out C.out k hk;have g:((p.drop (32*k)).take 32).length=min 32 (p.length-32*k):=by rw[aJ,aH]
       have d7:=C.out;refine⟨(ih.step ((p.drop (32*k)).take 32) (fun q=>by rw[q] at g;simp at g;omega) B.out (by rw[g];omega)).1,?_⟩;have:=ih.log;have:=a1.out;omega
      have K:=bG b3;have a7:=bG i;have b9:=bG (sV nm (nS (gQ nm) s) p k c7);obtain⟨m,Q⟩:∃ m,m=min b 32:=⟨_,rfl⟩
      have a8:Hid ((p.drop (32*k)).take 32=(p.drop (32*k)).take m):=by
       unfold Hid;rcases Nat.lt_or_ge b 32 with q|q
       ·rw[aZ (by rw[aH];omega),aZ (by rw[aH];omega)]
       ·rw[show m=32 by omega]
      have c1:Hid ((p.drop (32*k)).drop m=p.drop (32*(k+1))):=by
       unfold Hid;rw[List.drop_drop];rcases Nat.lt_or_ge b 32 with q|q
       ·rw[List.drop_of_length_le (by omega),List.drop_of_length_le (by omega)]
       ·rw[show 32*k+m=32*(k+1) by omega]
      have L:Hid (m≤(p.drop (32*k)).length):=by unfold Hid;rw[aH];omega
      have c2:m≤b:=by omega
      have d8:0 < m:=by omega
      have c3:Hid ((p.drop (32*k)).length=b):=by unfold Hid;rw[aH];omega
      obtain⟨A,hA,c5⟩:∃ A:Option Addr,A=(if F=m then O else O.map (·.add m))∧∀ W,(Instr.slice 33 (.slice O b F) (some (.int .i64 (m:Int))) none none).run Tryz.prog W = .ok (.slice A (b-m) (F-m)) W :=
       ⟨_,rfl,fun W=>by have h:=a0w (P:=Tryz.prog) (size:=1) Tryz.underlying33 (by kernel_rfl) O b F m c2 W;simpa using h⟩
      have c4:=fun W=>sP (P:=Tryz.prog) (size:=1) Tryz.underlying33 (by kernel_rfl) O b F m (by omega) W
      have HA:=bG hA;have d9:(0:Int) < b:=by omega
      have e0:=bG Q;clear b3 i hA z a6;have y:Hid (∀ w' G2,DP w0 w' gd G2 (nS (pJ nm ((p.drop (32*k)).take m)) (iO nm (nS (gQ nm) s) ((cX p).take k))) ⟨O,b,F⟩ (p.drop (32*k))→DP w0 w' gd G2 (iO nm (nS (gQ nm) s) ((cX p).take (k+1))) ⟨A,b-m,F-m⟩ (p.drop (32*(k+1)))):=fun w' G2 h=>by
       have h2:=h.drop_ m L.out;rw[c1.out,c3.out] at h2;dsimp only at h2;rw[← HA.out] at h2;rw[b9.out,a8.out];exact h2
      rw[a8.out] at K;rcases Nat.lt_or_ge 32 b with q|q
      ·obtain rfl:m=32:=by omega
       have q1:(32:Int) < b:=by omega
       clear q Q;go_wp2_with fail
       (with_reducible refine(tC nm _ hd.out L.out K.out a7.out).mono ?_)
       rintro e w4 ⟨rfl,R,h4,j,o⟩;have H4:=bG (y.out w4 R h4)
       try rw[Nat.sub_self] at H4
       have M:Hid (bR G5 w5 w4):=hu.out.trans j (fun x J=>J) hg.out;have N:Hid (∀ x∈R,x∈G5∨(w5.heap).size≤x):=fun x J=>by
        have:=hu.out.size;rcases o x J with r|r
        ·exact hg.out x r
        ·exact .inr (by omega)
       clear h4 j o y;go_wp2_with fail
       go_roundw
       case rel=>exact⟨k+1,⟨A,_,_⟩,R,by omega,by first|rfl|(rw[HA.out,if_neg (by omega)];rfl),H4,M,N⟩
       case measure=>simp[c5p];omega
      ·obtain rfl:m=b:=by omega
       have q1:¬ (32:Int) < m:=by omega
       clear q Q;go_wp2_with fail
       (with_reducible refine(tC nm _ hd.out L.out K.out a7.out).mono ?_)
       rintro e w4 ⟨rfl,R,h4,j,o⟩;have H4:=bG (y.out w4 R h4)
       try rw[Nat.sub_self] at H4
       have M:Hid (bR G5 w5 w4):=hu.out.trans j (fun x J=>J) hg.out;have N:Hid (∀ x∈R,x∈G5∨(w5.heap).size≤x):=fun x J=>by
        have:=hu.out.size;rcases o x J with r|r
        ·exact hg.out x r
        ·exact .inr (by omega)
       clear h4 j o y;go_wp2_with fail
       go_roundw
       case rel=>exact⟨k+1,⟨A,_,_⟩,R,by omega,by first|rfl|(rw[HA.out,if_neg (by omega)];rfl),H4,M,N⟩
       case measure=>simp[c5p];omega
     ·obtain rfl:k=(cX p).length:=by omega
      have hz:b=0:=by omega
      have HF:Hid (DP w0 wr gd G' (iO nm (nS (gQ nm) s) (cX p)) ⟨O,b,F⟩ (p.drop (32*(cX p).length))):=by have:=hd.out;rwa[aV] at this
      have e1:=bG z;clear z a6 hd;subst hz;go_wp2_with fail
      go_ret;exact⟨by rw[X.out];rfl,by rw[X.out];exact uA.dp HF.out e3.out e4.out hu.out hg.out⟩
end
theorem d7h (p:List UInt8):(mV [] p).length≤262152:=by
 unfold mV;split
 ·simp
 ·rw[List.nil_append,lS];omega
structure b8o (k:Nat) (s s':DS):Prop where
 ok:zU s'
 now:s'.now.length≤s.now.length+k
 log:s'.log.length≤s.log.length+262160*k
theorem b8o.zero {s:DS} (h:zU s):b8o 0 s s:=⟨h,by omega,by omega⟩
theorem b8o.append {k:Nat} {s s':DS} (h:b8o k s s') (nm:ByteArray) (p:List UInt8) (hp:p.length≤262152) (hn:s'.now.length≤4999):b8o (k+1) s (dJ s' nm p).2:=by
 have a:=a8w h.ok nm p hn;have b:=a.now;have c:=a.log;have d:=h.now;have f:=h.log;exact⟨h.ok.append nm p hn,by omega,by omega⟩
section
variable {w0 w w' : World} {gd gj : Nat} {F G : List Nat} {t t' : JS} {s s' : DS}
theorem JD.app (h:JD w0 w gd gj F G t s) {v:Value} {p:List UInt8} (nm:ByteArray) (hp:eQ w v p) (hap:p≠[]→∀ x∈blk v,x∉G) (hpl:p.length≤100000000) (hn:s.now.length≤4999) (hl:s.log.length≤500000000) {r:Int} (he:dJ s nm p=(r,s')) :
  Calls Tryz.prog 128 #[.pointer (some ⟨gd,0,none⟩),sv nm,v] w fun e w'=>e = .returned (.int .i64 r)∧yQ w0 w gd gj (F++G) t s' w':=by
 refine(zX nm v p hp hap h.dd hpl hn hl).mono ?_;rw[he];rintro e w' ⟨rfl,a⟩;exact⟨rfl,h.disk a⟩
theorem yQ.cell0 {S:List Nat} (h:yQ w0 w gd gj S t s w'):w'.cell? ⟨gj,0,none⟩=some (.pointer (some ⟨gd,0,none⟩)):=by
 obtain⟨b,c,a,-⟩:=h;obtain⟨d,f,c0,-⟩:=a.cells;exact c0
end
end Go.Proofs.YthgnlfikneipiaaGreat
