/- Texts of the proof, joined. -/
import Derived.Test.YthgnlfikneipiaaGreatMg1
import Derived.Test.YthgnlfikneipiaaGreatMg11
import Derived.Test.YthgnlfikneipiaaGreatMg8
import Derived.Test.YthgnlfikneipiaaGreatMg10
import Derived.Test.YthgnlfikneipiaaGreatMg7
set_option linter.unusedSimpArgs false
set_option linter.unusedVariables false
set_option linter.unusedSectionVars false
set_option maxRecDepth 100000
set_option maxHeartbeats 4000000
namespace Go.Proofs.YthgnlfikneipiaaGreat
open Go.RowKit
open Go.Eng (cR cJ cY bQ EB dN cW)
def eU (b:Nat) (v:Value) (rows:List (List Value)):cR b:=cY b fQ (Eng.rW rows.length) (Eng.kO rows.length) (Eng.qE rows.length) (v::rows.flatten)
def uN (r:List Value):Prop:=r.length=21∧∀ u∈r,u.oneCell'=true
def jJ (rows:List (List Value)):Prop:=∀ r∈rows,uN r
theorem a3s:∀ n i,(Eng.iL i n).length=n
 | 0,i=>rfl
 | n+1,i=>by simp[Eng.iL,a3s n]
theorem wZ:∀ m n i,Eng.iL i (m+n)=Eng.iL i m++Eng.iL (i+m) n
 | 0,n,i=>by simp[Eng.iL]
 | m+1,n,i=>by
  rw[show m+1+n=(m+n)+1 by omega];simp only[Eng.iL,List.cons_append];rw[wZ m n (i+1),show i+1+m=i+(m+1) by omega]
theorem yS:∀ {rows:List (List Value)},jJ rows→rows.flatten.length=21*rows.length
 | [],_=>rfl
 | r::l,h=>by
  have h1:=(h r (by simp)).1;have b:=yS (rows:=l) (fun x a=>h x (by simp[a]));simp only[List.flatten_cons,aE,aW];omega
theorem jJ.take {rows:List (List Value)} (h:jJ rows) (n:Nat):jJ (rows.take n):=fun r a=>h r (List.mem_of_mem_take a)
theorem a0a {rows:List (List Value)} {i:Nat} (hi:i < rows.length):rows.flatten=(rows.take i).flatten++(rows[i]++(rows.drop (i+1)).flatten):=by
 have a:rows.flatten=(rows.take i++rows.drop i).flatten:=by rw[List.take_append_drop]
 rw[a,List.flatten_append,List.drop_eq_getElem_cons hi,List.flatten_cons]
section
variable {b : Nat} {ν : Nat → Int} {G : Eng.GM}
theorem a3t {rows:List (List Value)} (hr:jJ rows) {i:Nat} (hi:i < rows.length) (h:@Eng.dG (bQ b ν) G (Eng.iL 3 (21*rows.length))=some rows.flatten) :
  @Eng.dG (bQ b ν) G (Eng.iL 3 (21*i))=some (rows.take i).flatten∧@Eng.dG (bQ b ν) G (Eng.iL (3+21*i) 21)=some rows[i]∧@Eng.dG (bQ b ν) G (Eng.iL (3+21*(i+1)) (21*(rows.length-(i+1))))=some (rows.drop (i+1)).flatten:=by
 rw[show 21*rows.length=21*i+(21+21*(rows.length-(i+1))) by omega,wZ,wZ] at h;obtain⟨x,y,a,m,c⟩:=(@Eng.eL (bQ b ν) _ _ _ _).1 h;obtain⟨y,z,d,f,rfl⟩:=(@Eng.eL (bQ b ν) _ _ _ _).1 m;have g:=@Eng.dM (bQ b ν) _ _ _ a;have j:=@Eng.dM (bQ b ν) _ _ _ d;rw[a3s] at g j;rw[a0a hi] at c;have l:=yS (hr.take i);rw[aJ,Nat.min_eq_left (by omega)] at l;obtain⟨o,p⟩:=List.append_inj c (by omega);have t:=(hr rows[i] (bP hi)).1;obtain⟨r,s⟩:=List.append_inj p (by omega);rw[o,r,s];exact⟨a,d,by rw[show 3+21*i+21=3+21*(i+1) by omega] at f;exact f⟩
theorem tJ {H:Eng.Hp} {w:World} {F:Nat→Prop}:∀ {ds:List Value} {n:Nat} {rt:List Eng.AV} {vals:List Value},(cY b ν H n rt vals).P w F→(∀ u∈ds,u.oneCell'=true)→(cY b ν H (n+ds.length) (rt++Eng.iL n ds.length) (vals++ds)).P w F
 | [],n,rt,vals,h,_=>by simpa [Eng.iL] using h
 | d::ds,n,rt,vals,h,hd=>by
  have h1:=tJ (ds:=ds) (d3l h (hd d (by simp))) (fun u f=>hd u (by simp[f]));have a:n+1+ds.length=n+(d::ds).length:=by simp;omega
  have c:(rt++[Eng.AV.opq n])++Eng.iL (n+1) ds.length=rt++Eng.iL n (d::ds).length:=by simp[Eng.iL]
  rw[a,c,bN] at h1;exact h1
end
theorem e0n {p:Nat→Nat→Bool} (h:((List.range 10).all fun m=>(List.range m).all (p m))=true) {m i:Nat} (hm:m≤9) (hi:i < m):p m i=true:=by
 rw[bB] at h;have a:=h m (List.mem_range.2 (by omega));rw[bB] at a;exact a i (List.mem_range.2 hi)
def ptZ:List Value:=[.bool false,.int .i64 0,.int .i64 0,.int .i64 0,.int .u32 0,.int .i64 0,.int .i64 0,.bool false,.bool false,.int .i64 0,.int .i64 0,.slice none 0 0,.slice none 0 0,.int .i64 0,.slice none 0 0,.slice none 0 0,.int .i64 0,.slice none 0 0,.slice none 0 0,.int .i64 0,.slice none 0 0]
theorem b9b (m:Nat):Eng.rH (Eng.rW m)=true:=by cases m<;>rfl
section
variable {b : Nat} {w : World} {F : Nat → Prop} {v : Value} {rows : List (List Value)}
def qL (b:Nat) (v:Value) (rows:List (List Value)) (r:Value) (w:World) (F:Nat→Prop) (e:Ending) (w':World):Prop :=
 ∃ F',e = .returned r∧(eU b v rows).P w' F'∧cJ F w w'∧tF F w F'
theorem sC {G:Eng.GM} {m:Nat} {vals:List Value} (h:@Eng.dG (bQ b fQ) G (Eng.qE m)=some (v::vals)):@Eng.dn (bQ b fQ) G (.ptr 1 0)=some v∧@Eng.dG (bQ b fQ) G (Eng.iL 3 (21*m))=some vals:=by
 obtain⟨u,r,a,c,e⟩:=(@Eng.bS (bQ b fQ) _ _ _ _).1 h;cases e;exact⟨a,c⟩
theorem xA {f:FuncId} {args:List Eng.AV} {us:List Value} {res:Eng.AV} {r:Value} {ρ:List Nat} (ht:Eng.fG (EB []) 300 f args (Eng.rW rows.length) (Eng.kO rows.length) res [⟨ρ,Eng.rW rows.length,Eng.kO rows.length,Eng.qE rows.length,Eng.qE rows.length⟩]=true)
  (h:(eU b v rows).P w F) (hb:b≤w.heap.size) (hu:∀ G:Eng.GM,@Eng.dG (bQ b fQ) G (Eng.qE rows.length)=some (v::rows.flatten)→@Eng.uS (bQ b fQ) G args us) (hv:∀ G:Eng.GM,@Eng.dG (bQ b fQ) G (Eng.qE rows.length)=some (v::rows.flatten)→@Eng.dv (bQ b fQ) G res=some r) :
  Calls Tryz.prog f us.toArray w (qL b v rows r w F):=by
 refine(Eng.a0v (us:=us) (@Eng.a2a (bQ b fQ) [] (fun i p q=>by cases i<;>cases q)) ht h (b9b _) hb hu).mono ?_;rintro e t ⟨u,G,G0,rfl,c,d,g,j,l⟩;have a:=@Eng.cT (bQ b fQ) _ _ d _ _ g;obtain⟨m,o,s⟩:=j _ a;rw[hv G a] at c;cases c;exact⟨m,rfl,o,l,s⟩
theorem d8a (h:(eU b v rows).P w F) (hb:b≤w.heap.size) (hm:rows.length≤9):Calls Tryz.prog 79 #[v] w (qL b v rows (.int .i64 (rows.length:Int)) w F):=by
 have a:=Eng.e7j;rw[bB] at a;exact xA (a rows.length (List.mem_range.2 (by omega))) h hb (fun G c=>⟨@Eng.cZ (bQ b fQ) _ _ _ (sC c).1,trivial⟩) (fun G c=>rfl)
theorem d3m {G:Eng.GM} {i:Nat} (hr:jJ rows) (hi:i < rows.length) (hG:@Eng.dG (bQ b fQ) G (Eng.qE rows.length)=some (v::rows.flatten)):@Eng.d2 (bQ b fQ) G (.agg (Eng.iL (3+21*i) 21))=some (.agg rows[i].toArray):=by
 show Option.map _ (@Eng.dG (bQ b fQ) G _)=_;rw[(a3t hr hi (sC hG).2).2.1];rfl
theorem c2j (h:(eU b v rows).P w F) (hr:jJ rows) (hb:b≤w.heap.size) (hm:rows.length≤9) {i:Nat} (hi:i < rows.length) :
  Calls Tryz.prog 29 #[v,.int .i64 ((i+1:Nat):Int)] w (qL b v rows (.tuple #[.agg rows[i].toArray,.bool true]) w F) :=
 xA (e0n Eng.e7i hm hi) h hb (fun G a=>⟨@Eng.cZ (bQ b fQ) _ _ _ (sC a).1,rfl,trivial⟩) (fun G a=>by
  show Option.map _ (@Eng.uQ (bQ b fQ) G _)=_;simp only[Eng.uQ,d3m hr hi a];rfl)
theorem d3n (h:(eU b v rows).P w F) (hb:b≤w.heap.size) (hm:rows.length≤9) {i:Nat} (hi:rows.length≤i) (hi2:i < 12) :
  Calls Tryz.prog 29 #[v,.int .i64 ((i+1:Nat):Int)] w (qL b v rows (.tuple #[.agg ptZ.toArray,.bool false]) w F):=by
 have a:=Eng.f1s;rw[bB] at a;have c:=a rows.length (List.mem_range.2 (by omega));rw[bB] at c;have d:=c (i-rows.length) (List.mem_range.2 (by omega));rw[show rows.length+(i-rows.length)=i by omega] at d;exact xA d h hb (fun G f=>⟨@Eng.cZ (bQ b fQ) _ _ _ (sC f).1,rfl,trivial⟩) (fun G f=>rfl)
theorem e3t (h:(eU b v rows).P w F) (hr:jJ rows) (hb:b≤w.heap.size) (hm:rows.length≤9) {i:Nat} (hi:i < rows.length) :
  Calls Tryz.prog 80 #[v,.int .i64 (i:Int)] w (qL b v rows (.tuple #[.int .i64 ((i+1:Nat):Int),.agg rows[i].toArray,.bool true]) w F) :=
 xA (e0n Eng.f1t hm hi) h hb (fun G a=>⟨@Eng.cZ (bQ b fQ) _ _ _ (sC a).1,rfl,trivial⟩) (fun G a=>by
  show Option.map _ (@Eng.uQ (bQ b fQ) G _)=_;simp only[Eng.uQ,d3m hr hi a];rfl)
theorem b4m (h:(eU b v rows).P w F) {d:List Value} (hd:uN d):(cY b fQ (Eng.rW rows.length) (Eng.kO (rows.length+1)) (.ptr 1 0::(Eng.iL 3 (21*rows.length)++Eng.iL (Eng.kO rows.length) 21)) (v::(rows.flatten++d))).P w F:=by
 have a:=tJ (ds:=d) h hd.2;rw[hd.1] at a;exact a
theorem tK {G:Eng.GM} (hr:jJ rows) {d:List Value} (h:@Eng.dG (bQ b fQ) G (.ptr 1 0::(Eng.iL 3 (21*rows.length)++Eng.iL (Eng.kO rows.length) 21))=some (v::(rows.flatten++d))):@Eng.dn (bQ b fQ) G (.ptr 1 0)=some v∧@Eng.dG (bQ b fQ) G (Eng.iL 3 (21*rows.length))=some rows.flatten∧@Eng.dG (bQ b fQ) G (Eng.iL (Eng.kO rows.length) 21)=some d:=by
 obtain⟨u,r,f,g,e⟩:=(@Eng.bS (bQ b fQ) _ _ _ _).1 h;cases e;obtain⟨x,y,a,i,e⟩:=(@Eng.eL (bQ b fQ) _ _ _ _).1 g;have c:=@Eng.dM (bQ b fQ) _ _ _ a;rw[a3s] at c;obtain⟨rfl,rfl⟩:=List.append_inj e (by rw[yS hr];omega);exact⟨f,a,i⟩
theorem d3o {G:Eng.GM} {l:List Eng.AV} {us:List Value} (h:@Eng.dG (bQ b fQ) G l=some us):@Eng.dv (bQ b fQ) G (.agg l)=some (.agg us.toArray):=by
 show Option.map _ (@Eng.dG (bQ b fQ) G l)=_;rw[h];rfl
theorem d8b (h:(eU b v rows).P w F) (hr:jJ rows) (hb:b≤w.heap.size) (hm:rows.length≤8) {d:List Value} (hd:uN d) :
  Calls Tryz.prog 77 #[v,.int .i64 ((rows.length+1:Nat):Int),.agg d.toArray] w (qL b v (rows++[d]) (.bool true) w F):=by
 have a:=Eng.e2j;rw[bB] at a;have a:=a rows.length (List.mem_range.2 (by omega));refine(Eng.a0v (us:=[v,.int .i64 ((rows.length+1:Nat):Int),.agg d.toArray]) (@Eng.a2a (bQ b fQ) [] (fun i p q=>by cases i<;>cases q)) a (b4m h hd) (b9b _) hb (fun G B=>?_)).mono ?_
 ·obtain⟨g,l,j⟩:=tK hr B;exact⟨@Eng.cZ (bQ b fQ) _ _ _ g,rfl,d3o j,trivial⟩
 ·rintro e C ⟨u,G,G0,rfl,f,r,s,t,x⟩;obtain⟨g,l,j⟩:=tK hr (@Eng.cT (bQ b fQ) _ _ r _ _ s);have m:(rows++[d]).length=rows.length+1:=by simp
  have c:@Eng.dG (bQ b fQ) G (Eng.qE (rows.length+1))=some (v::(rows++[d]).flatten):=by
   have o:Eng.iL 3 (21*(rows.length+1))=Eng.iL 3 (21*rows.length)++Eng.iL (Eng.kO rows.length) 21:=by
    rw[show 21*(rows.length+1)=21*rows.length+21 by omega,wZ];rfl
   refine(@Eng.bS (bQ b fQ) _ _ _ _).2 ⟨v,_,g,?_,rfl⟩;rw[o];exact(@Eng.eL (bQ b fQ) _ _ _ _).2 ⟨_,_,l,j,by simp⟩
  obtain⟨y,z,A⟩:=t _ c;have f:some (Value.bool true)=some u:=f;cases f;refine⟨y,rfl,?_,x,A⟩;unfold eU;rw[m];exact z
theorem d8c {m i:Nat} (hm:m≤8) (hi:i < m):Eng.c4z m i=true:=by
 rcases Nat.lt_or_ge m 6 with q|q
 ·have h:=Eng.e2k;rw[bB] at h;have a:=h m (List.mem_range.2 q);rw[bB] at a;exact a i (List.mem_range.2 hi)
 ·have h:(List.range m).all (Eng.c4z m)=true:=by
   rcases (show m=6∨m=7∨m=8 by omega) with rfl|rfl|rfl
   ·exact Eng.e2l
   ·exact Eng.e2m
   ·exact Eng.e2n
  rw[bB] at h;exact h i (List.mem_range.2 hi)
theorem d8d (h:(eU b v rows).P w F) (hr:jJ rows) (hb:b≤w.heap.size) (hm:rows.length≤8) {i:Nat} (hi:i < rows.length) {d:List Value} (hd:uN d) :
  Calls Tryz.prog 77 #[v,.int .i64 ((i+1:Nat):Int),.agg d.toArray] w (qL b v (rows.set i d) (.bool false) w F):=by
 have o:=d8c hm hi;refine(Eng.a0v (us:=[v,.int .i64 ((i+1:Nat):Int),.agg d.toArray]) (@Eng.a2a (bQ b fQ) [] (fun i p q=>by cases i<;>cases q)) o (b4m h hd) (b9b _) hb (fun G I=>?_)).mono ?_
 ·obtain⟨j,m,l⟩:=tK hr I;exact⟨@Eng.cZ (bQ b fQ) _ _ _ j,rfl,d3o l,trivial⟩
 ·rintro e J ⟨u,G,G0,rfl,a,c,x,y,z⟩;obtain⟨j,m,l⟩:=tK hr (@Eng.cT (bQ b fQ) _ _ c _ _ x);obtain⟨A,K,B⟩:=a3t hr hi m;have r:(rows.set i d).length=rows.length:=by simp
  have f:@Eng.dG (bQ b fQ) G (Eng.e7h rows.length i)=some (v::(rows.set i d).flatten):=by
   refine(@Eng.bS (bQ b fQ) _ _ _ _).2 ⟨v,_,j,?_,rfl⟩;refine(@Eng.eL (bQ b fQ) _ _ _ _).2 ⟨_,_,(@Eng.eL (bQ b fQ) _ _ _ _).2 ⟨_,_,A,l,rfl⟩,B,?_⟩;have g:i < (rows.set i d).length:=by simpa using hi
   have s:(rows.set i d).take i=rows.take i:=List.ext_getElem (by simp) fun k a c=>by
    rw[List.getElem_take,List.getElem_take,List.getElem_set_ne (by rw[aJ] at c;omega)]
   have t:(rows.set i d).drop (i+1)=rows.drop (i+1):=List.ext_getElem (by simp) fun k a c=>by
    rw[List.getElem_drop,List.getElem_drop,List.getElem_set_ne (by omega)]
   rw[a0a g,s,t,List.getElem_set_self,bN]
  obtain⟨C,D,E⟩:=y _ f;have a:some (Value.bool false)=some u:=a;cases a;refine⟨C,rfl,?_,z,E⟩;unfold eU;rw[r];exact D
end
end Go.Proofs.YthgnlfikneipiaaGreat
namespace Go.Proofs.YthgnlfikneipiaaGreat
open Go.RowKit
open Go.Eng (cR cJ)
def FX (b:Nat) (vr vx:Value) (line n:Nat) (w:World) (F:Nat→Prop) (W:World) (k:Nat) (out:Value):Prop :=
 ∃ F' line' n' fs,(b8v b vr vx line' n').P W F'∧(line'+n'=line+n+k∧line≤line'∧Fds line line' fs∧fs.length≤k)∧cJ F w W∧tF F w F'∧(∀ x∈blk out,¬ F' x)∧cF 13 hZ w.heap.size 321 W out fs
theorem c6e {b:Nat} {w:World} {F:Nat→Prop} {vr vx v:Value} {at_:Nat} {l:List UInt8} (h:(fV b vr vx at_).P w F) (hb:b≤w.heap.size) (hv:eQ w v l) (hap:∀ x∈blk v,¬ F x) (hbv:∀ x∈blk v,x < w.heap.size) (hl:at_+l.length≤110) :
  Calls Tryz.prog 112 #[vx,v] w fun e w'=>∃ out F' fs,e = .returned out∧cF 13 hZ w.heap.size 321 w' out fs∧Fds 0 (at_+l.length) fs∧fs.length≤l.length∧(fV b vr vx (at_+l.length)).P w' F'∧cJ F w w'∧tF F w F'∧∀ x∈blk out,¬ F' x:=by
 obtain⟨⟨d,n⟩,E,h⟩:=h;dsimp only at E h;have HI:Hid (FX b vr vx d n w F w 0 (.slice none 0 0)):=⟨F,d,n,[],h,⟨rfl,aF _,Fds.nil _ _,aF _⟩,d7l F w,fun x m => .inl m,fun x m=>by simp[blk] at m,cF.nil _ _ _⟩
 have H:=bG hv;have a0:=bG hap;have a2:=bG hbv;have M:=bG E;have HL:=bG hl;obtain⟨a,a3,rfl,a4,a5,s⟩:=hv;have HC:=bG s;clear h hap s hbv E;go_enter Tryz.func112,Tryz.ntmps112;go_wp2_with fail
 go_loopw [5,10] (fun out i wr=>∃ k:Nat,k≤l.length∧i = .int .i64 k∧Hid (FX b vr vx d n w F wr k out)) (fun _ i _=>l.length-(intOf i).toNat)
 case atStart=>exact⟨0,aS _,rfl,HI⟩
 case round =>
  obtain⟨k,hk,rfl,W⟩:=hrel;by_cases I:k < l.length
  ·obtain⟨g,a6,rfl,R⟩:=HC.out (by intro h;simp[h] at I);obtain⟨F',t,n',fs,C,hs,p,y,z,A⟩:=W.out;obtain⟨L,S,T⟩:=rY p;have c0:=S.cell (R k I) (fun hl=>a0.out g (by simp[blk]) (T g hl));have HB:=bG (c6b C (aL hb p.size) (by have:=HL.out;have:=M.out;have:=hs.1;omega) (bT l k));have HX:=bG (And.intro C (And.intro p (And.intro y (And.intro z A))));have HS:=bG hs;have N:=bG I;clear R C p y z A S T W hs;go_wp2_with fail
   (with_reducible refine HB.out.mono ?_)
   rintro e X ⟨u,J,c,K,o,rfl,k1,s1,s2,k2,s3,s4,Y,k4,k5⟩;obtain⟨C,p,y,z,A⟩:=HX.out;obtain⟨L,S,T⟩:=rY Y;have O:tF F w J:=fun x m=>by
    rcases k4 x m with q|q
    ·exact y x q
    ·exact .inr (aL p.size q)
   have r:∀ x∈blk u5,¬ J x:=fun x m Z=>by
    rcases k4 x Z with q|q
    ·exact z x m q
    ·have:=(A.ge x m).2;omega
   have D:=A.upd S (fun x m hl=>z x m (T x hl));have Q:=aL p.size Y.size;obtain⟨z1,z2,z3,z4⟩:=HS.out;have z5:c+K=d+n+(k+1)∧d≤c∧Fds d c (fs++o)∧(fs++o).length≤k+1:=⟨by omega,by omega,z3.app s3 z2 s2,by rw[aE];omega⟩
   have j:Hid ((b8v b vr vx c K).P X J∧cJ F w X∧tF F w J∧(∀ x∈blk u5,¬ J x)∧cF 13 hZ w.heap.size 321 X u5 fs∧(c+K=d+n+(k+1)∧d≤c∧Fds d c (fs++o)∧(fs++o).length≤k+1)):=⟨k1,a9c p Y y,O,r,D,z5⟩
   have B:=bG (fun ty=>fR (P:=Tryz.prog) (w:=X) (ty:=ty) iQ (by decide) b1o Tryz.underlying254 e3l rfl u5 u fs o D (k2.rd iQ) (by have:=HL.out;have:=N.out;omega) (by have:=HL.out;have:=N.out;unfold maxLen;omega) Q);clear HX C p y z A S T O r D Q k1 k2 Y k4 k5 HB c0 s1 s2 s3 s4 z1 z2 z3 z4 z5 HS;go_wp2_with (at_builtin;go_must (refine cQ rfl _ _ rfl u5 u rfl rfl (B.out _) ?_;rintro v3 w3 ⟨U,G,V⟩;have a1:=bG (show FX b vr vx d n w F w3 (k+1) v3 from⟨J,c,K,fs++o,(b8v b vr vx c K).up j.out.1 (a3m G) (fun x m hl=>j.out.2.2.2.1 x hl m) (fun x m=>aL hb (j.out.2.2.2.2.1.ge x m).1),j.out.2.2.2.2.2,c1z j.out.2.1 G (fun x m => .inr (j.out.2.2.2.2.1.ge x m).1),j.out.2.2.1,(fun x m Z=>(V x m).elim (fun q=>j.out.2.2.2.1 x q Z) (fun q=>by have:=((b8v b vr vx c K).lt j.out.1 x Z).2;omega)),U⟩);clear U G V B;dsimp only))
   go_roundw
   case rel=>exact⟨k+1,by omega,by go_num,a1⟩
   case measure=>simp[intOf];omega
  ·obtain rfl:k=l.length:=by omega
   obtain⟨F',t,n',fs,C,hs,p,y,z,A⟩:=W.out;have HE:Hid (cF 13 hZ w.heap.size 321 wr u5 fs∧Fds 0 (at_+l.length) fs∧fs.length≤l.length∧(fV b vr vx (at_+l.length)).P wr F'∧cJ F w wr∧tF F w F'∧∀ x∈blk u5,¬ F' x):=by
    have:=M.out;refine⟨A,⟨fun f hf=>?_,hs.2.2.1.pw⟩,hs.2.2.2,⟨⟨t,n'⟩,by dsimp only;omega,C⟩,p,y,z⟩;obtain⟨q1,q2,q3⟩:=hs.2.2.1.good f hf;exact⟨q1,by omega,by omega⟩
   clear W C hs p y z A;go_wp2_with fail
   go_ret;exact⟨_,F',fs,rfl,HE.out⟩
end Go.Proofs.YthgnlfikneipiaaGreat
namespace Go.Proofs.YthgnlfikneipiaaGreat
open Go.RowKit
open Go.Eng (cR cJ TS dN cW cY bQ)
theorem yT {b:Nat} {vr:Value} {w:World} {F:Nat→Prop} (h:(cD b vr).P w F):∃ gr g2 c,vr = .pointer (some ⟨gr,0,none⟩)∧F gr∧F g2∧RNm w gr g2 c:=by
 letI:Eng.fP:=Eng.bQ b fQ
 obtain⟨G,i,D,j,E⟩:=h;obtain⟨x,l,m,I,J,o,p⟩:=i.bs 1 _ rfl trivial;obtain⟨y,r,s,K,_,_,t,L,u,v,_⟩:=i.bs 2 _ rfl trivial;obtain⟨z,d,A⟩:=aB.1 (show (G 1).map _=some vr from rL j);rw[l] at d;cases d;obtain⟨u0,M,B,N,rfl⟩:=Eng.bS.1 o;obtain⟨z,d,f⟩:=aB.1 (show (G 2).map _=some u0 from B);rw[r] at d;cases d;obtain⟨u1,O,C,Q,rfl⟩:=Eng.bS.1 u;cases C;have a:y.off=0:=(‹y.sz=2∧y.off=0›).2;refine⟨x.g,y.g,y.cap,A.symm,m,s,⟨?_,?_⟩⟩
 ·rw[cell_of_row w x.g 0 _ _ _ p,← f,a];simp
 ·rw[cell_of_row w y.g 0 _ _ _ v];simp
def vH (b:Nat) (at_ n:Nat) (u:Value):cR b:=exA fun fs:List Fd=>guA (Fds 0 at_ fs∧fs.length≤n) (fdO b u fs)
def lO (w0:World) (vd vl vj:Value) (m N K:Nat):cR w0.heap.size:=exA fun rl:List kC=>guA ((∀ r∈rl,r.key.ino≤m)∧rl.length≤N) (StA w0 vd vl vj rl N K)
def txX (b:Nat) (v:Value):cR b:=Eng.dQ (∃ str:ByteArray,v = .string str∧str.size≤900)
section
variable {w0 w : World} {f F : Nat → Prop} {A : cR w0.heap.size} {vy vd vl vj vr vt vx u : Value}
def Lf (l:List (cR w0.heap.size)) (w:World) (f:Nat→Prop) (w':World):Prop:=∃ f',cW l w' f'∧cJ f w w'∧tF f w f'
theorem xB {l:List (cR w0.heap.size)} (h:cW l w f) {w':World} (hu:bR [] w w'):Lf l w f w':=⟨f,h.up (uL hu) (fun _ _ q=>q) (fun _ q=>q.elim),a9d hu,fun x q => .inl q⟩
theorem a9i {fl:FL} {n0 at_ m:Nat} {ino:Int} (h:cW [kY w0 vy fl n0,A] w f) (hin:cB fA fl ino=true) (hino:1≤ino∧ino≤12) (hn0:n0≤1000) (ha:at_≤100000) (hm:m≤100000) (hb:w0.heap.size≤w.heap.size) :
  Calls Tryz.prog 107 #[vy,.int .i64 ino,.int .i64 (at_:Int),.int .i64 (m:Int)] w fun e w'=>∃ u a c,e = .returned (.tuple #[u,.int .i64 0])∧u = .slice a (((bT fl (below fA fl ino)).2.2.drop at_).take m).length c∧Lf [kY w0 vy fl (n0+1),jC w0.heap.size u (((bT fl (below fA fl ino)).2.2.drop at_).take m)] w f w':=by
 obtain⟨F1,F2,⟨G,hs,l⟩,z,B,o⟩:=iI h;refine(d7k hs hn0 hin hino at_ m ha hm).mono ?_;rintro e w' ⟨u,rfl,d,g,r,s,t,i⟩;obtain⟨v,j,he,-⟩:=d.rd;have b:=d.ge;refine⟨u,v,j,rfl,he,fun x=>x∈g∨x∈blk u,eY (F1:=fun x=>x∈g) (F2:=fun x=>x∈blk u) ⟨g,r,fun _=>Iff.rfl⟩ ⟨d.base_le hb,fun _=>Iff.rfl⟩ (fun x p q=>i x q p) (fun _=>Iff.rfl),jP (a4p s l) (fun x q=>(o x).2 (.inl q)),fun x y=>?_⟩;rcases y with q|q
 ·exact(t x q).imp (fun q=>(o x).2 (.inl ((l x).2 q))) id
 ·exact .inr (b x q).1
theorem e9n {b:Nat} {A:cR b} (h:cW [cD b vr,A] w f) (hb:b≤w.heap.size):Calls Tryz.prog 109 #[vr] w fun e w'=>∃ vx f',e = .returned (.tuple #[vx,.int .i64 0])∧(∃ g,vx = .pointer (some ⟨g,0,none⟩))∧cW [cD b vr,fV b vr vx 0] w' f'∧cJ f w w'∧tF f w f':=by
 obtain⟨s,t,c,u,v,a⟩:=iI h;refine(d3a c hb).mono ?_;rintro e w' ⟨vx,y,z,rfl,d,i,j,l,m,o,p⟩;exact⟨vx,_,rfl,d,eY i j l (fun _=>Iff.rfl),jP m fun x q=>(a x).2 (.inl q),fun x r=>r.elim (fun q=>(o x q).imp (fun q=>(a x).2 (.inl q)) id) fun q=>(p x q).imp (fun q=>(a x).2 (.inl q)) id⟩
theorem qM {b at_:Nat} {lv pv hd ls:Value} (h:(mD b at_ lv pv hd ls).P w f):lv.oneCell'=true∧pv.oneCell'=true∧hd.oneCell'=true∧ls.oneCell'=true:=by
 obtain⟨⟨a,g,i,pl⟩,⟨rfl,rfl,_⟩,h⟩:=h;obtain⟨c,d⟩:=b4f h;exact⟨rfl,rfl,c,d⟩
theorem c2k {b at_:Nat} {A:cR b} (h:cW [fV b vr vx at_,A] w f) (hb:b≤w.heap.size) (hl:at_≤150) :
  Calls Tryz.prog 47 #[vx] w fun e w'=>∃ lv pv hd ls f',e = .returned (.agg (yR at_ lv pv hd ls).toArray)∧(lv.oneCell'=true∧pv.oneCell'=true∧hd.oneCell'=true∧ls.oneCell'=true)∧cW [fV b vr vx at_,mD b at_ lv pv hd ls] w' f'∧cJ f w w'∧tF f w f':=by
 obtain⟨p,r,d,s,t,a⟩:=iI h;refine(vM d hb hl).mono ?_;rintro e w' ⟨lv,pv,hd,ls,u,v,rfl,g,c,i,j,l,m⟩;exact⟨lv,pv,hd,ls,_,rfl,qM c,eY g c i (fun _=>Iff.rfl),jP j fun x q=>(a x).2 (.inl q),fun x o=>o.elim (fun q=>(l x q).imp (fun q=>(a x).2 (.inl q)) id) fun q=>(m x q).imp (fun q=>(a x).2 (.inl q)) id⟩
theorem e9o {b at_:Nat} {A:cR b} {lv pv hd ls:Value} (h:cW [cD b vr,mD b at_ lv pv hd ls,A] w f) (hb:b≤w.heap.size) (hl:at_≤110) :
  Calls Tryz.prog 46 #[vr,.agg (yR at_ lv pv hd ls).toArray] w fun e w'=>∃ vx f',e = .returned (.tuple #[vx,.int .i64 0])∧(∃ g,vx = .pointer (some ⟨g,0,none⟩))∧cW [cD b vr,mD b at_ lv pv hd ls,fV b vr vx at_] w' f'∧cJ f w w'∧tF f w f':=by
 obtain⟨d,F2,M,o,r,N,c,s,t,u⟩:=iJ h;refine(c2h (F:=fun x=>d x∨F2 x) o r c (fun _=>Iff.rfl) hb hl).mono ?_;rintro e w' ⟨vx,v,i,j,rfl,y,z,B,C,D,d2,E,G,I,J,K⟩;have a:∀ x,d x∨F2 x→f x:=fun x q=>(u x).2 (q.imp id .inl)
 refine⟨vx,fun x=>v x∨i x∨j x,rfl,y,Eng.cW.join (l:=[_]) (m:=[_,_]) (F2:=fun x=>i x∨j x) (cC.2 z) (eY B C E (fun _=>Iff.rfl)) (fun x p q=>q.elim (D x p) (d2 x p)) (fun _=>Iff.rfl),jP G a,fun x L=>?_⟩;rcases L with q|q|q
 ·exact(I x q).imp (a x) id
 ·exact(J x q).imp (a x) id
 ·exact(K x q).imp (a x) id
theorem d8e {b:Nat} {u:Value} {fs:List Fd} (h:(fdO b u fs).P w f):u.oneCell'=true:=by
 rcases h.1.2 with⟨rfl,_⟩|⟨g,a,c,rfl,_⟩<;>rfl
theorem d3p {b at_:Nat} {A:cR b} {v:Value} {l:List UInt8} (h:cW [fV b vr vx at_,jC b v l,A] w f) (hb:b≤w.heap.size) (hl:at_+l.length≤110) :
  Calls Tryz.prog 112 #[vx,v] w fun e w'=>∃ out f',e = .returned out∧out.oneCell'=true∧cW [fV b vr vx (at_+l.length),jC b v l,vH b (at_+l.length) l.length out] w' f'∧cJ f w w'∧tF f w f':=by
 obtain⟨J,F2,K,u,⟨d,i⟩,M,c,B,C,o⟩:=iJ h;refine(c6e u hb d.rd (fun x g q=>c x q ((i x).2 g)) (fun x g=>(d.ge x g).2) hl).mono ?_;rintro e w' ⟨out,D,y,rfl,s,E,F,G,t,z,I⟩;obtain⟨L,N,O⟩:=rY t;have j:(jC b v l).P w' F2:=(jC b v l).up ⟨d,i⟩ t (fun x p q=>c x q p) (fun x q=>((fV b vr vx at_).lt u x q).1);have a:(fdO b out y).P w' (fun x=>x∈blk out):=⟨c2a s hb,fun _=>Iff.rfl⟩
 refine⟨out,fun x=>D x∨F2 x∨x∈blk out,rfl,d8e a,Eng.cW.join (l:=[_]) (m:=[_,_]) (F2:=fun x=>F2 x∨x∈blk out) (cC.2 G) (eY j (show (vH b (at_+l.length) l.length out).P w' (fun x=>x∈blk out) from⟨y,⟨E,F⟩,a⟩) (fun x p q=>?_) (fun _=>Iff.rfl)) (fun x p q=>?_) (fun _=>Iff.rfl),jP t fun x q=>(o x).2 (.inl q),fun x g=>?_⟩
 ·have:=(s.ge x q).1;have:=(d.ge x ((i x).1 p)).2;omega
 ·rcases q with q|q
  ·rcases z x p with r|r
   ·exact c x r q
   ·have:=(d.ge x ((i x).1 q)).2;omega
  ·exact I x q p
 ·rcases g with q|q|q
  ·exact(z x q).imp (fun q=>(o x).2 (.inl q)) id
  ·exact .inl ((o x).2 (.inr (.inl q)))
  ·exact .inr (s.ge x q).1
theorem d8f {m at_:Nat} {rl:List kC} {fs:List Fd} (h:Fds 0 at_ fs) (ha:at_≤1000) (hm:m < 12) (hr:∀ r∈rl,r.key.ino≤m):e0f ((m+1:Nat):Int) 1 rl fs:=by
 intro k f;have j:bT fs k=fs[k]:=by simp[bT,f]
 have c:bT fs k∈fs:=by rw[j];exact bP f
 obtain⟨⟨t,l,q,e,u,v,w⟩,x,y⟩:=h.good _ c;refine⟨t,.inl l,?_,?_⟩
 ·have p:(b4c q e).1.all uG=true:=by
   simp only[b4c,List.all_cons,List.all_nil,uG,aD,decide_eq_true_eq];refine⟨by omega,⟨by omega,by omega⟩,?_⟩;simp
  have hr:lF nmA=true:=by decide
  unfold gT qI;simp only[aD,decide_eq_true_eq,l,u];refine⟨by omega,?_⟩;rw[if_neg (by decide)];simp[p,hr]
 ·cases o:vF (rl++(fs.take k).map (qI ((m+1:Nat):Int) 1)) (qI ((m+1:Nat):Int) 1 (bT fs k)).key with
  | false=>rfl
  | true =>
   exfalso;unfold vF at o;obtain⟨r,g,he⟩:=List.any_eq_true.1 o;have he:r.key=(qI ((m+1:Nat):Int) 1 (bT fs k)).key:=bI he;rcases aI.1 g with q|q
   ·have d:=hr r q;rw[he] at d;have d:((m+1:Nat):Int)≤m:=d;omega
   ·obtain⟨a,i,rfl⟩:=List.mem_map.1 q;have he:a.at_=(bT fs k).at_:=congrArg Key.at_ he;have s:(fs.take k++(bT fs k::fs.drop (k+1))).Pairwise fun a b=>a.at_ < b.at_:=by
     have:fs.take k++(bT fs k::fs.drop (k+1))=fs:=by
      rw[j,← List.drop_eq_getElem_cons f,List.take_append_drop]
     rw[this];exact h.pw
    have:=(List.pairwise_append.1 s).2.2 a i (bT fs k) (aR ..);omega
theorem e9p {m N K at_ n gf:Nat} {live:Value} {ps:List Value} {v vp va:Value} (h:cW [lO w0 vd vl vj m N K,cD w0.heap.size vr,vH w0.heap.size at_ n v] w f) (hf:w.heap[gf]?=some (.cells #[vy,vr,vl,vj,vp,va] 98 (0,0))) (hgf:¬ f gf) (hb:w0.heap.size≤w.heap.size)
  (ha:at_≤110) (hn':n≤110) (hm:m < 12) (hK:K+110≤4000) (hN:N+23000≤262000) :
  Calls Tryz.prog 111 #[.pointer (some ⟨gf,0,none⟩),.agg (live :: .int .i64 ((m+1:Nat):Int) :: .int .i64 1::ps).toArray,v] w fun e w'=>e = .returned (.int .i64 0)∧Lf [lO w0 vd vl vj (m+1) (N+23000) (K+110),cD w0.heap.size vr,vH w0.heap.size at_ n v] w f w':=by
 obtain⟨T,F2,t,⟨U,⟨V,r2⟩,G,c,d⟩,L,⟨u,⟨W,q2⟩,M,O⟩,b,i,Q,y⟩:=iJ h;obtain⟨gr,g2,cr,rfl,f1,f2,R⟩:=yT L;have A:∃ g,vl = .pointer (some ⟨g,0,none⟩):=by
  obtain⟨gd,gl,gj,F,D,K,s,js,e1,e2,e3,_⟩:=c;exact⟨gl,e2⟩
 have B:=d8f W (by omega) hm V;refine(b3u c hf R (M.rd iQ) (fun q=>hgf ((y gf).2 (.inl ((d gf).2 q)))) (fun q=>b _ ((d _).2 q) f1) (fun q=>b _ ((d _).2 q) f2) (fun x o q=>i x ((d x).2 q) ((O x).2 o)) A hb B (by omega) (by omega) (by omega)).mono ?_;rintro e w' ⟨rfl,z,C,u',n'⟩;have C:=a9f C (show N+208*u.length≤N+23000 by omega) (show K+u.length≤K+110 by omega);have E:=a4p u' d;have j:∀ x,T x→w0.heap.size≤x:=fun x q=>((StA w0 vd vl vj U N K).lt ⟨G,c,d⟩ x q).1
 have X:(cD w0.heap.size (.pointer (some ⟨gr,0,none⟩))).P w' F2:=(cD w0.heap.size _).up L E (fun x p q=>b x q p) j;have Y:(vH w0.heap.size at_ n v).P w' t:=(vH w0.heap.size at_ n v).up ⟨u,⟨W,q2⟩,M,O⟩ E (fun x p q=>i x q p) j;have Z:(lO w0 vd vl vj (m+1) (N+23000) (K+110)).P w' (fun x=>x∈z):=⟨U++u.map (qI ((m+1:Nat):Int) 1),⟨fun r hr=>?_,by rw[aE,aP];omega⟩,z,C,fun _=>Iff.rfl⟩
 ·have S:∀ x,x∈z→T x∨w.heap.size≤x:=fun x o=>(n' x o).imp (d x).2 id
  have I:∀ x,F2 x→x < w.heap.size:=fun x q=>((cD w0.heap.size _).lt L x q).2
  have J:∀ x,t x→x < w.heap.size:=fun x q=>(M.ge x ((O x).1 q)).2
  refine⟨rfl,fun x=>x∈z∨F2 x∨t x,Eng.cW.join (l:=[_]) (m:=[_,_]) (F2:=fun x=>F2 x∨t x) (cC.2 Z) (eY X Y Q (fun _=>Iff.rfl)) (fun x p q=>?_) (fun _=>Iff.rfl),jP E fun x q=>(y x).2 (.inl q),fun x o=>?_⟩
  ·rcases S x p with r|r
   ·rcases q with q|q
    ·exact b x r q
    ·exact i x r q
   ·rcases q with q|q
    ·have:=I x q;omega
    ·have:=J x q;omega
  ·rcases o with q|q
   ·exact(S x q).imp (fun q=>(y x).2 (.inl q)) id
   ·exact .inl ((y x).2 (.inr q))
 ·rcases aI.1 hr with q|q
  ·have:=V r q;omega
  ·obtain⟨a,_,rfl⟩:=List.mem_map.1 q;show ((m+1:Nat):Int)≤((m+1:Nat):Int);omega
theorem e3u {m N K at_ gf:Nat} {ino:Int} {live:Value} {ps:List Value} {v vp va:Value} (h:cW [lO w0 vd vl vj m N K,cD w0.heap.size vr,vH w0.heap.size at_ 0 v] w f) (hf:w.heap[gf]?=some (.cells #[vy,vr,vl,vj,vp,va] 98 (0,0))) (hgf:¬ f gf) (hb:w0.heap.size≤w.heap.size) (hK:K≤4000) (hN:N≤262000) :
  Calls Tryz.prog 111 #[.pointer (some ⟨gf,0,none⟩),.agg (live :: .int .i64 ino :: .int .i64 1::ps).toArray,v] w fun e w'=>e = .returned (.int .i64 0)∧Lf [lO w0 vd vl vj m N K,cD w0.heap.size vr,vH w0.heap.size at_ 0 v] w f w':=by
 obtain⟨R,F2,t,⟨E,⟨V,W⟩,G,b,c⟩,I,⟨fs,⟨X,Y⟩,J,L⟩,a,d,M,u⟩:=iJ h;obtain rfl:fs=[]:=List.length_eq_zero_iff.1 (by omega);obtain⟨Z,g2,cr,rfl,f1,f2,O⟩:=yT I;have y:∃ g,vl = .pointer (some ⟨g,0,none⟩):=by
  obtain⟨gd,gl,gj,F,D,K,s,js,e1,e2,e3,_⟩:=b;exact⟨gl,e2⟩
 refine(b3u (fs:=[]) b hf O (J.rd iQ) (fun q=>hgf ((u gf).2 (.inl ((c gf).2 q)))) (fun q=>a _ ((c _).2 q) f1) (fun q=>a _ ((c _).2 q) f2) (fun x o q=>d x ((c x).2 q) ((L x).2 o)) y hb (fun k hk=>by simp at hk) (by simpa using hK) (by simpa using hN) (by simp;omega)).mono ?_;rintro e w' ⟨rfl,j,z,u',n'⟩;have z:StQ w0 vd vl vj E N K w' j:=by simpa using z
 have A:=a4p u' c;have i:∀ x,R x→w0.heap.size≤x:=fun x q=>((StA w0 vd vl vj E N K).lt ⟨G,b,c⟩ x q).1
 have S:(cD w0.heap.size (.pointer (some ⟨Z,0,none⟩))).P w' F2:=(cD w0.heap.size _).up I A (fun x p q=>a x q p) i;have T:(vH w0.heap.size at_ 0 v).P w' t:=(vH w0.heap.size at_ 0 v).up ⟨[],⟨X,Y⟩,J,L⟩ A (fun x p q=>d x q p) i;have U:(lO w0 vd vl vj m N K).P w' (fun x=>x∈j):=⟨E,⟨V,W⟩,j,z,fun _=>Iff.rfl⟩
 have Q:∀ x,x∈j→R x∨w.heap.size≤x:=fun x o=>(n' x o).imp (c x).2 id
 have B:∀ x,F2 x→x < w.heap.size:=fun x q=>((cD w0.heap.size _).lt I x q).2
 have C:∀ x,t x→x < w.heap.size:=fun x q=>(J.ge x ((L x).1 q)).2
 refine⟨rfl,fun x=>x∈j∨F2 x∨t x,Eng.cW.join (l:=[_]) (m:=[_,_]) (F2:=fun x=>F2 x∨t x) (cC.2 U) (eY S T M (fun _=>Iff.rfl)) (fun x p q=>?_) (fun _=>Iff.rfl),jP A fun x q=>(u x).2 (.inl q),fun x o=>?_⟩
 ·rcases Q x p with r|r
  ·rcases q with q|q
   ·exact a x r q
   ·exact d x r q
  ·rcases q with q|q
   ·have:=B x q;omega
   ·have:=C x q;omega
 ·rcases o with q|q
  ·exact(Q x q).imp (fun q=>(u x).2 (.inl q)) id
  ·exact .inl ((u x).2 (.inr q))
theorem sD {b:Nat} {l:List (cR b)} {p:Prop} (h:cW l w f) (hp:p):cW (l++[Eng.dQ p]) w f:=Eng.cW.join (F1:=f) (F2:=fun _=>False) h (Eng.cW.one.2 ⟨hp,fun _ q=>q⟩) (fun _ _ q=>q) (fun x=>⟨.inl,fun q=>q.elim id False.elim⟩)
theorem e9q {b at_:Nat} {A:cR b} {lv pv hd ls:Value} {h2 h3 ino:Int} (h:cW [cD b vr,mD b at_ lv pv hd ls,A] w f) (hb:b≤w.heap.size) (hl:at_≤110) (h4:0≤h2∧h2≤16) (h5:0≤h3∧h3≤4294967295) (h6:1≤ino∧ino≤12) :
  Calls Tryz.prog 75 #[vr,.agg (zY ino 1 h2 h3 (yR at_ lv pv hd ls)).toArray] w fun e w'=>∃ u f',e = .returned u∧u.oneCell'=true∧cW [cD b vr,mD b at_ lv pv hd ls,txX b u] w' f'∧cJ f w w'∧tF f w f':=by
 obtain⟨i,j,E,l,m,G,g,o,p,r⟩:=iJ h;refine(d3i (F:=fun x=>i x∨j x) l m g (fun _=>Iff.rfl) hb hl h4 h5 h6).mono ?_;rintro e w' ⟨c,s,t,rfl,I,v,y,z,d,B,C,D⟩;have a:∀ x,i x∨j x→f x:=fun x q=>(r x).2 (q.imp id .inl)
 exact⟨.string c,fun x=>s x∨t x,rfl,rfl,sD (eY y z d (fun _=>Iff.rfl)) ⟨c,rfl,v⟩,jP B a,fun x q=>q.elim (fun q=>(C x q).imp (a x) id) fun q=>(D x q).imp (a x) id⟩
theorem e3v {b:Nat} {A:cR b} {ino:Int} (h:cW [cD b vr,A] w f) (hb:b≤w.heap.size) (h6:1≤ino∧ino≤12) :
  Calls Tryz.prog 75 #[vr,.agg (iN ino).toArray] w fun e w'=>∃ u f',e = .returned u∧u.oneCell'=true∧cW [cD b vr,txX b u] w' f'∧cJ f w w'∧tF f w f':=by
 obtain⟨p,r,d,s,t,c⟩:=iI h;refine(c6d d hb h6).mono ?_;rintro e w' ⟨a,g,rfl,v,i,j,m,o⟩;exact⟨.string a,g,rfl,rfl,sD (l:=[_]) (cC.2 j) ⟨a,rfl,i⟩,jP m fun x q=>(c x).2 (.inl q),fun x q=>(o x q).imp (fun q=>(c x).2 (.inl q)) id⟩
theorem d3q {m N K g:Nat} {v:Value} {ino:Int} (h:cW [lO w0 vd vl vj m N K,txX w0.heap.size v] w f) (hkn:w.heap[g]?=some (.cells #[.int .i64 ino,v] 190 (0,0))) (hg:¬ f g) (hi:0≤ino∧ino≤40) (hK:K≤4000) (hN:N+938≤262144) :
  Calls Tryz.prog 76 #[vj,.slice (some ⟨g,0,none⟩) 1 1] w fun e w'=>e = .returned (.int .i64 0)∧Lf [lO w0 vd vl vj m (N+938) (K+1),txX w0.heap.size v] w f w':=by
 obtain⟨J,L,⟨z,⟨A,M⟩,G,p,r⟩,⟨⟨a,rfl,s⟩,B⟩,C,t⟩:=iI h;have c:qW 2 jB w (.slice (some ⟨g,0,none⟩) 1 1) [(ino,a)]:=by
  refine⟨_,1,rfl,by simp,by simp[maxLen],fun _=>⟨g,0,rfl,fun j F i hi=>?_⟩⟩;have d:j=0:=by simpa using F
  subst d;rw[Nat.zero_mul,aM,aM,cell_of_row w g i _ _ (0,0) hkn]
  match i,hi with
  | 0,_=>rfl
  | 1,_=>rfl
 refine(d2o p (ino,a) c (fun x b I=>?_) hi (by dsimp only;omega) hK (by dsimp only;omega)).mono ?_
 ·simp[blk] at b;subst b;exact hg ((t x).2 (.inl ((r x).2 I)))
 ·rintro e w' ⟨rfl,u,o,D,E⟩;have o:=a9f o (show N+a.size+38≤N+938 by omega) (aF _);have y:(lO w0 vd vl vj m (N+938) (K+1)).P w' (fun x=>x∈u):=⟨z,⟨A,by omega⟩,u,o,fun _=>Iff.rfl⟩
  refine⟨rfl,fun x=>x∈u,sD (l:=[_]) (cC.2 y) ⟨a,rfl,s⟩,jP (a4p D r) fun x q=>(t x).2 (.inl q),fun x q=>(E x q).imp (fun q=>(t x).2 (.inl ((r x).2 q))) id⟩
theorem e9r {b:Nat} {rows rows':List (List Value)} {fn:FuncId} {us:Array Value} {r:Value} (h:cW [eU b vt rows] w f) (hc:∀ F,(eU b vt rows).P w F→Calls Tryz.prog fn us w (qL b vt rows' r w F)) :
  Calls Tryz.prog fn us w fun e w'=>∃ f',e = .returned r∧cW [eU b vt rows'] w' f'∧cJ f w w'∧tF f w f':=by
 refine(hc f (cC.1 h)).mono ?_;rintro e w' ⟨a,rfl,c,d,g⟩;exact⟨a,rfl,cC.2 c,d,g⟩
end
theorem len0 {vs:List Value} (h:vs.length=0):vs=[]:=List.length_eq_zero_iff.1 h
theorem a3u {vs:List Value} (h:vs.length=1):∃ u,vs=[u]:=List.length_eq_one_iff.1 h
theorem e3w {vs:List Value} (h:vs.length=4):∃ a b c d,vs=[a,b,c,d]:=by
 match vs,h with
 | [a,b,c,d],_=>exact⟨a,b,c,d,rfl⟩
theorem eE {gs vs:List Value} {i:Nat} (h:i < gs.length):Eng.bT (gs++vs) i=some (gv gs i):=by
 rw[gW,bE h,← gW];exact a3q h
section
variable {V : Eng.fP} {gs us vs : List Value} {w : World} {F : Nat → Prop} {x y z t : Eng.Arg}
theorem va1 (h:Eng.zP gs w F [x] us):∃ u,us=[u]∧Eng.a0f gs w F x u:=by
 match us,h with
 | [u],⟨a,_⟩=>exact⟨u,rfl,a⟩
 | [],h=>exact h.elim
 | _::_::_,h=>exact h.2.elim
theorem va2 (h:Eng.zP gs w F [x,y] us):∃ u v,us=[u,v]∧Eng.a0f gs w F x u∧Eng.a0f gs w F y v:=by
 match us,h with
 | u::us,⟨a,h⟩=>obtain⟨v,rfl,b⟩:=va1 h;exact⟨u,v,rfl,a,b⟩
 | [],h=>exact h.elim
theorem va3 (h:Eng.zP gs w F [x,y,z] us):∃ u v c,us=[u,v,c]∧Eng.a0f gs w F x u∧Eng.a0f gs w F y v∧Eng.a0f gs w F z c:=by
 match us,h with
 | u::us,⟨a,h⟩=>obtain⟨v,c,rfl,b⟩:=va2 h;exact⟨u,v,c,rfl,a,b⟩
 | [],h=>exact h.elim
theorem va4 (h:Eng.zP gs w F [x,y,z,t] us):∃ u v c d,us=[u,v,c,d]∧Eng.a0f gs w F x u∧Eng.a0f gs w F y v∧Eng.a0f gs w F z c∧Eng.a0f gs w F t d:=by
 match us,h with
 | u::us,⟨a,h⟩=>obtain⟨v,c,d,rfl,b⟩:=va3 h;exact⟨u,v,c,d,rfl,a,b⟩
 | [],h=>exact h.elim
theorem mv2 {a b:Eng.oW} (h:Eng.mvs gs [a,b] vs):∃ u v,vs=[u,v]∧Eng.mv gs a u∧Eng.mv gs b v:=by
 match vs,h with
 | [u,v],⟨a,b,_⟩=>exact⟨u,v,rfl,a,b⟩
 | [],h=>exact h.elim
 | [_],h=>exact h.2.elim
 | _::_::_::_,h=>exact h.2.2.elim
theorem xC {n:Int} {v:Value} (h:Eng.mv gs (Eng.cI n) v):v = .int .i64 n:=(aK (show some (Value.int .i64 n)=some v from h)).symm
theorem pt6 {a b c d:Nat} (h:Eng.mvs gs [.at a,.at b,.at c,.at d,.any,.any] vs):∃ x y,vs=[gv gs a,gv gs b,gv gs c,gv gs d,x,y]:=by
 match vs,h with
 | [u0,u1,u2,u3,u4,u5],⟨h0,h1,h2,h3,_,_,_⟩ =>
  rw[← eD (show Eng.bT gs a=some u0 from h0),← eD (show Eng.bT gs b=some u1 from h1),← eD (show Eng.bT gs c=some u2 from h2),← eD (show Eng.bT gs d=some u3 from h3)];exact⟨u4,u5,rfl⟩
 | [],h=>exact h.elim
 | [_],h=>exact h.2.elim
 | [_,_],h=>exact h.2.2.elim
 | [_,_,_],h=>exact h.2.2.2.elim
 | [_,_,_,_],h=>exact h.2.2.2.2.elim
 | [_,_,_,_,_],h=>exact h.2.2.2.2.2.elim
 | _::_::_::_::_::_::_::_,h=>exact h.2.2.2.2.2.2.elim
theorem b9c {a:Eng.oW} {i1 i2 i3 i4 n:Nat} (h:Eng.mvs gs [a,.at i1,.c (.bool false),.c (.bool false),Eng.cI 0,Eng.cI 0,.c .nils,.c .nils,Eng.cI 0,.c .nils,.at i3,.at i2,.at i4,.c .nils,Eng.cI 0,.c .nils] vs) (ha:∀ v,Eng.mv gs a v→v = .int .i64 (n:Int)):vs=yR n (gv gs i1) (gv gs i2) (gv gs i3) (gv gs i4):=by
 match vs,h with
 | [x5,x6,x7,x8,x9,x10,x11,x12,x13,x14,x15,x16,x17,x18,x19,x20],⟨g,i,c7,c8,c9,c10,c11,c12,c13,c14,b,d,f,c18,c19,c20,_⟩ =>
  have g:=ha _ g;have i:=eD (show Eng.bT gs i1=some x6 from i);have b:=eD (show Eng.bT gs i3=some x15 from b);have d:=eD (show Eng.bT gs i2=some x16 from d);have f:=eD (show Eng.bT gs i4=some x17 from f);cases c7;cases c8;cases c9;cases c10;cases c11;cases c12;cases c13;cases c14;cases c18;cases c19;cases c20;rw[g,i,b,d,f];rfl
theorem a9j {a:Eng.oW} {i1 i2 i3 i4 n:Nat} {x1 x2 x3 x4:Value} (ha:Eng.mo gs a (.int .i64 (n:Int))) (h1:Eng.bT gs i1=some x1) (h2:Eng.bT gs i2=some x2) (h3:Eng.bT gs i3=some x3) (h4:Eng.bT gs i4=some x4):Eng.mos gs [a,.at i1,.c (.bool false),.c (.bool false),Eng.cI 0,Eng.cI 0,.c .nils,.c .nils,Eng.cI 0,.c .nils,.at i3,.at i2,.at i4,.c .nils,Eng.cI 0,.c .nils] (yR n x1 x2 x3 x4) :=
 ⟨ha,h1,rfl,rfl,rfl,rfl,rfl,rfl,rfl,rfl,h3,h2,h4,rfl,rfl,rfl,trivial⟩
theorem d8g:Eng.mos gs [.c (.bool false),Eng.cI 0,Eng.cI 0,Eng.cI 0,.c (.int .u32 0),Eng.cI 0,Eng.cI 0,.c (.bool false),.c (.bool false),Eng.cI 0,Eng.cI 0,.c .nils,.c .nils,Eng.cI 0,.c .nils,.c .nils,Eng.cI 0,.c .nils,.c .nils,Eng.cI 0,.c .nils] ptZ :=
 ⟨rfl,rfl,rfl,rfl,rfl,rfl,rfl,rfl,rfl,rfl,rfl,rfl,rfl,rfl,rfl,rfl,rfl,rfl,rfl,rfl,rfl,trivial⟩
end
def jQ (B:List UInt8) (ino:Nat):Nat→Int
 | 0=>((ino:Nat):Int)
 | 2=>((min (B.take 16).length 16:Nat):Int)
 | 3=>((kM (B.take 16)).toNat:Int)
 | 6=>(B.length:Int)
 | _=>0
def ptX (B:List UInt8) (ino:Nat) (lv pv hd ls:Value):List Value:=zY ((ino:Nat):Int) 1 ((min (B.take 16).length 16:Nat):Int) ((kM (B.take 16)).toNat:Int) (yR B.length lv pv hd ls)
theorem b4n {ino h2 h3:Int} {n:Nat} {lv pv hd ls:Value} (h:lv.oneCell'=true∧pv.oneCell'=true∧hd.oneCell'=true∧ls.oneCell'=true):uN (zY ino 1 h2 h3 (yR n lv pv hd ls)):=by
 refine⟨rfl,fun u a=>?_⟩;simp only[zY,yR,aG,bF,or_false] at a;obtain⟨b,c,d,f⟩:=h
 rcases a with rfl|rfl|rfl|rfl|rfl|rfl|rfl|rfl|rfl|rfl|rfl|rfl|rfl|rfl|rfl|rfl|rfl|rfl|rfl|rfl|rfl<;>first
  | rfl
  | exact b
  | exact c
  | exact d
  | exact f
theorem a3v {ino:Int}:uN (iN ino):=by
 refine⟨rfl,fun u a=>?_⟩;simp only[iN,aG,bF,or_false] at a;rcases a with rfl|rfl|rfl|rfl|rfl|rfl|rfl|rfl|rfl|rfl|rfl|rfl|rfl|rfl|rfl|rfl|rfl|rfl|rfl|rfl|rfl<;>rfl
theorem jY {b:Nat} {w:World} {f:Nat→Prop}:∀ (n:Nat) {l:List (cR b)},cW l w f→cW (l++List.replicate n Eng.dZ) w f
 | 0,l,h=>by simpa using h
 | n+1,l,h=>by
  have h1:=jY n (l:=l++[Eng.dZ]) (Eng.cW.join (F1:=f) (F2:=fun _=>False) h (Eng.cW.one.2 fun _ q=>q) (fun _ _ q=>q) (fun x=>⟨.inl,fun q=>q.elim id False.elim⟩));rw[bN] at h1;exact h1
theorem b4o {b:Nat} {w:World} {f:Nat→Prop} {l:List (cR b)} (h:cW l w f):cW (Eng.dZ::l) w f:=Eng.cW.join (l:=[Eng.dZ]) (F1:=fun _=>False) (F2:=f) (Eng.cW.one.2 fun _ q=>q) h (fun _ q=>q.elim) (fun x=>⟨.inr,fun q=>q.elim False.elim id⟩)
section
variable {b : Nat} {ν : Nat → Int} {st : Nat → List Value → List (cR b)} {gs vs : List Value}
theorem jF {i:Nat} {v:Value} (h:@Eng.mv (Eng.cA b ν st) gs (.c (Eng.lw i)) v):v = .int .i64 (ν i):=by
 have h:some (Value.int .i64 (0+(1*ν i+0)))=some v:=h;rw[show (0+(1*ν i+0):Int)=ν i by omega] at h;exact(aK h).symm
theorem a3w {i:Nat}:@Eng.mo (Eng.cA b ν st) gs (.c (Eng.lw i)) (.int .i64 (ν i)):=by
 show some (Value.int .i64 (0+(1*ν i+0)))=some _;rw[show (0+(1*ν i+0):Int)=ν i by omega]
theorem c2l {i:Nat} {v:Value} (h:@Eng.mv (Eng.cA b ν st) gs (.c (.sym .u32 ⟨0,[(i,1)]⟩)) v):v = .int .u32 (ν i):=by
 have h:some (Value.int .u32 (0+(1*ν i+0)))=some v:=h;rw[show (0+(1*ν i+0):Int)=ν i by omega] at h;exact(aK h).symm
theorem a9k {i:Nat}:@Eng.mo (Eng.cA b ν st) gs (.c (.sym .u32 ⟨0,[(i,1)]⟩)) (.int .u32 (ν i)):=by
 show some (Value.int .u32 (0+(1*ν i+0)))=some _;rw[show (0+(1*ν i+0):Int)=ν i by omega]
theorem pt3 {x:Eng.oW} {L:List Eng.oW} (h:@Eng.mvs (Eng.cA b ν st) gs (x :: .c (Eng.lw 0)::Eng.cI 1::L) vs):∃ x0 ps,vs=x0 :: .int .i64 (ν 0) :: .int .i64 1::ps:=by
 match vs,h with
 | x0::x1::x2::ps,⟨_,a,d,_⟩ =>
  have a:=jF a;have d:=xC d;subst a;subst d;exact⟨x0,ps,rfl⟩
 | [],h=>exact h.elim
 | [_],h=>exact h.2.elim
 | [_,_],h=>exact h.2.2.elim
theorem d3r {a:Eng.oW} {i1 i2 i3 i4 n:Nat} (h:@Eng.mvs (Eng.cA b ν st) gs (.c (.bool true) :: .c (Eng.lw 0)::Eng.cI 1 :: .c (Eng.lw 2) :: .c (.sym .u32 ⟨0,[(3,1)]⟩)::[a,.at i1,.c (.bool false),.c (.bool false),Eng.cI 0,Eng.cI 0,.c .nils,.c .nils,Eng.cI 0,.c .nils,.at i3,.at i2,.at i4,.c .nils,Eng.cI 0,.c .nils]) vs) (ha:∀ v,@Eng.mv (Eng.cA b ν st) gs a v→v = .int .i64 (n:Int)):vs=zY (ν 0) 1 (ν 2) (ν 3) (yR n (gv gs i1) (gv gs i2) (gv gs i3) (gv gs i4)):=by
 match vs,h with
 | x0::x1::x2::x3::x4::ps,⟨d,f,g,i,j,l⟩ =>
  have d:some (Value.bool true)=some x0:=d;cases d;have f:=jF f;have g:=xC g;have i:=jF i;have j:=c2l j;have l:=b9c l ha;subst f;subst g;subst i;subst j;subst l;rfl
 | [],h=>exact h.elim
 | [_],h=>exact h.2.elim
 | [_,_],h=>exact h.2.2.elim
 | [_,_,_],h=>exact h.2.2.2.elim
 | [_,_,_,_],h=>exact h.2.2.2.2.elim
theorem b4p (h:@Eng.mvs (Eng.cA b ν st) gs (.c (.bool false) :: .c (Eng.lw 0)::[Eng.cI 1,Eng.cI 0,.c (.int .u32 0),Eng.cI 0,Eng.cI 0,.c (.bool false),.c (.bool false),Eng.cI 0,Eng.cI 0,.c .nils,.c .nils,Eng.cI 0,.c .nils,.c .nils,Eng.cI 0,.c .nils,.c .nils,Eng.cI 0,.c .nils]) vs):vs=iN (ν 0):=by
 match vs,h with
 | x0::x1::ps,⟨a,d,h2⟩ =>
  have a:some (Value.bool false)=some x0:=a;cases a;have d:=jF d;subst d
  match ps,h2 with
  | [y0,y1,y2,y3,y4,y5,y6,y7,y8,y9,y10,y11,y12,y13,y14,y15,y16,y17,y18],⟨c0,c1,c2,c3,c4,c5,c6,c7,c8,c9,c10,c11,c12,c13,c14,c15,c16,c17,c18,_⟩ =>
   cases c0;cases c1;cases c2;cases c3;cases c4;cases c5;cases c6;cases c7;cases c8;cases c9;cases c10;cases c11;cases c12;cases c13;cases c14;cases c15;cases c16;cases c17;cases c18;rfl
 | [],h=>exact h.elim
 | [_],h=>exact h.2.elim
end
def sE {w0:World} (n0 N K:Nat) (rows:List (List Value)) (fl:FL) (B:List UInt8):Nat→List Value→List (cR w0.heap.size)
 | 0,gs=>Eng.dQ (gs.length=6)::[kY w0 (gv gs 0) fl n0,lO w0 (gv gs 1) (gv gs 2) (gv gs 3) rows.length N K,cD _ (gv gs 4),eU _ (gv gs 5) rows,Eng.dZ,Eng.dZ,Eng.dZ,Eng.dZ,Eng.dZ]
 | 1,gs=>Eng.dQ (gs.length=6)::[kY w0 (gv gs 0) fl n0,lO w0 (gv gs 1) (gv gs 2) (gv gs 3) rows.length N K,cD _ (gv gs 4),eU _ (gv gs 5) rows,Eng.dZ,Eng.dZ,Eng.dZ,Eng.dZ,Eng.dZ]
 | 2,gs=>Eng.dQ (gs.length=7)::[kY w0 (gv gs 1) fl (n0+1),lO w0 (gv gs 2) (gv gs 3) (gv gs 4) rows.length N K,cD _ (gv gs 5),eU _ (gv gs 6) rows,jC _ (gv gs 0) (B.take 16),Eng.dZ,Eng.dZ,Eng.dZ,Eng.dZ]
 | 3,gs=>Eng.dQ (gs.length=8)::[kY w0 (gv gs 2) fl (n0+1),lO w0 (gv gs 3) (gv gs 4) (gv gs 5) rows.length N K,cD _ (gv gs 6),eU _ (gv gs 7) rows,jC _ (gv gs 1) (B.take 16),fV _ (gv gs 6) (gv gs 0) 0,Eng.dZ,Eng.dZ,Eng.dZ]
 | 4,gs=>Eng.dQ (gs.length=12)::[kY w0 (gv gs 6) fl (n0+1),lO w0 (gv gs 7) (gv gs 8) (gv gs 9) rows.length N K,cD _ (gv gs 10),eU _ (gv gs 11) rows,jC _ (gv gs 5) (B.take 16),fV _ (gv gs 10) (gv gs 4) 0,mD _ 0 (gv gs 0) (gv gs 1) (gv gs 2) (gv gs 3),Eng.dZ,Eng.dZ]
 | 5,gs=>Eng.dQ (gs.length=12)::[kY w0 (gv gs 6) fl (n0+1),lO w0 (gv gs 7) (gv gs 8) (gv gs 9) rows.length N K,cD _ (gv gs 10),eU _ (gv gs 11) rows,jC _ (gv gs 5) (B.take 16),fV _ (gv gs 10) (gv gs 4) 0,mD _ 0 (gv gs 0) (gv gs 1) (gv gs 2) (gv gs 3),Eng.dZ,Eng.dZ]
 | 6,gs=>Eng.dQ (gs.length=13)::[kY w0 (gv gs 7) fl (n0+1),lO w0 (gv gs 8) (gv gs 9) (gv gs 10) rows.length N K,cD _ (gv gs 11),eU _ (gv gs 12) rows,jC _ (gv gs 6) (B.take 16),fV _ (gv gs 11) (gv gs 0) 0,mD _ 0 (gv gs 1) (gv gs 2) (gv gs 3) (gv gs 4),Eng.dZ,Eng.dZ]
 | 7,gs=>Eng.dQ (gs.length=14)::[kY w0 (gv gs 8) fl (n0+1+1),lO w0 (gv gs 9) (gv gs 10) (gv gs 11) rows.length N K,cD _ (gv gs 12),eU _ (gv gs 13) rows,jC _ (gv gs 7) (B.take 16),fV _ (gv gs 12) (gv gs 1) 0,mD _ 0 (gv gs 2) (gv gs 3) (gv gs 4) (gv gs 5),jC _ (gv gs 0) B,Eng.dZ]
 | 8,gs=>Eng.dQ (gs.length=15)::[kY w0 (gv gs 9) fl (n0+1+1),lO w0 (gv gs 10) (gv gs 11) (gv gs 12) rows.length N K,cD _ (gv gs 13),eU _ (gv gs 14) rows,jC _ (gv gs 8) (B.take 16),fV _ (gv gs 13) (gv gs 2) B.length,mD _ 0 (gv gs 3) (gv gs 4) (gv gs 5) (gv gs 6),jC _ (gv gs 1) B,vH _ B.length B.length (gv gs 0)]
 | 9,gs=>Eng.dQ (gs.length=15)::[kY w0 (gv gs 9) fl (n0+1+1),lO w0 (gv gs 10) (gv gs 11) (gv gs 12) (rows.length+1) (N+23000) (K+110),cD _ (gv gs 13),eU _ (gv gs 14) rows,jC _ (gv gs 8) (B.take 16),fV _ (gv gs 13) (gv gs 2) B.length,mD _ 0 (gv gs 3) (gv gs 4) (gv gs 5) (gv gs 6),jC _ (gv gs 1) B,vH _ B.length B.length (gv gs 0)]
 | 10,gs=>Eng.dQ (gs.length=19)::[kY w0 (gv gs 13) fl (n0+1+1),lO w0 (gv gs 14) (gv gs 15) (gv gs 16) (rows.length+1) (N+23000) (K+110),cD _ (gv gs 17),eU _ (gv gs 18) rows,jC _ (gv gs 12) (B.take 16),fV _ (gv gs 17) (gv gs 6) B.length,mD _ B.length (gv gs 0) (gv gs 1) (gv gs 2) (gv gs 3),jC _ (gv gs 5) B,vH _ B.length B.length (gv gs 4)]
 | 11,gs=>Eng.dQ (gs.length=20)::[kY w0 (gv gs 14) fl (n0+1+1),lO w0 (gv gs 15) (gv gs 16) (gv gs 17) (rows.length+1) (N+23000) (K+110),cD _ (gv gs 18),eU _ (gv gs 19) rows,jC _ (gv gs 13) (B.take 16),fV _ (gv gs 18) (gv gs 7) B.length,mD _ B.length (gv gs 1) (gv gs 2) (gv gs 3) (gv gs 4),txX _ (gv gs 0),vH _ B.length B.length (gv gs 5)]
 | 12,gs=>Eng.dQ (gs.length=20)::[kY w0 (gv gs 14) fl (n0+1+1),lO w0 (gv gs 15) (gv gs 16) (gv gs 17) (rows.length+1) (N+23000+938) (K+110+1),cD _ (gv gs 18),eU _ (gv gs 19) rows,jC _ (gv gs 13) (B.take 16),fV _ (gv gs 18) (gv gs 7) B.length,mD _ B.length (gv gs 1) (gv gs 2) (gv gs 3) (gv gs 4),txX _ (gv gs 0),vH _ B.length B.length (gv gs 5)]
 | _+13,gs=>Eng.dQ (gs.length=10)::[kY w0 (gv gs 4) fl (n0+1+1),lO w0 (gv gs 5) (gv gs 6) (gv gs 7) (rows.length+1) (N+23000+938) (K+110+1),cD _ (gv gs 8),eU _ (gv gs 9) (rows++[ptX B (rows.length+1) (gv gs 0) (gv gs 1) (gv gs 2) (gv gs 3)]),Eng.dZ,Eng.dZ,mD _ B.length (gv gs 0) (gv gs 1) (gv gs 2) (gv gs 3),Eng.dZ,Eng.dZ]
def yU {w0:World} (n0 m N K:Nat) (rows:List (List Value)) (fl:FL) (B:List UInt8) (i:Nat) (lv pv hd ls:Value):Nat→List Value→List (cR w0.heap.size)
 | 0,gs=>Eng.dQ (gs.length=10)::[kY w0 (gv gs 4) fl n0,lO w0 (gv gs 5) (gv gs 6) (gv gs 7) m N K,cD _ (gv gs 8),eU _ (gv gs 9) rows,Eng.dZ,Eng.dZ,mD _ B.length (gv gs 0) (gv gs 1) (gv gs 2) (gv gs 3),Eng.dZ,Eng.dZ,Eng.dQ ((gv gs 0)=lv∧(gv gs 1)=pv∧(gv gs 2)=hd∧(gv gs 3)=ls)]
 | 1,gs=>Eng.dQ (gs.length=10)::[kY w0 (gv gs 4) fl n0,lO w0 (gv gs 5) (gv gs 6) (gv gs 7) m N K,cD _ (gv gs 8),eU _ (gv gs 9) rows,Eng.dZ,Eng.dZ,mD _ B.length (gv gs 0) (gv gs 1) (gv gs 2) (gv gs 3),Eng.dZ,Eng.dZ,Eng.dQ ((gv gs 0)=lv∧(gv gs 1)=pv∧(gv gs 2)=hd∧(gv gs 3)=ls)]
 | 2,gs=>Eng.dQ (gs.length=11)::[kY w0 (gv gs 5) fl (n0+1),lO w0 (gv gs 6) (gv gs 7) (gv gs 8) m N K,cD _ (gv gs 9),eU _ (gv gs 10) rows,jC _ (gv gs 0) (B.take 16),Eng.dZ,mD _ B.length (gv gs 1) (gv gs 2) (gv gs 3) (gv gs 4),Eng.dZ,Eng.dZ,Eng.dQ ((gv gs 1)=lv∧(gv gs 2)=pv∧(gv gs 3)=hd∧(gv gs 4)=ls)]
 | 3,gs=>Eng.dQ (gs.length=11)::[kY w0 (gv gs 5) fl (n0+1),lO w0 (gv gs 6) (gv gs 7) (gv gs 8) m N K,cD _ (gv gs 9),eU _ (gv gs 10) rows,jC _ (gv gs 0) (B.take 16),Eng.dZ,mD _ B.length (gv gs 1) (gv gs 2) (gv gs 3) (gv gs 4),Eng.dZ,Eng.dZ,Eng.dQ ((gv gs 1)=lv∧(gv gs 2)=pv∧(gv gs 3)=hd∧(gv gs 4)=ls)]
 | 4,gs=>Eng.dQ (gs.length=11)::[kY w0 (gv gs 5) fl (n0+1),lO w0 (gv gs 6) (gv gs 7) (gv gs 8) m N K,cD _ (gv gs 9),eU _ (gv gs 10) rows,jC _ (gv gs 0) (B.take 16),Eng.dZ,mD _ B.length (gv gs 1) (gv gs 2) (gv gs 3) (gv gs 4),Eng.dZ,Eng.dZ,Eng.dQ ((gv gs 1)=lv∧(gv gs 2)=pv∧(gv gs 3)=hd∧(gv gs 4)=ls)]
 | 5,gs=>Eng.dQ (gs.length=12)::[kY w0 (gv gs 6) fl (n0+1),lO w0 (gv gs 7) (gv gs 8) (gv gs 9) m N K,cD _ (gv gs 10),eU _ (gv gs 11) rows,jC _ (gv gs 1) (B.take 16),fV _ (gv gs 10) (gv gs 0) B.length,mD _ B.length (gv gs 2) (gv gs 3) (gv gs 4) (gv gs 5),Eng.dZ,Eng.dZ,Eng.dQ ((gv gs 2)=lv∧(gv gs 3)=pv∧(gv gs 4)=hd∧(gv gs 5)=ls)]
 | 6,gs=>Eng.dQ (gs.length=13)::[kY w0 (gv gs 7) fl (n0+1+1),lO w0 (gv gs 8) (gv gs 9) (gv gs 10) m N K,cD _ (gv gs 11),eU _ (gv gs 12) rows,jC _ (gv gs 2) (B.take 16),fV _ (gv gs 11) (gv gs 1) B.length,mD _ B.length (gv gs 3) (gv gs 4) (gv gs 5) (gv gs 6),jC _ (gv gs 0) [],Eng.dZ,Eng.dQ ((gv gs 3)=lv∧(gv gs 4)=pv∧(gv gs 5)=hd∧(gv gs 6)=ls)]
 | 7,gs=>Eng.dQ (gs.length=14)::[kY w0 (gv gs 8) fl (n0+1+1),lO w0 (gv gs 9) (gv gs 10) (gv gs 11) m N K,cD _ (gv gs 12),eU _ (gv gs 13) rows,jC _ (gv gs 3) (B.take 16),fV _ (gv gs 12) (gv gs 2) B.length,mD _ B.length (gv gs 4) (gv gs 5) (gv gs 6) (gv gs 7),jC _ (gv gs 1) [],vH _ B.length 0 (gv gs 0),Eng.dQ ((gv gs 4)=lv∧(gv gs 5)=pv∧(gv gs 6)=hd∧(gv gs 7)=ls)]
 | 8,gs=>Eng.dQ (gs.length=14)::[kY w0 (gv gs 8) fl (n0+1+1),lO w0 (gv gs 9) (gv gs 10) (gv gs 11) m N K,cD _ (gv gs 12),eU _ (gv gs 13) rows,jC _ (gv gs 3) (B.take 16),fV _ (gv gs 12) (gv gs 2) B.length,mD _ B.length (gv gs 4) (gv gs 5) (gv gs 6) (gv gs 7),jC _ (gv gs 1) [],vH _ B.length 0 (gv gs 0),Eng.dQ ((gv gs 4)=lv∧(gv gs 5)=pv∧(gv gs 6)=hd∧(gv gs 7)=ls)]
 | _+9,gs=>Eng.dQ (gs.length=10)::[kY w0 (gv gs 4) fl (n0+1+1),lO w0 (gv gs 5) (gv gs 6) (gv gs 7) m N K,cD _ (gv gs 8),eU _ (gv gs 9) rows,Eng.dZ,Eng.dZ,mD _ B.length (gv gs 0) (gv gs 1) (gv gs 2) (gv gs 3),Eng.dZ,Eng.dZ,Eng.dQ ((gv gs 0)=lv∧(gv gs 1)=pv∧(gv gs 2)=hd∧(gv gs 3)=ls)]
def b9d {w0:World} (m N K:Nat) (rows:List (List Value)) (i:Nat):Nat→List Value→List (cR w0.heap.size)
 | 0,gs=>Eng.dQ (gs.length=6)::[Eng.dZ,lO w0 (gv gs 1) (gv gs 2) (gv gs 3) m N K,cD _ (gv gs 4),eU _ (gv gs 5) rows,Eng.dZ,Eng.dZ,Eng.dZ,Eng.dZ,Eng.dZ]
 | 1,gs=>Eng.dQ (gs.length=7)::[Eng.dZ,lO w0 (gv gs 2) (gv gs 3) (gv gs 4) m N K,cD _ (gv gs 5),eU _ (gv gs 6) rows,Eng.dZ,Eng.dZ,Eng.dZ,txX _ (gv gs 0),Eng.dZ]
 | 2,gs=>Eng.dQ (gs.length=7)::[Eng.dZ,lO w0 (gv gs 2) (gv gs 3) (gv gs 4) m (N+938) (K+1),cD _ (gv gs 5),eU _ (gv gs 6) rows,Eng.dZ,Eng.dZ,Eng.dZ,txX _ (gv gs 0),Eng.dZ]
 | _+3,gs=>Eng.dQ (gs.length=6)::[Eng.dZ,lO w0 (gv gs 1) (gv gs 2) (gv gs 3) m (N+938) (K+1),cD _ (gv gs 4),eU _ (gv gs 5) (rows.set i (iN ((i+1:Nat):Int))),Eng.dZ,Eng.dZ,Eng.dZ,Eng.dZ,Eng.dZ]
section
variable {w0 : World} {n0 m N K i : Nat} {rows : List (List Value)} {fl : FL} {B : List UInt8} {lv pv hd ls : Value}
theorem e3x (B:List UInt8) (k:Nat):0≤jQ B k 2∧jQ B k 2≤16:=⟨by show (0:Int)≤((min (B.take 16).length 16:Nat):Int);omega,by show ((min (B.take 16).length 16:Nat):Int)≤16;omega⟩
theorem e3y (B:List UInt8) (k:Nat):0≤jQ B k 3∧jQ B k 3≤4294967295:=⟨by show (0:Int)≤((kM (B.take 16)).toNat:Int);omega,by show ((kM (B.take 16)).toNat:Int)≤4294967295;have:=(kM (B.take 16)).isLt;omega⟩
theorem d3s (hm8:rows.length≤8) (hr21:jJ rows) (hin:cB fA fl ((rows.length+1:Nat):Int)=true) (hcont:(bT fl (below fA fl ((rows.length+1:Nat):Int))).2.2=B) (hn0:n0≤900) (hBl:B.length≤110) (hK:K≤3800) (hN:N≤238000) :
  ∀ T∈Eng.c1n,T.Ok Tryz.prog (jQ B (rows.length+1)) (@sE w0 n0 N K rows fl B):=by
 have I:(1:Int)≤((rows.length+1:Nat):Int)∧((rows.length+1:Nat):Int)≤12:=⟨by omega,by omega⟩
 have a4:=e3x B (rows.length+1);have a5:=e3y B (rows.length+1);intro T hT;simp only[Eng.c1n,aG,bF,or_false] at hT;rcases hT with rfl|rfl|rfl|rfl|rfl|rfl|rfl|rfl|rfl|rfl|rfl|rfl|rfl
 ·refine okN (n:=6) (m:=0) (n':=6) [3] (X:=fun gs=>[eU _ (gv gs 5) rows]) (Y:=fun gs b=>[eU _ (gv gs 5) rows]) (sel:=fun gs b=>b++gs) (fun gs=>rfl) rfl (fun gs=>rfl) (fun gs b=>rfl) (by decide) (fun gs b h j=>by obtain rfl:=len0 j;rfl) (fun gs b h j=>by rw[aE,h,j]) (fun gs b h j=>@dU (Eng.cA w0.heap.size (jQ B (rows.length+1)) (@sE w0 n0 N K rows fl B)) gs b 6 0 h j) (fun gs O w f F h y o C G=>?_);obtain⟨u0,u1,rfl,D,J⟩:=va2 C;obtain rfl:=eD D;have J:=jF (gs:=gs) J;subst J;refine(e9r y fun F1 h1=>d3n h1 G (by omega) (i:=rows.length) (aF _) (by omega)).mono ?_;rintro e M ⟨E,rfl,A,s,t⟩;exact⟨_,[],E,rfl,trivial,⟨ptZ,[.bool false],rfl,d8g,⟨rfl,trivial⟩⟩,A,s,t⟩
 ·refine okN (n:=6) (m:=1) (n':=7) [0,4] (X:=fun gs=>[kY w0 (gv gs 0) fl n0,Eng.dZ]) (Y:=fun gs b=>[kY w0 (gv gs 0) fl (n0+1),jC _ (gv b 0) (B.take 16)]) (sel:=fun gs b=>b++gs) (fun gs=>rfl) rfl (fun gs=>rfl) (fun gs b=>rfl) (by decide) (fun gs b h j=>by obtain⟨u,rfl⟩:=a3u j;rfl) (fun gs b h j=>by rw[aE,h,j]) (fun gs b h j=>@dU (Eng.cA w0.heap.size (jQ B (rows.length+1)) (@sE w0 n0 N K rows fl B)) gs b 6 1 h j) (fun gs O w f F h y o C G=>?_);obtain⟨u0,u1,u2,u3,rfl,D,J,U,Z⟩:=va4 C;obtain rfl:=eD D;have J:=jF (gs:=gs) J;subst J;have U:=xC (gs:=gs) U;subst U;have Z:=xC (gs:=gs) Z;subst Z;have W:=a9i (at_:=0) (m:=16) y hin I (by omega) (by omega) (by omega) G;rw[hcont,List.drop_zero] at W;refine W.mono ?_;rintro e M ⟨u,a,c,rfl,hu,E,A,s,t⟩;exact⟨_,[u],E,rfl,⟨⟨a,_,c,hu,by show _=(0+(1*((min (B.take 16).length 16:Nat):Int)+0));rw[aJ];omega⟩,trivial⟩,⟨_,rfl,dY h [u] 0,rfl,trivial⟩,A,s,t⟩
 ·refine okN (n:=7) (m:=1) (n':=8) [2,5] (X:=fun gs=>[cD _ (gv gs 5),Eng.dZ]) (Y:=fun gs b=>[cD _ (gv gs 5),fV _ (gv gs 5) (gv b 0) 0]) (sel:=fun gs b=>b++gs) (fun gs=>rfl) rfl (fun gs=>rfl) (fun gs b=>rfl) (by decide) (fun gs b h j=>by obtain⟨u,rfl⟩:=a3u j;rfl) (fun gs b h j=>by rw[aE,h,j]) (fun gs b h j=>@dU (Eng.cA w0.heap.size (jQ B (rows.length+1)) (@sE w0 n0 N K rows fl B)) gs b 7 1 h j) (fun gs O w f F h y o C G=>?_);obtain⟨u0,rfl,D⟩:=va1 C;obtain rfl:=eD D;refine(e9n y G).mono ?_;rintro e M ⟨vx,E,rfl,hp,A,s,t⟩;exact⟨_,[vx],E,rfl,⟨hp,trivial⟩,⟨_,rfl,dY h [vx] 0,rfl,trivial⟩,A,s,t⟩
 ·refine okN (n:=8) (m:=4) (n':=12) [5,6] (X:=fun gs=>[fV _ (gv gs 6) (gv gs 0) 0,Eng.dZ]) (Y:=fun gs b=>[fV _ (gv gs 6) (gv gs 0) 0,mD _ 0 (gv b 0) (gv b 1) (gv b 2) (gv b 3)]) (sel:=fun gs b=>b++gs) (fun gs=>rfl) rfl (fun gs=>rfl) (fun gs b=>rfl) (by decide) (fun gs b h j=>by obtain⟨u1,u2,u3,u4,rfl⟩:=e3w j;rfl) (fun gs b h j=>by rw[aE,h,j]) (fun gs b h j=>@dU (Eng.cA w0.heap.size (jQ B (rows.length+1)) (@sE w0 n0 N K rows fl B)) gs b 8 4 h j) (fun gs O w f F h y o C G=>?_);obtain⟨u0,rfl,D⟩:=va1 C;obtain rfl:=eD D;refine(c2k y G (by omega)).mono ?_;rintro e M ⟨P,Q,hd,S,E,rfl,⟨o1,o2,o3,o4⟩,A,s,t⟩;exact⟨_,[P,Q,hd,S],E,rfl,⟨o1,o2,o3,o4,trivial⟩,⟨_,rfl,a9j rfl (dY h [P,Q,hd,S] 0) (dY h [P,Q,hd,S] 1) (dY h [P,Q,hd,S] 2) (dY h [P,Q,hd,S] 3)⟩,A,s,t⟩
 ·refine okN (n:=12) (m:=0) (n':=12) [4] (X:=fun gs=>[jC _ (gv gs 5) (B.take 16)]) (Y:=fun gs b=>[jC _ (gv gs 5) (B.take 16)]) (sel:=fun gs b=>b++gs) (fun gs=>rfl) rfl (fun gs=>rfl) (fun gs b=>rfl) (by decide) (fun gs b h j=>by obtain rfl:=len0 j;rfl) (fun gs b h j=>by rw[aE,h,j]) (fun gs b h j=>@dU (Eng.cA w0.heap.size (jQ B (rows.length+1)) (@sE w0 n0 N K rows fl B)) gs b 12 0 h j) (fun gs O w f F h y o C G=>?_);obtain⟨u0,rfl,D⟩:=va1 C;obtain rfl:=eD D;refine(a3b w _ _ (cC.1 y).1.rd).mono ?_;rintro e M ⟨rfl,hu⟩;obtain⟨E,A,s,t⟩:=xB y hu;exact⟨_,[],E,rfl,trivial,⟨_,rfl,a3w (i:=2),a9k,trivial⟩,A,s,t⟩
 ·refine okN (n:=12) (m:=1) (n':=13) [2,6,5] (X:=fun gs=>[cD _ (gv gs 10),mD _ 0 (gv gs 0) (gv gs 1) (gv gs 2) (gv gs 3),fV _ (gv gs 10) (gv gs 4) 0]) (Y:=fun gs b=>[cD _ (gv gs 10),mD _ 0 (gv gs 0) (gv gs 1) (gv gs 2) (gv gs 3),fV _ (gv gs 10) (gv b 0) 0]) (sel:=fun gs b=>b++gs) (fun gs=>rfl) rfl (fun gs=>rfl) (fun gs b=>rfl) (by decide) (fun gs b h j=>by obtain⟨u,rfl⟩:=a3u j;rfl) (fun gs b h j=>by rw[aE,h,j]) (fun gs b h j=>@dU (Eng.cA w0.heap.size (jQ B (rows.length+1)) (@sE w0 n0 N K rows fl B)) gs b 12 1 h j) (fun gs O w f F h y o C G=>?_);obtain⟨u0,u1,rfl,D,⟨V,rfl,L⟩⟩:=va2 C;obtain rfl:=eD D;have L:=b9c L (fun v q=>xC (gs:=gs) q);subst L;refine(e9o y G (by omega)).mono ?_;rintro e M ⟨vx,E,rfl,hp,A,s,t⟩;exact⟨_,[vx],E,rfl,⟨hp,trivial⟩,⟨_,rfl,dY h [vx] 0,rfl,trivial⟩,A,s,t⟩
 ·refine okN (n:=13) (m:=1) (n':=14) [0,7] (X:=fun gs=>[kY w0 (gv gs 7) fl (n0+1),Eng.dZ]) (Y:=fun gs b=>[kY w0 (gv gs 7) fl (n0+1+1),jC _ (gv b 0) B]) (sel:=fun gs b=>b++gs) (fun gs=>rfl) rfl (fun gs=>rfl) (fun gs b=>rfl) (by decide) (fun gs b h j=>by obtain⟨u,rfl⟩:=a3u j;rfl) (fun gs b h j=>by rw[aE,h,j]) (fun gs b h j=>@dU (Eng.cA w0.heap.size (jQ B (rows.length+1)) (@sE w0 n0 N K rows fl B)) gs b 13 1 h j) (fun gs O w f F h y o C G=>?_);obtain⟨u0,u1,u2,u3,rfl,D,J,U,Z⟩:=va4 C;obtain rfl:=eD D;have J:=jF (gs:=gs) J;subst J;have U:=xC (gs:=gs) U;subst U;have Z:=jF (gs:=gs) Z;subst Z;have W:=a9i (at_:=0) (m:=B.length) y hin I (by omega) (by omega) (by omega) G;rw[hcont,List.drop_zero,aV] at W;refine W.mono ?_;rintro e M ⟨u,a,c,rfl,hu,E,A,s,t⟩;exact⟨_,[u],E,rfl,⟨⟨a,_,c,hu,by show _=(0+(1*(B.length:Int)+0));omega⟩,trivial⟩,⟨_,rfl,dY h [u] 0,rfl,trivial⟩,A,s,t⟩
 ·refine okN (n:=14) (m:=1) (n':=15) [5,7,8] (X:=fun gs=>[fV _ (gv gs 12) (gv gs 1) 0,jC _ (gv gs 0) B,Eng.dZ]) (Y:=fun gs b=>[fV _ (gv gs 12) (gv gs 1) B.length,jC _ (gv gs 0) B,vH _ B.length B.length (gv b 0)]) (sel:=fun gs b=>b++gs) (fun gs=>rfl) rfl (fun gs=>rfl) (fun gs b=>rfl) (by decide) (fun gs b h j=>by obtain⟨u,rfl⟩:=a3u j;rfl) (fun gs b h j=>by rw[aE,h,j]) (fun gs b h j=>@dU (Eng.cA w0.heap.size (jQ B (rows.length+1)) (@sE w0 n0 N K rows fl B)) gs b 14 1 h j) (fun gs O w f F h y o C G=>?_);obtain⟨u0,u1,rfl,D,J⟩:=va2 C;obtain rfl:=eD D;obtain rfl:=eD J;have W:=d3p y G (by omega);rw[aM] at W;refine W.mono ?_;rintro e M ⟨out,E,rfl,ho,A,s,t⟩;exact⟨_,[out],E,rfl,⟨ho,trivial⟩,dY h [out] 0,A,s,t⟩
 ·refine okN (n:=15) (m:=0) (n':=15) [1,2,8] (X:=fun gs=>[lO w0 (gv gs 10) (gv gs 11) (gv gs 12) rows.length N K,cD _ (gv gs 13),vH _ B.length B.length (gv gs 0)]) (Y:=fun gs b=>[lO w0 (gv gs 10) (gv gs 11) (gv gs 12) (rows.length+1) (N+23000) (K+110),cD _ (gv gs 13),vH _ B.length B.length (gv gs 0)]) (sel:=fun gs b=>b++gs) (fun gs=>rfl) rfl (fun gs=>rfl) (fun gs b=>rfl) (by decide) (fun gs b h j=>by obtain rfl:=len0 j;rfl) (fun gs b h j=>by rw[aE,h,j]) (fun gs b h j=>@dU (Eng.cA w0.heap.size (jQ B (rows.length+1)) (@sE w0 n0 N K rows fl B)) gs b 15 0 h j) (fun gs O w f F h y o C G=>?_);obtain⟨u0,u1,u2,rfl,⟨gf,ws,rfl,hw,kn⟩,⟨V,rfl,L⟩,U⟩:=va3 C;obtain⟨x4,x5,rfl⟩:=pt6 hw;obtain⟨x0,ps,rfl⟩:=pt3 L;obtain rfl:=eD U;refine(e9p y kn.1 (fun q=>kn.2.1 (o gf q)) G (by omega) (by omega) (by omega) (by omega) (by omega)).mono ?_;rintro e M ⟨rfl,E,A,s,t⟩;exact⟨_,[],E,rfl,trivial,rfl,A,s,t⟩
 ·refine okN (n:=15) (m:=4) (n':=19) [5,6] (X:=fun gs=>[fV _ (gv gs 13) (gv gs 2) B.length,mD _ 0 (gv gs 3) (gv gs 4) (gv gs 5) (gv gs 6)]) (Y:=fun gs b=>[fV _ (gv gs 13) (gv gs 2) B.length,mD _ B.length (gv b 0) (gv b 1) (gv b 2) (gv b 3)]) (sel:=fun gs b=>b++gs) (fun gs=>rfl) rfl (fun gs=>rfl) (fun gs b=>rfl) (by decide) (fun gs b h j=>by obtain⟨u1,u2,u3,u4,rfl⟩:=e3w j;rfl) (fun gs b h j=>by rw[aE,h,j]) (fun gs b h j=>@dU (Eng.cA w0.heap.size (jQ B (rows.length+1)) (@sE w0 n0 N K rows fl B)) gs b 15 4 h j) (fun gs O w f F h y o C G=>?_);obtain⟨u0,rfl,D⟩:=va1 C;obtain rfl:=eD D;refine(c2k y G (by omega)).mono ?_;rintro e M ⟨P,Q,hd,S,E,rfl,⟨o1,o2,o3,o4⟩,A,s,t⟩;exact⟨_,[P,Q,hd,S],E,rfl,⟨o1,o2,o3,o4,trivial⟩,⟨_,rfl,a9j (a3w (i:=6)) (dY h [P,Q,hd,S] 0) (dY h [P,Q,hd,S] 1) (dY h [P,Q,hd,S] 2) (dY h [P,Q,hd,S] 3)⟩,A,s,t⟩
 ·refine okN (n:=19) (m:=1) (n':=20) [2,6,7] (X:=fun gs=>[cD _ (gv gs 17),mD _ B.length (gv gs 0) (gv gs 1) (gv gs 2) (gv gs 3),jC _ (gv gs 5) B]) (Y:=fun gs b=>[cD _ (gv gs 17),mD _ B.length (gv gs 0) (gv gs 1) (gv gs 2) (gv gs 3),txX _ (gv b 0)]) (sel:=fun gs b=>b++gs) (fun gs=>rfl) rfl (fun gs=>rfl) (fun gs b=>rfl) (by decide) (fun gs b h j=>by obtain⟨u,rfl⟩:=a3u j;rfl) (fun gs b h j=>by rw[aE,h,j]) (fun gs b h j=>@dU (Eng.cA w0.heap.size (jQ B (rows.length+1)) (@sE w0 n0 N K rows fl B)) gs b 19 1 h j) (fun gs O w f F h y o C G=>?_);obtain⟨u0,u1,rfl,D,⟨V,rfl,L⟩⟩:=va2 C;obtain rfl:=eD D;have L:=d3r L (fun v q=>by have z:=jF (gs:=gs) q;exact z);subst L;refine(e9q y G (by omega) a4 a5 I).mono ?_;rintro e M ⟨u,E,rfl,ho,A,s,t⟩;exact⟨_,[u],E,rfl,⟨ho,trivial⟩,dY h [u] 0,A,s,t⟩
 ·refine okN (n:=20) (m:=0) (n':=20) [1,7] (X:=fun gs=>[lO w0 (gv gs 15) (gv gs 16) (gv gs 17) (rows.length+1) (N+23000) (K+110),txX _ (gv gs 0)]) (Y:=fun gs b=>[lO w0 (gv gs 15) (gv gs 16) (gv gs 17) (rows.length+1) (N+23000+938) (K+110+1),txX _ (gv gs 0)]) (sel:=fun gs b=>b++gs) (fun gs=>rfl) rfl (fun gs=>rfl) (fun gs b=>rfl) (by decide) (fun gs b h j=>by obtain rfl:=len0 j;rfl) (fun gs b h j=>by rw[aE,h,j]) (fun gs b h j=>@dU (Eng.cA w0.heap.size (jQ B (rows.length+1)) (@sE w0 n0 N K rows fl B)) gs b 20 0 h j) (fun gs O w f F h y o C G=>?_);obtain⟨u0,u1,rfl,D,⟨g,V,rfl,hw,kn⟩⟩:=va2 C;obtain rfl:=eD D;obtain⟨x0,x1,rfl,c0,c1⟩:=mv2 hw;have c0:=jF (gs:=gs) c0;subst c0;obtain rfl:=eD c1;refine(d3q y kn.1 (fun q=>kn.2.1 (o g q)) ⟨Int.le_trans (by omega) I.1,Int.le_trans I.2 (by omega)⟩ (by omega) (by omega)).mono ?_;rintro e M ⟨rfl,E,A,s,t⟩;exact⟨_,[],E,rfl,trivial,rfl,A,s,t⟩
 ·refine okN (n:=20) (m:=0) (n':=10) [3,6,4,5,7,8] (X:=fun gs=>[eU _ (gv gs 19) rows,mD _ B.length (gv gs 1) (gv gs 2) (gv gs 3) (gv gs 4),jC _ (gv gs 13) (B.take 16),fV _ (gv gs 18) (gv gs 7) B.length,txX _ (gv gs 0),vH _ B.length B.length (gv gs 5)]) (Y:=fun gs b=>[eU _ (gv gs 19) (rows++[ptX B (rows.length+1) (gv gs 1) (gv gs 2) (gv gs 3) (gv gs 4)]),mD _ B.length (gv gs 1) (gv gs 2) (gv gs 3) (gv gs 4),Eng.dZ,Eng.dZ,Eng.dZ,Eng.dZ]) (sel:=fun gs b=>[(gv gs 1),(gv gs 2),(gv gs 3),(gv gs 4),(gv gs 14),(gv gs 15),(gv gs 16),(gv gs 17),(gv gs 18),(gv gs 19)]) (fun gs=>rfl) rfl (fun gs=>rfl) (fun gs b=>rfl) (by decide) (fun gs b h j=>by obtain rfl:=len0 j;rfl) (fun gs b h j=>rfl) (fun gs b h j=>by exact⟨eE (by omega),eE (by omega),eE (by omega),eE (by omega),eE (by omega),eE (by omega),eE (by omega),eE (by omega),eE (by omega),eE (by omega),trivial⟩) (fun gs O w f F h y o C G=>?_);obtain⟨u0,u1,u2,rfl,D,J,⟨V,rfl,L⟩⟩:=va3 C;obtain rfl:=eD D;have J:=jF (gs:=gs) J;subst J;have L:=d3r L (fun v q=>by have z:=jF (gs:=gs) q;exact z);subst L;obtain⟨F1,R,s1,s2,s3,s4⟩:=Eng.cW.split (l:=[_]) (m:=[_,_,_,_,_]) y;obtain⟨F2,R2,t1,-,-,t4⟩:=Eng.cW.split (l:=[_]) (m:=[_,_,_,_]) s2;have a6:=qM (cC.1 t1);refine(d8b (cC.1 s1) hr21 G hm8 (d:=zY ((rows.length+1:Nat):Int) 1 _ _ (yR B.length _ _ _ _)) (b4n a6)).mono ?_;rintro e M ⟨f1,rfl,A,s,t⟩;have t5:=(mD _ _ _ _ _ _).up (cC.1 t1) s (fun x p q=>s3 x q ((t4 x).2 (.inl p))) (fun x q=>((eU _ _ _).lt (cC.1 s1) x q).1);have hd:∀ x,f1 x→¬ F2 x:=fun x p q=>by
   rcases t x p with r|r
   ·exact s3 x r ((t4 x).2 (.inl q))
   ·have:=((mD _ _ _ _ _ _).lt (cC.1 t1) x q).2;omega
  exact⟨_,[],fun x=>f1 x∨F2 x,rfl,trivial,rfl,jY 4 (eY A t5 hd fun _=>Iff.rfl),jP s (fun x q=>(s4 x).2 (.inl q)),fun x p=>p.elim (fun p=>(t x p).imp (fun q=>(s4 x).2 (.inl q)) id) fun p => .inl ((s4 x).2 (.inr ((t4 x).2 (.inl p))))⟩
theorem d3t (hi:i < rows.length) (hm9:rows.length≤9) (hr21:jJ rows) (hrow:rows[i]=ptX B (i+1) lv pv hd ls) (hin:cB fA fl ((i+1:Nat):Int)=true) (hcont:(bT fl (below fA fl ((i+1:Nat):Int))).2.2=B) (hn0:n0≤900) (hBl:B.length≤110) (hK:K≤3800) (hN:N≤238000) :
  ∀ T∈Eng.c1o,T.Ok Tryz.prog (jQ B (i+1)) (@yU w0 n0 m N K rows fl B i lv pv hd ls):=by
 have I:(1:Int)≤((i+1:Nat):Int)∧((i+1:Nat):Int)≤12:=⟨by omega,by omega⟩
 intro T hT;simp only[Eng.c1o,aG,bF,or_false] at hT;rcases hT with rfl|rfl|rfl|rfl|rfl|rfl|rfl|rfl|rfl
 ·refine okN (n:=10) (m:=0) (n':=10) [3,9] (X:=fun gs=>[eU _ (gv gs 9) rows,Eng.dQ ((gv gs 0)=lv∧(gv gs 1)=pv∧(gv gs 2)=hd∧(gv gs 3)=ls)]) (Y:=fun gs b=>[eU _ (gv gs 9) rows,Eng.dQ ((gv gs 0)=lv∧(gv gs 1)=pv∧(gv gs 2)=hd∧(gv gs 3)=ls)]) (sel:=fun gs b=>b++gs) (fun gs=>rfl) rfl (fun gs=>rfl) (fun gs b=>rfl) (by decide) (fun gs b d g=>by obtain rfl:=len0 g;rfl) (fun gs b d g=>by rw[aE,d,g]) (fun gs b d g=>@dU (Eng.cA w0.heap.size (jQ B (i+1)) (@yU w0 n0 m N K rows fl B i lv pv hd ls)) gs b 10 0 d g) (fun gs M w f F d h j s A=>?_);obtain⟨u0,u1,rfl,D,o⟩:=va2 s;obtain rfl:=eD D;have o:=jF (gs:=gs) o;subst o;obtain⟨F1,R,U,Z,s3,Q⟩:=iI h;obtain⟨⟨e1,e2,e3,e4⟩,a4⟩:=Z;refine(c2j U hr21 A (by omega) (i:=i) hi).mono ?_;rintro e L ⟨f1,rfl,t,r,y⟩;refine⟨_,[],f1,rfl,trivial,⟨ptX B (i+1) lv pv hd ls,[.bool true],by rw[hrow],?_,⟨rfl,trivial⟩⟩,sD (l:=[_]) (cC.2 t) ⟨e1,e2,e3,e4⟩,jP r (fun x q=>(Q x).2 (.inl q)),fun x p=>(y x p).imp (fun q=>(Q x).2 (.inl q)) id⟩;rw[bA,← e1,← e2,← e3,← e4];exact⟨rfl,a3w (i:=0),rfl,a3w (i:=2),a9k,a9j (a3w (i:=6)) (a3q (by omega)) (a3q (by omega)) (a3q (by omega)) (a3q (by omega))⟩
 ·refine okN (n:=10) (m:=1) (n':=11) [0,4] (X:=fun gs=>[kY w0 (gv gs 4) fl n0,Eng.dZ]) (Y:=fun gs b=>[kY w0 (gv gs 4) fl (n0+1),jC _ (gv b 0) (B.take 16)]) (sel:=fun gs b=>b++gs) (fun gs=>rfl) rfl (fun gs=>rfl) (fun gs b=>rfl) (by decide) (fun gs b d g=>by obtain⟨u,rfl⟩:=a3u g;rfl) (fun gs b d g=>by rw[aE,d,g]) (fun gs b d g=>@dU (Eng.cA w0.heap.size (jQ B (i+1)) (@yU w0 n0 m N K rows fl B i lv pv hd ls)) gs b 10 1 d g) (fun gs M w f F d h j s A=>?_);obtain⟨u0,u1,u2,u3,rfl,D,o,C,G⟩:=va4 s;obtain rfl:=eD D;have o:=jF (gs:=gs) o;subst o;have C:=xC (gs:=gs) C;subst C;have G:=xC (gs:=gs) G;subst G;have J:=a9i (at_:=0) (m:=16) h hin I (by omega) (by omega) (by omega) A;rw[hcont,List.drop_zero] at J;refine J.mono ?_;rintro e L ⟨u,a,c,rfl,P,E,t,r,y⟩;exact⟨_,[u],E,rfl,⟨⟨a,_,c,P,by show _=(0+(1*((min (B.take 16).length 16:Nat):Int)+0));rw[aJ];omega⟩,trivial⟩,⟨_,rfl,dY d [u] 0,rfl,trivial⟩,t,r,y⟩
 ·refine okN (n:=11) (m:=0) (n':=11) [4] (X:=fun gs=>[jC _ (gv gs 0) (B.take 16)]) (Y:=fun gs b=>[jC _ (gv gs 0) (B.take 16)]) (sel:=fun gs b=>b++gs) (fun gs=>rfl) rfl (fun gs=>rfl) (fun gs b=>rfl) (by decide) (fun gs b d g=>by obtain rfl:=len0 g;rfl) (fun gs b d g=>by rw[aE,d,g]) (fun gs b d g=>@dU (Eng.cA w0.heap.size (jQ B (i+1)) (@yU w0 n0 m N K rows fl B i lv pv hd ls)) gs b 11 0 d g) (fun gs M w f F d h j s A=>?_);obtain⟨u0,u1,u2,u3,rfl,⟨S,rfl,O⟩,o,C,G⟩:=va4 s;obtain⟨x0,x1,rfl,c0,V⟩:=mv2 O;have c0:=jF (gs:=gs) c0;subst c0;have V:=c2l (gs:=gs) V;subst V;have o:=jF (gs:=gs) o;subst o;have C:=jF (gs:=gs) C;subst C;obtain rfl:=eD G;have hB:(B.take 16).length≤16:=by rw[aJ];omega
  refine(b7l w (min (B.take 16).length 16) (kM (B.take 16)) _ _ _ (B.take 16) (cC.1 h).1.rd (Int.le_refl _) (by omega) (by omega) (by unfold kM;rw[Nat.min_eq_left hB,aZ (aF _),aZ hB])).mono ?_;rintro e L ⟨rfl,P⟩;obtain⟨E,t,r,y⟩:=xB h P;exact⟨_,[],E,rfl,trivial,rfl,t,r,y⟩
 ·refine okN (n:=11) (m:=0) (n':=11) [4] (X:=fun gs=>[jC _ (gv gs 0) (B.take 16)]) (Y:=fun gs b=>[jC _ (gv gs 0) (B.take 16)]) (sel:=fun gs b=>b++gs) (fun gs=>rfl) rfl (fun gs=>rfl) (fun gs b=>rfl) (by decide) (fun gs b d g=>by obtain rfl:=len0 g;rfl) (fun gs b d g=>by rw[aE,d,g]) (fun gs b d g=>@dU (Eng.cA w0.heap.size (jQ B (i+1)) (@yU w0 n0 m N K rows fl B i lv pv hd ls)) gs b 11 0 d g) (fun gs M w f F d h j s A=>?_);obtain⟨u0,rfl,D⟩:=va1 s;obtain rfl:=eD D;refine(a3b w _ _ (cC.1 h).1.rd).mono ?_;rintro e L ⟨rfl,P⟩;obtain⟨E,t,r,y⟩:=xB h P;exact⟨_,[],E,rfl,trivial,⟨_,rfl,a3w (i:=2),a9k,trivial⟩,t,r,y⟩
 ·refine okN (n:=11) (m:=1) (n':=12) [2,6,5] (X:=fun gs=>[cD _ (gv gs 9),mD _ B.length (gv gs 1) (gv gs 2) (gv gs 3) (gv gs 4),Eng.dZ]) (Y:=fun gs b=>[cD _ (gv gs 9),mD _ B.length (gv gs 1) (gv gs 2) (gv gs 3) (gv gs 4),fV _ (gv gs 9) (gv b 0) B.length]) (sel:=fun gs b=>b++gs) (fun gs=>rfl) rfl (fun gs=>rfl) (fun gs b=>rfl) (by decide) (fun gs b d g=>by obtain⟨u,rfl⟩:=a3u g;rfl) (fun gs b d g=>by rw[aE,d,g]) (fun gs b d g=>@dU (Eng.cA w0.heap.size (jQ B (i+1)) (@yU w0 n0 m N K rows fl B i lv pv hd ls)) gs b 11 1 d g) (fun gs M w f F d h j s A=>?_);obtain⟨u0,u1,rfl,D,⟨S,rfl,O⟩⟩:=va2 s;obtain rfl:=eD D;have O:=b9c O (fun v q=>by have z:=jF (gs:=gs) q;exact z);subst O;refine(e9o h A (by omega)).mono ?_;rintro e L ⟨vx,E,rfl,hp,t,r,y⟩;exact⟨_,[vx],E,rfl,⟨hp,trivial⟩,⟨_,rfl,dY d [vx] 0,rfl,trivial⟩,t,r,y⟩
 ·refine okN (n:=12) (m:=1) (n':=13) [0,7] (X:=fun gs=>[kY w0 (gv gs 6) fl (n0+1),Eng.dZ]) (Y:=fun gs b=>[kY w0 (gv gs 6) fl (n0+1+1),jC _ (gv b 0) []]) (sel:=fun gs b=>b++gs) (fun gs=>rfl) rfl (fun gs=>rfl) (fun gs b=>rfl) (by decide) (fun gs b d g=>by obtain⟨u,rfl⟩:=a3u g;rfl) (fun gs b d g=>by rw[aE,d,g]) (fun gs b d g=>@dU (Eng.cA w0.heap.size (jQ B (i+1)) (@yU w0 n0 m N K rows fl B i lv pv hd ls)) gs b 12 1 d g) (fun gs M w f F d h j s A=>?_);obtain⟨u0,u1,u2,u3,rfl,D,o,C,G⟩:=va4 s;obtain rfl:=eD D;have o:=jF (gs:=gs) o;subst o;have C:=jF (gs:=gs) C;subst C;have G:=xC (gs:=gs) G;subst G;have J:=a9i (at_:=B.length) (m:=0) h hin I (by omega) (by omega) (by omega) A;rw[hcont,List.take_zero] at J;refine J.mono ?_;rintro e L ⟨u,a,c,rfl,P,E,t,r,y⟩;exact⟨_,[u],E,rfl,⟨⟨a,_,c,P,rfl⟩,trivial⟩,⟨_,rfl,dY d [u] 0,rfl,trivial⟩,t,r,y⟩
 ·refine okN (n:=13) (m:=1) (n':=14) [5,7,8] (X:=fun gs=>[fV _ (gv gs 11) (gv gs 1) B.length,jC _ (gv gs 0) [],Eng.dZ]) (Y:=fun gs b=>[fV _ (gv gs 11) (gv gs 1) B.length,jC _ (gv gs 0) [],vH _ B.length 0 (gv b 0)]) (sel:=fun gs b=>b++gs) (fun gs=>rfl) rfl (fun gs=>rfl) (fun gs b=>rfl) (by decide) (fun gs b d g=>by obtain⟨u,rfl⟩:=a3u g;rfl) (fun gs b d g=>by rw[aE,d,g]) (fun gs b d g=>@dU (Eng.cA w0.heap.size (jQ B (i+1)) (@yU w0 n0 m N K rows fl B i lv pv hd ls)) gs b 13 1 d g) (fun gs M w f F d h j s A=>?_);obtain⟨u0,u1,rfl,D,o⟩:=va2 s;obtain rfl:=eD D;obtain rfl:=eD o;have J:=d3p h A (by simpa using hBl);rw[List.length_nil,Nat.add_zero] at J;refine J.mono ?_;rintro e L ⟨out,E,rfl,ho,t,r,y⟩;exact⟨_,[out],E,rfl,⟨ho,trivial⟩,dY d [out] 0,t,r,y⟩
 ·refine okN (n:=14) (m:=0) (n':=14) [1,2,8] (X:=fun gs=>[lO w0 (gv gs 9) (gv gs 10) (gv gs 11) m N K,cD _ (gv gs 12),vH _ B.length 0 (gv gs 0)]) (Y:=fun gs b=>[lO w0 (gv gs 9) (gv gs 10) (gv gs 11) m N K,cD _ (gv gs 12),vH _ B.length 0 (gv gs 0)]) (sel:=fun gs b=>b++gs) (fun gs=>rfl) rfl (fun gs=>rfl) (fun gs b=>rfl) (by decide) (fun gs b d g=>by obtain rfl:=len0 g;rfl) (fun gs b d g=>by rw[aE,d,g]) (fun gs b d g=>@dU (Eng.cA w0.heap.size (jQ B (i+1)) (@yU w0 n0 m N K rows fl B i lv pv hd ls)) gs b 14 0 d g) (fun gs M w f F d h j s A=>?_);obtain⟨u0,u1,u2,rfl,⟨gf,ws,rfl,hw,kn⟩,⟨S,rfl,O⟩,C⟩:=va3 s;obtain⟨x4,x5,rfl⟩:=pt6 hw;obtain⟨x0,ps,rfl⟩:=pt3 O;obtain rfl:=eD C;refine(e3u h kn.1 (fun q=>kn.2.1 (j gf q)) A (by omega) (by omega)).mono ?_;rintro e L ⟨rfl,E,t,r,y⟩;exact⟨_,[],E,rfl,trivial,rfl,t,r,y⟩
 ·refine okN (n:=14) (m:=4) (n':=10) [5,6,4,7,8] (X:=fun gs=>[fV _ (gv gs 12) (gv gs 2) B.length,mD _ B.length (gv gs 4) (gv gs 5) (gv gs 6) (gv gs 7),jC _ (gv gs 3) (B.take 16),jC _ (gv gs 1) [],vH _ B.length 0 (gv gs 0)]) (Y:=fun gs b=>[Eng.dZ,mD _ B.length (gv gs 4) (gv gs 5) (gv gs 6) (gv gs 7),Eng.dZ,Eng.dZ,Eng.dZ]) (sel:=fun gs b=>[(gv gs 4),(gv gs 5),(gv gs 6),(gv gs 7),(gv gs 8),(gv gs 9),(gv gs 10),(gv gs 11),(gv gs 12),(gv gs 13)]) (fun gs=>rfl) rfl (fun gs=>rfl) (fun gs b=>rfl) (by decide) (fun gs b d g=>by obtain⟨u1,u2,u3,u4,rfl⟩:=e3w g;rfl) (fun gs b d g=>rfl) (fun gs b d g=>by exact⟨eE (by omega),eE (by omega),eE (by omega),eE (by omega),eE (by omega),eE (by omega),eE (by omega),eE (by omega),eE (by omega),eE (by omega),trivial⟩) (fun gs M w f F d h j s A=>?_);obtain⟨u0,rfl,D⟩:=va1 s;obtain rfl:=eD D;obtain⟨F1,R,U,Z,s3,Q⟩:=Eng.cW.split (l:=[_]) (m:=[_,_,_,_]) h;obtain⟨F2,R2,W,t2,t3,t4⟩:=Eng.cW.split (l:=[_]) (m:=[_,_,_]) Z;have W:=cC.1 W;refine(vM (cC.1 U) A (by omega)).mono ?_;rintro e L ⟨lv,pv,hd,ls,D1,D2,rfl,t,r,y,k4,k5,k6⟩;obtain⟨o1,o2,o3,o4⟩:=qM r;have t5:=(mD _ _ _ _ _ _).up W k4 (fun x p q=>s3 x q ((t4 x).2 (.inl p))) (fun x q=>((fV _ _ _ _).lt (cC.1 U) x q).1);exact⟨_,[lv,pv,hd,ls],F2,rfl,⟨o1,o2,o3,o4,trivial⟩,⟨_,rfl,a9j (a3w (i:=6)) (dY d [lv,pv,hd,ls] 0) (dY d [lv,pv,hd,ls] 1) (dY d [lv,pv,hd,ls] 2) (dY d [lv,pv,hd,ls] 3)⟩,b4o (jY 3 (cC.2 t5)),jP k4 (fun x q=>(Q x).2 (.inl q)),fun x q => .inl ((Q x).2 (.inr ((t4 x).2 (.inl q))))⟩
theorem d3u (hi:i < rows.length) (hm8:rows.length≤8) (hr21:jJ rows) (hK:K≤3800) (hN:N≤238000) :
  ∀ T∈Eng.c1p,T.Ok Tryz.prog (jQ [] (i+1)) (@b9d w0 m N K rows i):=by
 have h:(1:Int)≤((i+1:Nat):Int)∧((i+1:Nat):Int)≤12:=⟨by omega,by omega⟩
 intro T hT;simp only[Eng.c1p,aG,bF,or_false] at hT;rcases hT with rfl|rfl|rfl
 ·refine okN (n:=6) (m:=1) (n':=7) [2,7] (X:=fun gs=>[cD _ (gv gs 4),Eng.dZ]) (Y:=fun gs a=>[cD _ (gv gs 4),txX _ (gv a 0)]) (sel:=fun gs a=>a++gs) (fun gs=>rfl) rfl (fun gs=>rfl) (fun gs a=>rfl) (by decide) (fun gs a b c=>by obtain⟨u,rfl⟩:=a3u c;rfl) (fun gs a b c=>by rw[aE,b,c]) (fun gs a b c=>@dU (Eng.cA w0.heap.size (jQ [] (i+1)) (@b9d w0 m N K rows i)) gs a 6 1 b c) (fun gs I w f F b z o A B=>?_);obtain⟨u0,u1,rfl,r,⟨s,rfl,j⟩⟩:=va2 A;obtain rfl:=eD r;have j:=b4p j;subst j;refine(e3v z B h).mono ?_;rintro e E ⟨u,D,rfl,J,t,v,y⟩;exact⟨_,[u],D,rfl,⟨J,trivial⟩,dY b [u] 0,t,v,y⟩
 ·refine okN (n:=7) (m:=0) (n':=7) [1,7] (X:=fun gs=>[lO w0 (gv gs 2) (gv gs 3) (gv gs 4) m N K,txX _ (gv gs 0)]) (Y:=fun gs a=>[lO w0 (gv gs 2) (gv gs 3) (gv gs 4) m (N+938) (K+1),txX _ (gv gs 0)]) (sel:=fun gs a=>a++gs) (fun gs=>rfl) rfl (fun gs=>rfl) (fun gs a=>rfl) (by decide) (fun gs a b c=>by obtain rfl:=len0 c;rfl) (fun gs a b c=>by rw[aE,b,c]) (fun gs a b c=>@dU (Eng.cA w0.heap.size (jQ [] (i+1)) (@b9d w0 m N K rows i)) gs a 7 0 b c) (fun gs I w f F b z o A B=>?_);obtain⟨u0,u1,rfl,r,⟨g,s,rfl,L,kn⟩⟩:=va2 A;obtain rfl:=eD r;obtain⟨Q,S,rfl,c0,M⟩:=mv2 L;have c0:=jF (gs:=gs) c0;subst c0;obtain rfl:=eD M;refine(d3q z kn.1 (fun q=>kn.2.1 (o g q)) ⟨Int.le_trans (by omega) h.1,Int.le_trans h.2 (by omega)⟩ (by omega) (by omega)).mono ?_;rintro e E ⟨rfl,D,t,v,y⟩;exact⟨_,[],D,rfl,trivial,rfl,t,v,y⟩
 ·refine okN (n:=7) (m:=0) (n':=6) [3,7] (X:=fun gs=>[eU _ (gv gs 6) rows,txX _ (gv gs 0)]) (Y:=fun gs a=>[eU _ (gv gs 6) (rows.set i (iN ((i+1:Nat):Int))),Eng.dZ]) (sel:=fun gs a=>[(gv gs 1),(gv gs 2),(gv gs 3),(gv gs 4),(gv gs 5),(gv gs 6)]) (fun gs=>rfl) rfl (fun gs=>rfl) (fun gs a=>rfl) (by decide) (fun gs a b c=>by obtain rfl:=len0 c;rfl) (fun gs a b c=>rfl) (fun gs a b c=>by exact⟨eE (by omega),eE (by omega),eE (by omega),eE (by omega),eE (by omega),eE (by omega),trivial⟩) (fun gs I w f F b z o A B=>?_);obtain⟨u0,u1,u2,rfl,r,C,⟨s,rfl,j⟩⟩:=va3 A;obtain rfl:=eD r;have C:=jF (gs:=gs) C;subst C;have j:=b4p j;subst j;obtain⟨U,R,O,V,W,G⟩:=Eng.cW.split (l:=[_]) (m:=[_]) z;refine(d8d (cC.1 O) hr21 B hm8 (i:=i) hi (d:=iN _) a3v).mono ?_;rintro e E ⟨P,rfl,t,v,y⟩;exact⟨_,[],P,rfl,trivial,rfl,jY 1 (cC.2 t),jP v (fun x q=>(G x).2 (.inl q)),fun x p=>(y x p).imp (fun q=>(G x).2 (.inl q)) id⟩
end
structure FV where
 y:Value
 d:Value
 l:Value
 j:Value
 r:Value
 t:Value
 f:Value
 a:Value
abbrev Q4:=Value×Value×Value×Value
abbrev Pt:=Option Q4
def lT (B:List UInt8) (i:Nat):Pt→List Value
 | none=>iN ((i+1:Nat):Int)
 | some q=>ptX B (i+1) q.1 q.2.1 q.2.2.1 q.2.2.2
def cS (B:List UInt8):Nat→List Pt→List (List Value)
 | _,[]=>[]
 | i,p::l=>lT B i p::cS B (i+1) l
def qN (b:Nat) (B:List UInt8):Pt→cR b
 | none=>Eng.dZ
 | some q=>mD b B.length q.1 q.2.1 q.2.2.1 q.2.2.2
def yV (b:Nat) (V:FV):cR b where
 P w F:=∃ gf,V.f = .pointer (some ⟨gf,0,none⟩)∧cU w gf 98 [V.y,V.r,V.l,V.j,V.t,V.a]∧V.a.oneCell'=true∧b≤gf∧∀ x,F x↔x=gf
 up:=by
  rintro w w' F S ⟨gf,h1,h2,h3,h4,h5⟩ hu hs hb;obtain⟨L,l1,l2⟩:=rY hu;exact⟨gf,h1,h2.upd l1 (fun q=>hs gf ((h5 gf).2 rfl) (l2 gf q)),h3,h4,h5⟩
 lt:=by
  rintro w F ⟨gf,h1,h2,h3,h4,h5⟩ x hx;rw[(h5 x).1 hx];exact⟨h4,h2.lt⟩
def eI (w0:World) (V:FV) (fl:FL) (n0 N K:Nat) (B:List UInt8) (pts:List Pt):List (cR w0.heap.size) :=
 [kY w0 V.y fl n0,lO w0 V.d V.l V.j pts.length N K,cD _ V.r,eU _ V.t (cS B 0 pts)]++([yV _ V]++pts.map (qN _ B))
theorem fW (B:List UInt8):∀ (l:List Pt) (i:Nat),(cS B i l).length=l.length
 | [],i=>rfl
 | p::l,i=>by simp[cS,fW B l]
theorem a0b (B:List UInt8) (x:Pt):∀ (l:List Pt) (i:Nat),cS B i (l++[x])=cS B i l++[lT B (i+l.length) x]
 | [],i=>by simp[cS]
 | p::l,i=>by simp[cS,a0b B x l,Nat.add_assoc,Nat.add_comm 1]
theorem a0c (B:List UInt8) (x:Pt):∀ (l:List Pt) (i k:Nat),cS B i (l.set k x)=(cS B i l).set k (lT B (i+k) x)
 | [],i,k=>by simp[cS]
 | p::l,i,0=>by simp[cS]
 | p::l,i,k+1=>by simp[cS,a0c B x l,Nat.add_assoc,Nat.add_comm 1]
theorem jZ (B:List UInt8):∀ (l:List Pt) (i k:Nat) (h:k < l.length) (h':k < (cS B i l).length),(cS B i l)[k]=lT B (i+k) l[k]
 | p::l,i,0,h,h'=>by simp[cS]
 | p::l,i,k+1,h,h'=>by
  simp only[cS,List.getElem_cons_succ];rw[jZ B l (i+1) k (by simpa using h)];rw[show i+1+k=i+(k+1) by omega]
theorem b4q {b:Nat} {A:cR b} {l:List (cR b)} {w:World} {F:Nat→Prop} (h:cW (A::l) w F) (hA:∀ f,A.P w f→∀ x,¬ f x):cW l w F:=by
 obtain⟨a,c,d,g,j,i⟩:=Eng.cW.split (l:=[A]) (m:=l) h;have:=hA a (cC.1 d);have e:F=c:=by
  funext x;apply propext;rw[i];exact⟨fun q=>q.elim (fun q=>absurd q (this x)) id,.inr⟩
 rw[e];exact g
theorem pM {b:Nat} {l:List (cR b)} {w:World} {F:Nat→Prop} (h:cW (Eng.dZ::l) w F):cW l w F:=b4q h fun f h=>h
theorem yW {b:Nat} {p:Prop} {l:List (cR b)} {w:World} {F:Nat→Prop} (h:cW (Eng.dQ p::l) w F):p∧cW l w F:=by
 refine⟨?_,b4q h fun f h=>h.2⟩;obtain⟨c,a,d⟩:=h;exact(a.at_ 0 _ rfl).1
theorem d3v {b:Nat} {B:List UInt8} {i:Nat} {w:World} {F:Nat→Prop}:∀ {p:Pt},(qN b B p).P w F→uN (lT B i p)
 | none,_=>a3v
 | some q,h=>b4n (qM h)
theorem qO {b:Nat} {B:List UInt8} {w:World}:∀ {l:List Pt} {i:Nat} {F:Nat→Prop},cW (l.map (qN b B)) w F→jJ (cS B i l)
 | [],i,F,_=>fun r hr=>by cases hr
 | p::l,i,F,h=>fun r hr=>by
  obtain⟨F1,F2,h1,h2,h3,h4⟩:=Eng.cW.split (l:=[qN b B p]) (m:=l.map (qN b B)) h;rcases aG.1 hr with rfl|hr
  ·exact d3v (cC.1 h1)
  ·exact qO h2 r hr
section
variable {b : Nat} {w : World} {F : Nat → Prop}
theorem a9l {V:FV} {ν:Nat→Int} (h:(yV b V).P w F) (hy:∃ g,V.y = .pointer (some ⟨g,0,none⟩)) (hd:∃ g,V.d = .pointer (some ⟨g,0,none⟩)) (hl:∃ g,V.l = .pointer (some ⟨g,0,none⟩)) (hj:∃ g,V.j = .pointer (some ⟨g,0,none⟩)) (hr:∃ g,V.r = .pointer (some ⟨g,0,none⟩)) (ht:∃ g,V.t = .pointer (some ⟨g,0,none⟩)):(cY b ν Eng.a0h 9 Eng.vI [V.y,V.d,V.l,V.j,V.r,V.t,V.f,V.a]).P w F:=by
 letI:Eng.fP:=bQ b ν
 obtain⟨s,C,u,D,E,z⟩:=h;obtain⟨I,hy⟩:=hy;obtain⟨J,hd⟩:=hd;obtain⟨K,hl⟩:=hl;obtain⟨L,hj⟩:=hj;obtain⟨M,hr⟩:=hr;obtain⟨N,ht⟩:=ht
 let G:Eng.GM:=fun i=>match i with
  | 1=>some ⟨I,0,0,0,undef⟩
  | 2=>some ⟨J,0,0,0,undef⟩
  | 3=>some ⟨K,0,0,0,undef⟩
  | 4=>some ⟨L,0,0,0,undef⟩
  | 5=>some ⟨M,0,0,0,undef⟩
  | 6=>some ⟨N,0,0,0,undef⟩
  | 7=>some ⟨s,0,0,0,undef⟩
  | 8=>some ⟨0,0,0,0,V.a⟩
  | _=>none
 have v:Eng.dn G (.opq 8)=some V.a:=by
  show (bif V.a.oneCell' then some V.a else none)=_;rw[D];rfl
 have m:∀ i c,Eng.cK Eng.a0h i=some c→i=7∧c = .row 98 [.ptr 1 0,.ptr 5 0,.ptr 3 0,.ptr 4 0,.ptr 6 0,.opq 8]:=fun i c o=>by
  have o:(bif Nat.beq i 7 then some (Eng.cU.row 98 [.ptr 1 0,.ptr 5 0,.ptr 3 0,.ptr 4 0,.ptr 6 0,.opq 8]) else none)=some c:=o;cases A:Nat.beq i 7<;>rw[A] at o
  ·cases o
  ·cases o;exact⟨aC A,rfl⟩
 refine⟨G,⟨fun i c p O=>?_,fun i j c d x y p o hj Q B R he=>?_⟩,fun i p=>?_,?_,fun x B=>by rw[(z x).1 B];exact⟨E,u.lt⟩⟩
 ·obtain⟨rfl,rfl⟩:=m i c p;refine⟨⟨s,0,0,0,undef⟩,rfl,(z s).2 rfl,u.lt,[V.y,V.r,V.l,V.j,V.t,V.a],?_,u⟩;simp only[Eng.dG,v];rw[hy,hr,hl,hj,ht];rfl
 ·rw[(m i c p).1,(m j d hj).1]
 ·match i,p with
  | _+9,_=>rfl
 ·show Eng.dG G [.ptr 1 0,.ptr 2 0,.ptr 3 0,.ptr 4 0,.ptr 5 0,.ptr 6 0,.ptr 7 0,.opq 8]=_;simp only[Eng.dG,v];rw[hy,hd,hl,hj,hr,ht,C];rfl
theorem b9e {V:FV} {ν:Nat→Int} (h:(cY b ν Eng.a0h 9 Eng.vI [V.y,V.d,V.l,V.j,V.r,V.t,V.f,V.a]).P w F):∃ f,(yV b V).P w f∧∀ x,f x→F x:=by
 letI:Eng.fP:=bQ b ν
 obtain⟨G,u,N,c,v⟩:=h;obtain⟨x,A,o,O,B,p,C⟩:=u.bs 7 _ rfl trivial;obtain⟨Q,R,D,c,e⟩:=Eng.bS.1 c;cases e;obtain⟨S,T,U,c,e⟩:=Eng.bS.1 c;cases e;obtain⟨W,X,E,c,e⟩:=Eng.bS.1 c;cases e;obtain⟨Y,Z,I,c,e⟩:=Eng.bS.1 c;cases e;obtain⟨y5,r5,J,c,e⟩:=Eng.bS.1 c;cases e;obtain⟨y6,r6,K,c,e⟩:=Eng.bS.1 c;cases e;obtain⟨y7,r7,i,c,e⟩:=Eng.bS.1 c;cases e;obtain⟨y8,r8,s,c,e⟩:=Eng.bS.1 c;cases e;have m:B=[V.y,V.r,V.l,V.j,V.t,V.a]:=by
  have:Eng.dG G [.ptr 1 0,.ptr 5 0,.ptr 3 0,.ptr 4 0,.ptr 6 0,.opq 8]=some [V.y,V.r,V.l,V.j,V.t,V.a]:=by
   simp only[Eng.dG,D,J,E,I,K,s];rfl
  rw[this] at p;exact(aK p).symm
 subst m;have i:(G 7).map _=some V.f:=i;rw[A] at i;obtain⟨z,z1,L⟩:=aA.1 (show (G 8).bind Eng.GI.ov=some V.a from s);refine⟨fun y=>y=x.g,⟨x.g,(aK i).symm,C,Eng.c7i L,(v _ o).1,fun _=>Iff.rfl⟩,fun y M=>by rw[M];exact o⟩
end
theorem e9s {b:Nat} {B:List UInt8} {ino:Nat} (h1:1≤ino∧ino≤12) (h2:1≤B.length∧B.length≤110):@Eng.BD (bQ b (jQ B ino)) Eng.bdW:=by
 intro i p h
 match i with
 | 0=>cases h;exact⟨by show (1:Int)≤(ino:Int);omega,by show (ino:Int)≤12;omega⟩
 | 1=>cases h;exact⟨by show (0:Int)≤0;omega,by show (0:Int)≤0;omega⟩
 | 2=>cases h;exact e3x B ino
 | 3=>cases h;exact e3y B ino
 | 4=>cases h;exact⟨by show (0:Int)≤0;omega,by show (0:Int)≤0;omega⟩
 | 5=>cases h;exact⟨by show (0:Int)≤0;omega,by show (0:Int)≤0;omega⟩
 | 6=>cases h;exact⟨by show (1:Int)≤(B.length:Int);omega,by show (B.length:Int)≤110;omega⟩
 | _+7=>cases h
section
variable {w0 w : World} {F : Nat → Prop} {V : FV} {fl : FL} {n0 N K : Nat} {B : List UInt8} {pts : List Pt}
theorem sF {m:Nat} {rows:List (List Value)} (h:cW [kY w0 V.y fl n0,lO w0 V.d V.l V.j m N K,cD _ V.r,eU _ V.t rows] w F):(∃ g,V.y = .pointer (some ⟨g,0,none⟩))∧(∃ g,V.d = .pointer (some ⟨g,0,none⟩))∧(∃ g,V.l = .pointer (some ⟨g,0,none⟩))∧(∃ g,V.j = .pointer (some ⟨g,0,none⟩))∧(∃ g,V.r = .pointer (some ⟨g,0,none⟩))∧∃ g,V.t = .pointer (some ⟨g,0,none⟩):=by
 obtain⟨I,J,L,M,⟨G,⟨a,O,b,_⟩,_⟩,⟨P,_,Q,⟨c,f,i,_,_,_,_,_,o,p,s,_⟩,_⟩,u,⟨z,R,S,A,T⟩,_,_⟩:=rZ h;obtain⟨B,_,_,C,_⟩:=yT u;obtain⟨v,r,D,U,e⟩:=(@Eng.bS (bQ w0.heap.size fQ) _ _ _ _).1 A;cases e;obtain⟨x,_,E⟩:=aB.1 (show (z 1).map _=some V.t from D);exact⟨⟨a,b⟩,⟨c,o⟩,⟨f,p⟩,⟨i,s⟩,⟨B,C⟩,⟨x.g,E.symm⟩⟩
theorem c6f {b:Nat} {ν:Nat→Int} {G:Eng.GM} {l m:List Eng.AV} {x y:List Value} (h:@Eng.dG (bQ b ν) G (l++m)=some (x++y)) (hl:x.length=l.length):@Eng.dG (bQ b ν) G l=some x∧@Eng.dG (bQ b ν) G m=some y:=by
 obtain⟨f,g,a,c,d⟩:=(@Eng.eL (bQ b ν) _ _ _ _).1 h;have:=@Eng.dM (bQ b ν) _ _ _ a;obtain⟨rfl,rfl⟩:=List.append_inj d (by omega);exact⟨a,c⟩
theorem yX {b:Nat} {ν:Nat→Int} {G:Eng.GM} {V:FV} {l:List Eng.AV} {r:List Value} (h:@Eng.dG (bQ b ν) G (Eng.vI++l)=some ([V.y,V.d,V.l,V.j,V.r,V.t,V.f,V.a]++r)):@Eng.dG (bQ b ν) G Eng.as6=some [V.y,V.d,V.l,V.j,V.r,V.t]∧@Eng.dn (bQ b ν) G (.ptr 7 0)=some V.f∧@Eng.dG (bQ b ν) G Eng.vI=some [V.y,V.d,V.l,V.j,V.r,V.t,V.f,V.a]∧@Eng.dG (bQ b ν) G l=some r:=by
 obtain⟨i,o⟩:=c6f h (by rfl);refine⟨?_,?_,i,o⟩
 ·obtain⟨x,y,c,m,g⟩:=(@Eng.eL (bQ b ν) G Eng.as6 [.ptr 7 0,.opq 8] _).1 i;have:=@Eng.dM (bQ b ν) _ _ _ c
  match x,this,c,g with
  | [x0,x1,x2,x3,x4,x5],_,c,g=>cases g;exact c
 ·obtain⟨x,y,c,m,g⟩:=(@Eng.eL (bQ b ν) G Eng.as6 [.ptr 7 0,.opq 8] _).1 i;have:=@Eng.dM (bQ b ν) _ _ _ c
  match x,this,c,g with
  | [x0,x1,x2,x3,x4,x5],_,c,g=>cases g;exact(b5y m).1
end
theorem vN {b:Nat} {l:List (cR b)} {p:Prop} {w:World} {f:Nat→Prop} (hp:p) (h:cW l w f):cW (Eng.dQ p::l) w f:=Eng.cW.join (l:=[Eng.dQ p]) (F1:=fun _=>False) (F2:=f) (Eng.cW.one.2 ⟨hp,fun _ q=>q⟩) h (fun _ q=>q.elim) (fun x=>⟨.inr,fun q=>q.elim False.elim id⟩)
section
variable {w0 w : World} {F : Nat → Prop} {V : FV} {fl : FL} {n0 N K : Nat} {B : List UInt8} {pts : List Pt}
theorem iK (h:cW (eI w0 V fl n0 N K B pts) w F):∃ F1 F2 F3,cW [kY w0 V.y fl n0,lO w0 V.d V.l V.j pts.length N K,cD _ V.r,eU _ V.t (cS B 0 pts)] w F1∧(yV w0.heap.size V).P w F2∧cW (pts.map (qN w0.heap.size B)) w F3∧(∀ x,F1 x→¬ F2 x)∧(∀ x,F1 x→¬ F3 x)∧(∀ x,F2 x→¬ F3 x)∧∀ x,F x↔F1 x∨F2 x∨F3 x:=by
 obtain⟨F1,R,c,f,b,g⟩:=Eng.cW.split (l:=[_,_,_,_]) h;obtain⟨F2,F3,i,m,o,a⟩:=Eng.cW.split (l:=[yV w0.heap.size V]) f;exact⟨F1,F2,F3,c,cC.1 i,m,fun x p q=>b x p ((a x).2 (.inl q)),fun x p q=>b x p ((a x).2 (.inr q)),o,fun x=>by rw[g,a]⟩
theorem yY {n m:Nat} {F1 F2 F3:Nat→Prop} (hm:m=pts.length) (h1:cW [kY w0 V.y fl n0,lO w0 V.d V.l V.j m N K,cD _ V.r,eU _ V.t (cS B 0 pts)] w F1) (h2:(yV w0.heap.size V).P w F2) (h3:cW (pts.map (qN w0.heap.size B)) w F3) (d1:∀ x,F1 x→¬ F2 x) (d2:∀ x,F1 x→¬ F3 x) (d3:∀ x,F2 x→¬ F3 x):cW (eI w0 V fl n0 N K B pts) w fun x=>F1 x∨F2 x∨F3 x:=by
 subst hm;exact Eng.cW.join (F2:=fun x=>F2 x∨F3 x) h1 (Eng.cW.join (l:=[yV w0.heap.size V]) (cC.2 h2) h3 d3 (fun _=>Iff.rfl)) (fun x p q=>q.elim (d1 x p) (d2 x p)) (fun _=>Iff.rfl)
theorem a6m {b:Nat} {i:Nat} {G:Eng.GM} {nm:ByteArray} (h7:@Eng.dn (bQ b (jQ B i)) G (.ptr 7 0)=some V.f) (h9:@Eng.dn (bQ b (jQ B i)) G (.opq 9)=some (.string nm)):@Eng.uS (bQ b (jQ B i)) G [.ptr 7 0,Eng.d0u] [V.f,.agg #[.int .i64 ((i:Nat):Int),.string nm,.int .i64 (B.length:Int)]]:=by
 refine⟨@Eng.cZ (bQ b _) _ _ _ h7,?_,trivial⟩;have a:@Eng.dn (bQ b (jQ B i)) G (Eng.lw 0)=some (.int .i64 ((i:Nat):Int)):=by
  show some (Value.int .i64 (0+(1*((i:Nat):Int)+0)))=_;rw[show (0+(1*((i:Nat):Int)+0))=((i:Nat):Int) by omega]
 have c:@Eng.dn (bQ b (jQ B i)) G (Eng.lw 6)=some (.int .i64 (B.length:Int)):=by
  show some (Value.int .i64 (0+(1*(B.length:Int)+0)))=_;rw[show (0+(1*(B.length:Int)+0))=(B.length:Int) by omega]
 show Option.map (fun d=>Value.agg d.toArray) (@Eng.dG (bQ b (jQ B i)) G [Eng.lw 0,.opq 9,Eng.lw 6])=_;simp only[Eng.dG,a,c,h9];rfl
theorem d3w (h:cW (eI w0 V fl n0 N K B pts) w F) (hb:w0.heap.size≤w.heap.size) (hp:pts.length≤8) (hin:cB fA fl ((pts.length+1:Nat):Int)=true) (hcont:(bT fl (below fA fl ((pts.length+1:Nat):Int))).2.2=B) (hn0:n0≤900) (hBl:1≤B.length∧B.length≤110) (hK:K≤3800) (hN:N≤238000) (nm:ByteArray) :
  Calls Tryz.prog 69 #[V.f,.agg #[.int .i64 ((pts.length+1:Nat):Int),.string nm,.int .i64 (B.length:Int)]] w fun e w'=>e = .returned (.int .i64 0)∧∃ q F',cW (eI w0 V fl (n0+1+1) (N+23000+938) (K+110+1) B (pts++[some q])) w' F'∧cJ F w w'∧tF F w F':=by
 obtain⟨F1,F2,F3,p1,p2,U,W,L,M,hF⟩:=iK h;obtain⟨vy,vd,vl,vj,vr,vt⟩:=sF p1;have D:=qO (i:=0) U;have b:(cS B 0 pts).length=pts.length:=fW B pts 0;have e1:=tJ (ds:=[.string nm]) (a9l (ν:=jQ B (pts.length+1)) p2 vy vd vl vj vr vt) (fun u hu=>by rw[List.mem_singleton.1 hu];rfl);have E:cW (@sE w0 n0 N K (cS B 0 pts) fl B 0 [V.y,V.d,V.l,V.j,V.r,V.t]++[cY w0.heap.size (jQ B (pts.length+1)) Eng.a0h 10 (Eng.vI++[.opq 9]) ([V.y,V.d,V.l,V.j,V.r,V.t,V.f,V.a]++[.string nm])]) w fun x=>F1 x∨F2 x:=by
  refine Eng.cW.join (F1:=F1) ?_ (cC.2 e1) W (fun _=>Iff.rfl);refine vN rfl ?_;have:=jY 5 p1;rw[← b] at this;exact this
 have I:@Eng.BD (bQ w0.heap.size (jQ B (pts.length+1))) Eng.bdW:=e9s ⟨by omega,by omega⟩ hBl;have J:=d3s (w0:=w0) (n0:=n0) (N:=N) (K:=K) (rows:=cS B 0 pts) (fl:=fl) (B:=B) (by omega) D (by rw[b];exact hin) (by rw[b];exact hcont) hn0 hBl.2 hK hN;rw[b] at J;have hE:@Eng.sL (Eng.cA w0.heap.size (jQ B (pts.length+1)) (@sE w0 n0 N K (cS B 0 pts) fl B)) Tryz.prog (Eng.oL Eng.bdW (Eng.hks Eng.bdW Eng.c1n)):=@Eng.kE (Eng.cA w0.heap.size (jQ B (pts.length+1)) (@sE w0 n0 N K (cS B 0 pts) fl B)) Eng.bdW I _ (Eng.lG I J);refine(Eng.iT (us:=[V.f,.agg #[.int .i64 ((pts.length+1:Nat):Int),.string nm,.int .i64 (B.length:Int)]]) hE Eng.d6p (by omega) rfl hb E (fun G hG=>?_)).mono ?_
 ·obtain⟨X,g2,g3,g4⟩:=yX hG;exact⟨X,a6m g2 (rL g4)⟩
 ·rintro e w' ⟨u,Y,G,rfl,R,k2,-,k4,k5,G0,k6,k7⟩;obtain⟨X,g2,g3,g4⟩:=yX (@Eng.cT (bQ w0.heap.size _) _ _ k6 _ _ k7);obtain⟨s,v,z,A,rfl⟩:∃ s v z A,Y=[s,v,z,A,V.y,V.d,V.l,V.j,V.r,V.t]:=by
   obtain⟨x,y,q1,q2,Z⟩:=(@Eng.eL (bQ w0.heap.size (jQ B (pts.length+1))) G [.opq 22,.opq 23,.opq 24,.opq 25] Eng.as6 _).1 k2;rw[X] at q2;cases q2;have:=@Eng.dM (bQ w0.heap.size (jQ B (pts.length+1))) _ _ _ q1
   match x,this,Z with
   | [s,v,z,A],_,Z=>exact⟨s,v,z,A,Z⟩
  have R:some (Value.int .i64 0)=some u:=R;cases R;obtain⟨F',b1,O⟩:=k4 [[V.y,V.d,V.l,V.j,V.r,V.t,V.f,V.a]] ⟨g3,trivial⟩;obtain⟨Z1,Z2,c1,c2,c3,C⟩:=Eng.cW.split (l:=@sE w0 n0 N K (cS B 0 pts) fl B 13 [s,v,z,A,V.y,V.d,V.l,V.j,V.r,V.t]) b1;obtain⟨f2,t1,P⟩:=b9e (cC.1 c2);obtain⟨-,c1⟩:=yW c1;obtain⟨D1,D2,s1,S,s3,Q⟩:=Eng.cW.split (l:=[_,_,_,_]) (m:=[_,_,_,_,_]) c1;have S:=pM (pM S);obtain⟨D3,D4,s5,-,-,s6⟩:=Eng.cW.split (l:=[_]) (m:=[_,_]) S;have T:=U.up k5 (fun x p q=>q.elim (fun q=>L x q p) fun q=>M x q p) (fun x q=>q.elim (fun q=>(p1.lt x q).1) fun q=>((yV _ V).lt p2 x q).1);have c:∀ x,F1 x∨F2 x→F x:=fun x q=>(hF x).2 (q.elim .inl fun q => .inr (.inl q))
  have g:∀ x,F' x→¬ F3 x:=fun x p q=>by
   rcases O x p with(r|r)|r
   ·exact L x r q
   ·exact M x r q
   ·have:=(U.lt x q).2;omega
  have o:∀ x,D3 x→Z1 x:=fun x q=>(Q x).2 (.inr ((s6 x).2 (.inl q)))
  refine⟨rfl,(s,v,z,A),_,yY (n:=0) (m:=(cS B 0 pts).length+1) (F1:=D1) (F2:=f2) (F3:=fun x=>F3 x∨D3 x) (by rw[b];simp) ?_ t1 ?_ (fun x p q=>c3 x ((Q x).2 (.inl p)) (P x q)) (fun x p q=>?_) (fun x p q=>?_),jP k5 c,fun x hx=>?_⟩
  ·rw[a0b,aM];rw[b] at s1 ⊢;exact s1
  ·rw[List.map_append];exact Eng.cW.join T (cC.2 (cC.1 s5)) (fun x p q=>g x ((C x).2 (.inl (o x q))) p) (fun _=>Iff.rfl)
  ·rcases q with q|q
   ·exact g x ((C x).2 (.inl ((Q x).2 (.inl p)))) q
   ·exact s3 x p ((s6 x).2 (.inl q))
  ·rcases q with q|q
   ·exact g x ((C x).2 (.inr (P x p))) q
   ·exact c3 x (o x q) (P x p)
  ·rcases hx with q|q|q|q
   ·exact(O x ((C x).2 (.inl ((Q x).2 (.inl q))))).imp (c x) id
   ·exact(O x ((C x).2 (.inr (P x q)))).imp (c x) id
   ·exact .inl ((hF x).2 (.inr (.inr q)))
   ·exact(O x ((C x).2 (.inl (o x q)))).imp (c x) id
theorem yZ {i:Nat} (hi:i < pts.length):pts.map (qN w0.heap.size B)=(pts.take i).map (qN _ B)++qN _ B pts[i]::(pts.drop (i+1)).map (qN _ B):=by
 conv=>lhs;rw[← List.take_append_drop i pts,List.drop_eq_getElem_cons hi,List.map_append,List.map_cons]
theorem d3x {i:Nat} (hi:i < pts.length) {q:Q4} (hq:pts[i]=some q) (h:cW (eI w0 V fl n0 N K B pts) w F) (hb:w0.heap.size≤w.heap.size) (hp:pts.length≤9) (hin:cB fA fl ((i+1:Nat):Int)=true) (hcont:(bT fl (below fA fl ((i+1:Nat):Int))).2.2=B) (hn0:n0≤900) (hBl:1≤B.length∧B.length≤110) (hK:K≤3800) (hN:N≤238000) (nm:ByteArray) :
  Calls Tryz.prog 69 #[V.f,.agg #[.int .i64 ((i+1:Nat):Int),.string nm,.int .i64 (B.length:Int)]] w fun e w'=>e = .returned (.int .i64 0)∧∃ F',cW (eI w0 V fl (n0+1+1) N K B pts) w' F'∧cJ F w w'∧tF F w F':=by
 obtain⟨F1,F2,F3,p1,p2,p3,a0,s,v,hF⟩:=iK h;obtain⟨vy,vd,vl,vj,vr,vt⟩:=sF p1;have C:=qO (i:=0) p3;have a2:(cS B 0 pts).length=pts.length:=fW B pts 0;obtain⟨lv,pv,hd,ls⟩:=q;have D:=p3;rw[yZ hi] at D;obtain⟨F4,M,x1,x2,x3,g⟩:=a9h D;rw[hq] at x2;have x2:(mD w0.heap.size B.length lv pv hd ls).P w M:=x2;obtain⟨o1,o2,o3,o4⟩:=qM x2;have e1:=tJ (ds:=[.string nm,lv,pv,hd,ls]) (a9l (ν:=jQ B (i+1)) p2 vy vd vl vj vr vt) (fun u hu=>by
  simp only[aG,bF,or_false] at hu;rcases hu with rfl|rfl|rfl|rfl|rfl<;>first|rfl|exact o1|exact o2|exact o3|exact o4)
 have E:cW (@yU w0 n0 pts.length N K (cS B 0 pts) fl B i lv pv hd ls 0 [lv,pv,hd,ls,V.y,V.d,V.l,V.j,V.r,V.t]++[cY w0.heap.size (jQ B (i+1)) Eng.a0h 14 (Eng.vI++[.opq 9,.opq 10,.opq 11,.opq 12,.opq 13]) ([V.y,V.d,V.l,V.j,V.r,V.t,V.f,V.a]++[.string nm,lv,pv,hd,ls])]) w fun x=>(F1 x∨M x)∨F2 x:=by
  refine Eng.cW.join (F1:=fun x=>F1 x∨M x) ?_ (cC.2 e1) (fun x p q=>p.elim (fun p=>a0 x p q) fun p=>v x q ((g x).2 (.inr p))) (fun _=>Iff.rfl);refine vN rfl ?_;have h6:=jY 2 p1;have h7:=Eng.cW.join (F1:=F1) (F2:=M) h6 (cC.2 x2) (fun x p q=>s x p ((g x).2 (.inr q))) (fun _=>Iff.rfl);exact sD (jY 2 h7) (by exact⟨rfl,rfl,rfl,rfl⟩)
 have I:@Eng.BD (bQ w0.heap.size (jQ B (i+1))) Eng.bdW:=e9s ⟨by omega,by omega⟩ hBl;have J:i < (cS B 0 pts).length:=by omega
 have T:=d3t (w0:=w0) (n0:=n0) (m:=pts.length) (N:=N) (K:=K) (rows:=cS B 0 pts) (fl:=fl) (B:=B) (i:=i) (lv:=lv) (pv:=pv) (hd:=hd) (ls:=ls) J (by omega) C (by rw[jZ B pts 0 i hi J,hq,aM];rfl) hin hcont hn0 hBl.2 hK hN;have hE:@Eng.sL (Eng.cA w0.heap.size (jQ B (i+1)) (@yU w0 n0 pts.length N K (cS B 0 pts) fl B i lv pv hd ls)) Tryz.prog (Eng.oL Eng.bdW (Eng.hks Eng.bdW Eng.c1o)):=@Eng.kE (Eng.cA w0.heap.size (jQ B (i+1)) (@yU w0 n0 pts.length N K (cS B 0 pts) fl B i lv pv hd ls)) Eng.bdW I _ (Eng.lG I T);refine(Eng.iT (us:=[V.f,.agg #[.int .i64 ((i+1:Nat):Int),.string nm,.int .i64 (B.length:Int)]]) hE Eng.d6q (by omega) rfl hb E (fun G hG=>?_)).mono ?_
 ·obtain⟨g1,g2,g3,g4⟩:=yX hG;obtain⟨u,r,h9,z,e⟩:=(@Eng.bS (bQ w0.heap.size (jQ B (i+1))) _ _ _ _).1 g4;cases e;exact⟨(@Eng.eL (bQ w0.heap.size (jQ B (i+1))) G [.opq 10,.opq 11,.opq 12,.opq 13] Eng.as6 _).2 ⟨_,_,z,g1,rfl⟩,a6m g2 h9⟩
 ·rintro e w' ⟨u,a1,G,rfl,W,O,-,k4,k5,G0,k6,k7⟩;obtain⟨g1,g2,g3,g4⟩:=yX (@Eng.cT (bQ w0.heap.size _) _ _ k6 _ _ k7);obtain⟨u9,r,h9,z,e⟩:=(@Eng.bS (bQ w0.heap.size (jQ B (i+1))) _ _ _ _).1 g4;cases e;have U:=(@Eng.eL (bQ w0.heap.size (jQ B (i+1))) G [.opq 10,.opq 11,.opq 12,.opq 13] Eng.as6 _).2 ⟨_,_,z,g1,rfl⟩;have O:@Eng.dG (bQ w0.heap.size (jQ B (i+1))) G ([.opq 10,.opq 11,.opq 12,.opq 13]++Eng.as6)=some a1:=O;rw[U] at O;cases O;have W:some (Value.int .i64 0)=some u:=W;cases W;obtain⟨F',b1,Q⟩:=k4 [[V.y,V.d,V.l,V.j,V.r,V.t,V.f,V.a]] ⟨g3,trivial⟩;obtain⟨Z1,Z2,c1,c2,c3,A⟩:=Eng.cW.split (l:=@yU w0 n0 pts.length N K (cS B 0 pts) fl B i lv pv hd ls 9 [lv,pv,hd,ls,V.y,V.d,V.l,V.j,V.r,V.t]) b1;obtain⟨f2,t1,R⟩:=b9e (cC.1 c2);obtain⟨-,c1⟩:=yW c1;obtain⟨D1,D2,s1,Y,s3,S⟩:=Eng.cW.split (l:=[_,_,_,_]) (m:=[_,_,_,_,_,_]) c1;have Y:=pM (pM Y);obtain⟨D3,D4,s5,-,-,s6⟩:=Eng.cW.split (l:=[_]) (m:=[_,_,_]) Y;have b:∀ x,(F1 x∨M x)∨F2 x→F x:=fun x q=>(hF x).2 (q.elim (fun q=>q.elim .inl fun q => .inr (.inr ((g x).2 (.inr q)))) fun q => .inr (.inl q))
  have Z:=x1.up k5 (fun x p q=>by
   rcases q with(q|q)|q
   ·exact s x q ((g x).2 (.inl p))
   ·exact x3 x q p
   ·exact v x q ((g x).2 (.inl p))) (fun x q=>by
   rcases q with(q|q)|q
   ·exact(p1.lt x q).1
   ·exact((mD _ _ _ _ _ _).lt x2 x q).1
   ·exact((yV _ V).lt p2 x q).1)
  have c:∀ x,F' x→¬ F4 x:=fun x p q=>by
   rcases Q x p with((r|r)|r)|r
   ·exact s x r ((g x).2 (.inl q))
   ·exact x3 x r q
   ·exact v x r ((g x).2 (.inl q))
   ·have:=(p3.lt x ((g x).2 (.inl q))).2;omega
  have o:∀ x,D3 x→Z1 x:=fun x q=>(S x).2 (.inr ((s6 x).2 (.inl q)))
  have L:=d3k Z (X:=qN w0.heap.size B pts[i]) (f:=D3) (by rw[hq];exact cC.1 s5) (fun x p q=>c x ((A x).2 (.inl (o x p))) q);rw[← yZ hi] at L;refine⟨rfl,_,yY (n:=0) (m:=pts.length) (F1:=D1) (F2:=f2) (F3:=fun x=>F4 x∨D3 x) rfl s1 t1 L (fun x p q=>c3 x ((S x).2 (.inl p)) (R x q)) (fun x p q=>?_) (fun x p q=>?_),jP k5 b,fun x hx=>?_⟩
  ·rcases q with q|q
   ·exact c x ((A x).2 (.inl ((S x).2 (.inl p)))) q
   ·exact s3 x p ((s6 x).2 (.inl q))
  ·rcases q with q|q
   ·exact c x ((A x).2 (.inr (R x p))) q
   ·exact c3 x (o x q) (R x p)
  ·rcases hx with q|q|q|q
   ·exact(Q x ((A x).2 (.inl ((S x).2 (.inl q))))).imp (b x) id
   ·exact(Q x ((A x).2 (.inr (R x q)))).imp (b x) id
   ·exact .inl ((hF x).2 (.inr (.inr ((g x).2 (.inl q)))))
   ·exact(Q x ((A x).2 (.inl (o x q)))).imp (b x) id
theorem c6g {i:Nat} (hi:i < pts.length) (h:cW (eI w0 V fl n0 N K B pts) w F) (hb:w0.heap.size≤w.heap.size) (hp:pts.length≤8) (hK:K≤3800) (hN:N≤238000) :
  Calls Tryz.prog 68 #[V.f,.agg (iN ((i+1:Nat):Int)).toArray] w fun e w'=>e = .returned (.int .i64 0)∧∃ F',cW (eI w0 V fl n0 (N+938) (K+1) B (pts.set i none)) w' F'∧cJ F w w'∧tF F w F':=by
 obtain⟨F1,F2,F3,p1,p2,p3,z,A,P,hF⟩:=iK h;obtain⟨vy,vd,vl,vj,vr,vt⟩:=sF p1;have D:=qO (i:=0) p3;have a6:(cS B 0 pts).length=pts.length:=fW B pts 0;have E:=p3;rw[yZ hi] at E;obtain⟨F4,F5,x1,x2,x3,C⟩:=a9h E;have T:(pts.set i none).map (qN w0.heap.size B)=(pts.take i).map (qN _ B)++Eng.dZ::(pts.drop (i+1)).map (qN _ B):=by
  rw[List.set_eq_take_append_cons_drop,if_pos hi,List.map_append,List.map_cons];rfl
 obtain⟨D0,o,a1,a2,a3,g⟩:=Eng.cW.split (l:=[kY w0 V.y fl n0]) (m:=[_,_,_]) p1;have e1:=a9l (ν:=jQ [] (i+1)) p2 vy vd vl vj vr vt;have I:cW (@b9d w0 pts.length N K (cS B 0 pts) i 0 [V.y,V.d,V.l,V.j,V.r,V.t]++[cY w0.heap.size (jQ [] (i+1)) Eng.a0h 9 Eng.vI [V.y,V.d,V.l,V.j,V.r,V.t,V.f,V.a]]) w fun x=>o x∨F2 x:=by
  refine Eng.cW.join (F1:=o) ?_ (cC.2 e1) (fun x p q=>z x ((g x).2 (.inr p)) q) (fun _=>Iff.rfl);exact vN rfl (b4o (jY 5 a2))
 have J:@Eng.BD (bQ w0.heap.size (jQ [] (i+1))) [(1,12),(0,0),(0,16),(0,4294967295),(0,0),(0,0),(0,110)]:=by
  intro k p s
  match k with
  | 0=>cases s;exact⟨by show (1:Int)≤((i+1:Nat):Int);omega,by show ((i+1:Nat):Int)≤12;omega⟩
  | 1=>cases s;exact⟨by show (0:Int)≤0;omega,by show (0:Int)≤0;omega⟩
  | 2=>cases s;exact e3x [] (i+1)
  | 3=>cases s;exact e3y [] (i+1)
  | 4=>cases s;exact⟨by show (0:Int)≤0;omega,by show (0:Int)≤0;omega⟩
  | 5=>cases s;exact⟨by show (0:Int)≤0;omega,by show (0:Int)≤0;omega⟩
  | 6=>cases s;exact⟨by show (0:Int)≤0;omega,by show (0:Int)≤110;omega⟩
  | _+7=>cases s
 have U:=d3u (w0:=w0) (m:=pts.length) (N:=N) (K:=K) (rows:=cS B 0 pts) (i:=i) (by omega) (by omega) D hK hN;have hE:@Eng.sL (Eng.cA w0.heap.size (jQ [] (i+1)) (@b9d w0 pts.length N K (cS B 0 pts) i)) Tryz.prog (Eng.oL Eng.bdK (Eng.hks Eng.bdK Eng.c1p)):=@Eng.kE (Eng.cA w0.heap.size (jQ [] (i+1)) (@b9d w0 pts.length N K (cS B 0 pts) i)) Eng.bdK J _ (Eng.lG J U);refine(Eng.iT (us:=[V.f,.agg (iN ((i+1:Nat):Int)).toArray]) hE Eng.d6r (by omega) rfl hb I (fun G W=>?_)).mono ?_
 ·have W:@Eng.dG (bQ w0.heap.size (jQ [] (i+1))) G (Eng.vI++[])=some ([V.y,V.d,V.l,V.j,V.r,V.t,V.f,V.a]++[]):=W;obtain⟨g1,g2,g3,g4⟩:=yX W;refine⟨g1,@Eng.cZ (bQ w0.heap.size _) _ _ _ g2,?_,trivial⟩;have e0:@Eng.dn (bQ w0.heap.size (jQ [] (i+1))) G (Eng.lw 0)=some (.int .i64 ((i+1:Nat):Int)):=by
   show some (Value.int .i64 (0+(1*((i+1:Nat):Int)+0)))=_;rw[show (0+(1*((i+1:Nat):Int)+0))=((i+1:Nat):Int) by omega]
  show Option.map (fun us=>Value.agg us.toArray) (@Eng.dG (bQ w0.heap.size (jQ [] (i+1))) G [.bool false,Eng.lw 0,Eng.n6 1,Eng.n6 0,.int .u32 0,Eng.n6 0,Eng.n6 0,.bool false,.bool false,Eng.n6 0,Eng.n6 0,.nils,.nils,Eng.n6 0,.nils,.nils,Eng.n6 0,.nils,.nils,Eng.n6 0,.nils])=_;simp only[Eng.dG,e0];rfl
 ·rintro e w' ⟨u,a5,G,rfl,Y,Q,-,k4,k5,G0,k6,X⟩;have X:@Eng.dG (bQ w0.heap.size (jQ [] (i+1))) G0 (Eng.vI++[])=some ([V.y,V.d,V.l,V.j,V.r,V.t,V.f,V.a]++[]):=X;obtain⟨g1,g2,g3,g4⟩:=yX (@Eng.cT (bQ w0.heap.size _) _ _ k6 _ _ X);have Q:@Eng.dG (bQ w0.heap.size (jQ [] (i+1))) G Eng.as6=some a5:=Q;rw[g1] at Q;cases Q;have Y:some (Value.int .i64 0)=some u:=Y;cases Y;obtain⟨F',b1,b2⟩:=k4 [[V.y,V.d,V.l,V.j,V.r,V.t,V.f,V.a]] ⟨g3,trivial⟩;obtain⟨Z1,Z2,L,c2,c3,R⟩:=Eng.cW.split (l:=@b9d w0 pts.length N K (cS B 0 pts) i 3 [V.y,V.d,V.l,V.j,V.r,V.t]) b1;obtain⟨f2,t1,S⟩:=b9e (cC.1 c2);obtain⟨-,L⟩:=yW L;have L:=pM L;obtain⟨D1,D2,s1,s2,s3,s4⟩:=Eng.cW.split (l:=[_,_,_]) (m:=[_,_,_,_,_]) L;have c:∀ x,o x∨F2 x→F x:=fun x q=>(hF x).2 (q.elim (fun q => .inl ((g x).2 (.inr q))) fun q => .inr (.inl q))
  have M:∀ x,o x∨F2 x→w0.heap.size≤x:=fun x q=>q.elim (fun q=>(p1.lt x ((g x).2 (.inr q))).1) fun q=>((yV _ V).lt p2 x q).1
  have Z:=x1.up k5 (fun x p q=>by
   rcases q with q|q
   ·exact A x ((g x).2 (.inr q)) ((C x).2 (.inl p))
   ·exact P x q ((C x).2 (.inl p))) M
  have a0:=a1.up k5 (fun x p q=>by
   rcases q with q|q
   ·exact a3 x p q
   ·exact z x ((g x).2 (.inl p)) q) M
  have b:∀ x,F' x→¬ F4 x∧¬ D0 x:=fun x p=>by
   rcases b2 x p with(r|r)|r
   ·exact⟨fun q=>A x ((g x).2 (.inr r)) ((C x).2 (.inl q)),fun q=>a3 x q r⟩
   ·exact⟨fun q=>P x r ((C x).2 (.inl q)),fun q=>z x ((g x).2 (.inl q)) r⟩
   ·exact⟨fun q=>by have:=(p3.lt x ((C x).2 (.inl q))).2;omega,fun q=>by have:=(p1.lt x ((g x).2 (.inl q))).2;omega⟩
  have v:∀ x,D1 x→F' x:=fun x q=>(R x).2 (.inl ((s4 x).2 (.inl q)))
  have O:cS B 0 (pts.set i none)=(cS B 0 pts).set i (iN ((i+1:Nat):Int)):=by rw[a0c,aM];rfl
  refine⟨rfl,_,yY (n:=0) (m:=pts.length) (F1:=fun x=>D0 x∨D1 x) (F2:=f2) (F3:=F4) (by simp) ?_ t1 (by rw[T];exact Z) (fun x p q=>?_) (fun x p q=>?_) (fun x p q=>(b x ((R x).2 (.inr (S x p)))).1 q),jP k5 c,fun x hx=>?_⟩
  ·rw[O];exact Eng.cW.join (l:=[_]) (m:=[_,_,_]) a0 s1 (fun x p q=>(b x (v x q)).2 p) (fun _=>Iff.rfl)
  ·rcases p with p|p
   ·exact(b x ((R x).2 (.inr (S x q)))).2 p
   ·exact c3 x ((s4 x).2 (.inl p)) (S x q)
  ·rcases p with p|p
   ·exact A x ((g x).2 (.inl p)) ((C x).2 (.inl q))
   ·exact(b x (v x p)).1 q
  ·rcases hx with(q|q)|q|q
   ·exact .inl ((hF x).2 (.inl ((g x).2 (.inl q))))
   ·exact(b2 x (v x q)).imp (c x) id
   ·exact(b2 x ((R x).2 (.inr (S x q)))).imp (c x) id
   ·exact .inl ((hF x).2 (.inr (.inr ((C x).2 (.inl q)))))
end
end Go.Proofs.YthgnlfikneipiaaGreat
