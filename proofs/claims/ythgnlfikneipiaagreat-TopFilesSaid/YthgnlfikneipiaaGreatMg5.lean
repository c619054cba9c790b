/- Texts of the proof, joined. -/
import Derived.Test.YthgnlfikneipiaaGreatMg4
import Derived.Lib.AppendZerosOnto
import Derived.Lib.Overlaps
import Derived.Deep.RegionLaw
import Derived.Test.YthgnlfikneipiaaGreatMg1
import Derived.Test.YthgnlfikneipiaaGreatRows
import Derived.ArgAppend
import Derived.Deep.RegionHeld3
import Derived.StillTailTactics
set_option linter.unusedSimpArgs false
set_option linter.unusedVariables false
set_option linter.unusedSectionVars false
set_option maxRecDepth 100000
set_option maxHeartbeats 4000000
namespace Go.Proofs.YthgnlfikneipiaaGreat
open Go.RowKit
open Go.Eng (cR cJ cY bQ Xk EB)
inductive Md where
 | S
 | H (q:Nat)
 | D (q e:Nat)
def Md.q:Md→Nat
 | .S=>0
 | .H q=>q
 | .D q _=>q
def Md.e:Md→Nat
 | .D _ e=>e
 | _=>0
def Md.ok (pl:Nat):Md→Prop
 | .S=>True
 | .H q=>q < pl∧pl≤q+4
 | .D q e=>q < e∧e≤q+4∧e≤pl
def c4f:Md→Xk→Prop
 | .S,.S0 | .S,.S1 | .S,.S2 | .H _,.H | .H _,.H2 | .D _ _,.D | .D _ _,.D2 | .D _ _,.D3=>True
 | _,_=>False
def Md.step (md:Md) (pl:Nat) (r:Int):Md :=
 match md with
 | .S=>if r=120 then .H pl else .S
 | .H q => .D q pl
 | .D q e => .D q e
def iD (pl q e:Nat) (r n:Int):Nat→Int
 | 0=>pl
 | 1=>q
 | 2=>e
 | 3=>r
 | 4=>n
 | _=>0
def vmA (b:Nat) (vs vd v:Value) (md:Md) (pl:Nat):cR b where
 P w F:=∃ k:Xk,c4f md k∧(cY b (iD pl md.q md.e 0 0) (Eng.fF k) 13 Eng.rX [vs,vd,v]).P w F
 up:=by
  rintro w w' F S ⟨c,h1,h2⟩ hu hs hb;exact⟨c,h1,(cY b (iD pl md.q md.e 0 0) (Eng.fF c) 13 Eng.rX [vs,vd,v]).up h2 hu hs hb⟩
 lt:=by
  rintro w F ⟨c,h1,h2⟩ x hx;exact(cY b (iD pl md.q md.e 0 0) (Eng.fF c) 13 Eng.rX [vs,vd,v]).lt h2 x hx
theorem dW {b:Nat} {ν:Nat→Int} {G:Eng.GM} {a c d:Eng.AV} {u v x:Value} (h:@Eng.dG (bQ b ν) G [a,c,d]=some [u,v,x]):@Eng.dn (bQ b ν) G a=some u∧@Eng.dn (bQ b ν) G c=some v∧@Eng.dn (bQ b ν) G d=some x:=by
 obtain⟨i,r,f,g,e⟩:=(@Eng.bS (bQ b ν) _ _ _ _).1 h;cases e;exact⟨f,b5y g⟩
theorem nC (c:Xk):Eng.rI (Eng.fF c)=true:=by cases c<;>rfl
theorem kH {b pl q e:Nat} {r n lo hi:Int} (h1:pl≤200) (h2:q≤200) (h3:e≤200) (h4:lo≤r∧r≤hi) (h5:1≤n∧n≤4):@Eng.BD (bQ b (iD pl q e r n)) [(0,200),(0,200),(0,200),(lo,hi),(1,4)]:=by
 intro i p h
 match i with
 | 0=>cases h;exact⟨by show (0:Int)≤(pl:Int);omega,by show (pl:Int)≤200;omega⟩
 | 1=>cases h;exact⟨by show (0:Int)≤(q:Int);omega,by show (q:Int)≤200;omega⟩
 | 2=>cases h;exact⟨by show (0:Int)≤(e:Int);omega,by show (e:Int)≤200;omega⟩
 | 3=>cases h;exact h4
 | 4=>cases h;exact h5
 | _+5=>cases h
theorem d9u {ν:Nat→Int} {e0 e1 e2:Eng.eK} {pl q e:Nat} (h0:@Eng.eK.val (bQ 0 ν) e0=pl) (h1:@Eng.eK.val (bQ 0 ν) e1=q) (h2:@Eng.eK.val (bQ 0 ν) e2=e) (h5:∀ i,ν (i+5)=0):Eng.tX [e0,e1,e2,Eng.kx 0 [],Eng.kx 0 []] ν (iD pl q e 0 0):=by
 intro i
 match i with
 | 0=>exact h0.symm
 | 1=>exact h1.symm
 | 2=>exact h2.symm
 | 3=>rfl
 | 4=>rfl
 | j+5=>exact(h5 j).symm
section
variable {b : Nat} {w : World} {F : Nat → Prop} {vs vd v : Value}
def c0x (b:Nat) (vs vd v:Value) (md:Md) (pl:Nat) (w:World) (F:Nat→Prop) (e:Ending) (w':World):Prop :=
 ∃ F',e = .returned (.tuple #[])∧(vmA b vs vd v md pl).P w' F'∧cJ F w w'∧∀ x,F' x→F x∨w.heap.size≤x
theorem iM {pl q e pl':Nat} {r n lo hi rv:Int} {ra:Eng.AV} {md':Md} {k k':Xk} {e0 e1 e2:Eng.eK} {ρ:List Nat}
  (ht:Eng.fG (EB [(0,200),(0,200),(0,200),(lo,hi),(1,4)]) 300 287 [.ptr 4 0,ra,.sym .i64 ⟨0,[(4,1)]⟩] (Eng.gJ Eng.xs5 (Eng.fF k)) 13 (.tup []) [⟨ρ,Eng.gJ [e0,e1,e2,Eng.kx 0 [],Eng.kx 0 []] (Eng.fF k'),13,Eng.rX,Eng.rX⟩]=true)
  (hA:(cY b (iD pl q e 0 0) (Eng.fF k) 13 Eng.rX [vs,vd,v]).P w F) (hb:b≤w.heap.size) (hbd:@Eng.BD (bQ b (iD pl q e r n)) [(0,200),(0,200),(0,200),(lo,hi),(1,4)])
  (hra:∀ G:Eng.GM,@Eng.dv (bQ b (iD pl q e r n)) G ra=some (.int .i32 rv))
  (h0:@Eng.eK.val (bQ 0 (iD pl q e r n)) e0=pl') (h1:@Eng.eK.val (bQ 0 (iD pl q e r n)) e1=md'.q) (h2:@Eng.eK.val (bQ 0 (iD pl q e r n)) e2=md'.e) (hk:c4f md' k') :
  Calls Tryz.prog 287 #[v,.int .i32 rv,.int .i64 n] w (c0x b vs vd v md' pl' w F):=by
 have a:∀ (i:Nat) (ν:Nat→Int),@Eng.eK.val (bQ 0 ν) (Eng.kx 0 [(i,1)])=ν i:=fun i ν=>by show (0:Int)+(1*ν i+0)=_;omega
 have c:=Eng.iY (σ:=Eng.xs5) (d9u (pl:=pl) (q:=q) (e:=e) (a 0 _) (a 1 _) (a 2 _) (fun i=>rfl)) (nC k) rfl hA (ν:=iD pl q e r n);have f:Eng.rH (Eng.gJ Eng.xs5 (Eng.fF k))=true:=by cases k<;>rfl
 refine(Eng.a0v (us:=[v,.int .i32 rv,.int .i64 n]) (@Eng.a2a (bQ b (iD pl q e r n)) _ hbd) ht c f hb (fun G s=>⟨@Eng.cZ (bQ b (iD pl q e r n)) _ _ _ (dW s).2.2,hra G,by show some (Value.int .i64 ((0:Int)+(1*n+0)))=_;rw[show (0:Int)+(1*n+0)=n by omega],trivial⟩)).mono ?_;rintro e t ⟨u,G,G0,rfl,d,g,h,j,l⟩;obtain⟨m,o,p⟩:=j [vs,vd,v] (@Eng.cT (bQ b _) _ _ g _ _ h);have d:some (Value.tuple #[])=some u:=d;cases d;exact⟨m,rfl,⟨k',hk,Eng.fH (d9u h0 h1 h2 (fun i=>rfl)) (nC k') rfl o⟩,l,p⟩
theorem c9r {md:Md} {pl:Nat} (h:(vmA b vs vd v md pl).P w F) (hm:md.ok pl) (hb:b≤w.heap.size) (hp:pl≤190) {r n:Int} (hr:IB r) (hn:1≤n∧n≤4) :
  Calls Tryz.prog 287 #[v,.int .i32 r,.int .i64 n] w (c0x b vs vd v (md.step pl r) (pl+n.toNat) w F):=by
 obtain⟨k,j,d⟩:=h;have hr : -2147483648≤r∧r≤2147483647:=hr;have i:∀ (r:Int) (q e:Nat),@Eng.eK.val (bQ 0 (iD pl q e r n)) (Eng.kx 0 [(0,1)])=pl:=fun r q e=>by show (0:Int)+(1*(pl:Int)+0)=pl;omega
 have g:∀ (r:Int) (q e:Nat),@Eng.eK.val (bQ 0 (iD pl q e r n)) (Eng.kx 0 [(1,1)])=q:=fun r q e=>by show (0:Int)+(1*(q:Int)+0)=q;omega
 have f:∀ (r:Int) (q e:Nat),@Eng.eK.val (bQ 0 (iD pl q e r n)) (Eng.kx 0 [(2,1)])=e:=fun r q e=>by show (0:Int)+(1*(e:Int)+0)=e;omega
 have a:∀ (r:Int) (q e:Nat),@Eng.eK.val (bQ 0 (iD pl q e r n)) (Eng.kx 0 [(0,1),(4,1)])=((pl+n.toNat:Nat):Int):=fun r q e=>by show (0:Int)+(1*(pl:Int)+(1*n+0))=_;omega
 have c:∀ (q e:Nat) (G:Eng.GM),@Eng.dv (bQ b (iD pl q e r n)) G (.sym .i32 ⟨0,[(3,1)]⟩)=some (.int .i32 r):=fun q e G=>by
  show some (Value.int .i32 ((0:Int)+(1*r+0)))=_;rw[show (0:Int)+(1*r+0)=r by omega]
 cases md with
 | S =>
  by_cases l:r=120
  ·subst l;have hs:Md.step .S pl 120 = .H pl:=rfl;rw[hs];cases k with
   | S0=>exact iM Eng.d5u d hb (kH (r:=0) (by omega) (by show 0≤200;omega) (by show 0≤200;omega) (by omega) hn) (fun G=>rfl) (a _ _ _) (i _ _ _) (f _ _ _) trivial
   | S1=>exact iM Eng.d5v d hb (kH (r:=0) (by omega) (by show 0≤200;omega) (by show 0≤200;omega) (by omega) hn) (fun G=>rfl) (a _ _ _) (i _ _ _) (f _ _ _) trivial
   | S2=>exact iM Eng.d5w d hb (kH (r:=0) (by omega) (by show 0≤200;omega) (by show 0≤200;omega) (by omega) hn) (fun G=>rfl) (a _ _ _) (i _ _ _) (f _ _ _) trivial
   | _=>exact j.elim
  ·have hs:Md.step .S pl r = .S:=if_neg l;rw[hs];by_cases o:r < 120
   ·cases k with
    | S0=>exact iM Eng.c9a d hb (kH (by omega) (by show 0≤200;omega) (by show 0≤200;omega) (by omega) hn) (c _ _) (a _ _ _) (g _ _ _) (f _ _ _) trivial
    | S1=>exact iM Eng.c9c d hb (kH (by omega) (by show 0≤200;omega) (by show 0≤200;omega) (by omega) hn) (c _ _) (a _ _ _) (g _ _ _) (f _ _ _) trivial
    | S2=>exact iM Eng.c9e d hb (kH (by omega) (by show 0≤200;omega) (by show 0≤200;omega) (by omega) hn) (c _ _) (a _ _ _) (g _ _ _) (f _ _ _) trivial
    | _=>exact j.elim
   ·cases k with
    | S0=>exact iM Eng.c9b d hb (kH (by omega) (by show 0≤200;omega) (by show 0≤200;omega) (by omega) hn) (c _ _) (a _ _ _) (g _ _ _) (f _ _ _) trivial
    | S1=>exact iM Eng.c9d d hb (kH (by omega) (by show 0≤200;omega) (by show 0≤200;omega) (by omega) hn) (c _ _) (a _ _ _) (g _ _ _) (f _ _ _) trivial
    | S2=>exact iM Eng.c9f d hb (kH (by omega) (by show 0≤200;omega) (by show 0≤200;omega) (by omega) hn) (c _ _) (a _ _ _) (g _ _ _) (f _ _ _) trivial
    | _=>exact j.elim
 | H q =>
  have m:q < pl∧pl≤q+4:=hm;have hs:Md.step (.H q) pl r = .D q pl:=rfl;rw[hs];cases k with
  | H=>exact iM Eng.e1h d hb (kH (by omega) (by show q≤200;omega) (by show 0≤200;omega) hr hn) (c _ _) (a _ _ _) (g _ _ _) (i _ _ _) trivial
  | H2=>exact iM Eng.d5x d hb (kH (by omega) (by show q≤200;omega) (by show 0≤200;omega) hr hn) (c _ _) (a _ _ _) (g _ _ _) (i _ _ _) trivial
  | _=>exact j.elim
 | D q e =>
  have m:q < e∧e≤q+4∧e≤pl:=hm;have hs:Md.step (.D q e) pl r = .D q e:=rfl;rw[hs];cases k with
  | D=>exact iM Eng.e1i d hb (kH (by omega) (by show q≤200;omega) (by show e≤200;omega) hr hn) (c _ _) (a _ _ _) (g _ _ _) (f _ _ _) trivial
  | D2=>exact iM Eng.d5y d hb (kH (by omega) (by show q≤200;omega) (by show e≤200;omega) hr hn) (c _ _) (a _ _ _) (g _ _ _) (f _ _ _) trivial
  | D3=>exact iM Eng.d5z d hb (kH (by omega) (by show q≤200;omega) (by show e≤200;omega) hr hn) (c _ _) (a _ _ _) (g _ _ _) (f _ _ _) trivial
  | _=>exact j.elim
theorem b5z {md:Md} {pl:Nat} (h:(vmA b vs vd v md pl).P w F):(∃ gs,vs = .pointer (some ⟨gs,0,none⟩)∧cU w gs 298 [vd,v]∧F gs)∧v.oneCell'=true:=by
 obtain⟨k,-,G,f,-,i,-⟩:=h
 letI:Eng.fP:=bQ b (iD pl md.q md.e 0 0)
 obtain⟨j,l,a⟩:=dW i;obtain⟨x,m,o,z,A,p,r⟩:=Eng.Sat0.bs f 1 (.row 298 [.ptr 2 0,.ptr 4 0]) rfl trivial;obtain⟨B,c,s⟩:=aB.1 (show Option.map _ (G 1)=some vs from j);rw[m] at c;cases c;obtain⟨C,D,t⟩:=aB.1 (show Option.map _ (G 4)=some v from a);obtain⟨u2,E,p1,u,rfl⟩:=Eng.bS.1 p;obtain⟨u3,I,d,y,rfl⟩:=Eng.bS.1 u;cases y;rw[show Eng.dn G (.ptr 2 0)=some vd from l] at p1;rw[show Eng.dn G (.ptr 4 0)=some v from a] at d;cases p1;cases d;exact⟨⟨x.g,s.symm,r,o⟩,by rw[← t];rfl⟩
end
end Go.Proofs.YthgnlfikneipiaaGreat
namespace Go.Proofs.YthgnlfikneipiaaGreat
open Go.RowKit
theorem b6a {α:Type} [Inhabited α] {sz:Nat} {c:α→List Value} (hsz:∀ x,(c x).length=sz) (hpos:0 < sz) (l:List α) (k:Nat) (u:Value) (h:(l.flatMap c)[k]?=some u) :
  k / sz < l.length∧(c (bT l (k / sz)))[k % sz]?=some u:=by
 have a:=(aU.1 h).1;rw[dH hsz] at a;have b:k / sz < l.length:=Nat.div_lt_of_lt_mul (by rw[Nat.mul_comm];exact a);refine⟨b,?_⟩;have d:=rK hsz l (k / sz) (k % sz) b (Nat.mod_lt _ hpos);rw[Nat.mul_comm,Nat.div_add_mod] at d;rw[← d,h]
theorem cU.fresh {w W:World} {C:Array Value} {xs:List Value} {e:TypeId} {g:Nat} (hg:g=w.heap.size) (hC:C=xs.toArray) (hu:bR [] (w.alloc (.cells C e)) W):cU W g e xs:=by
 subst hg;subst hC;exact(cU.new w e xs).upd hu (by simp)
section
variable {P : Program} {ops : Array Oper} {rest : List Oper} {o : Oper} {a : Act} {w w' : World} {Q : Exit → Act → World → Prop} {K : Act → World → Prop} {E : Prop}
theorem fR {α:Type} [Inhabited α] {sz:Nat} {c:α→List Value} (hsz:∀ x,(c x).length=sz) (hpos:0 < sz) (hone:∀ x,∀ u∈c x,u.oneCell'=true) {t ty e:TypeId}
  {z:Value} {bytes base:Nat} (ht:P.underlying t=some (.slice e)) (hi:(P.info? e).map (fun i=>(i.zero,i.size,i.bytes))=some (some z,sz,bytes)) (hz:z.cells.size=sz)
  (v u:Value) (l m:List α) (hv:cF sz c base e w v l) (hu:qW sz c w u m) (hb:(l.length+m.length)*bytes≤140737488355328) (hl:l.length+m.length≤maxLen) (hbase:base≤w.heap.size) :
  ∃ v' w',(Builtin.append_ #[t,t] ty #[v,u]).run P w = .ok v' w'∧cF sz c base e w' v' (l++m)∧bR (blk v) w w'∧(∀ x∈blk v',x∈blk v∨w.heap.size≤x):=by
 obtain⟨i,F,J,G,K⟩:=info_parts hi;obtain⟨A,r,rfl,L,M,a⟩:=hu;by_cases B:m=[]
 ·subst B;have o:(P.info? e).map (·.size)=some sz:=by simp[F,G]
  obtain⟨C,n,k,rfl,D⟩:∃ C n k,v = .slice C n k∧n≤k:=by
   rcases hv.2 with⟨rfl,_⟩|⟨g,I,T,rfl,_,_,q,_⟩
   ·exact⟨none,0,0,rfl,aF _⟩
   ·exact⟨_,_,_,rfl,q⟩
  exact⟨_,w,lW ht o C A n k r D,by rw[bA];exact hv,bR.refl _ _,fun x d => .inl d⟩
 ·obtain⟨b,s,rfl,h⟩:=a B;have f:∀ j u,(m.flatMap c)[j]?=some u→w.cell? ((⟨b,s,none⟩:Addr).add j)=some u:=fun j u U=>by
   rw[dB];obtain⟨N,O⟩:=b6a hsz hpos m j u U;have E:=h (j / sz) N (j % sz) (Nat.mod_lt _ hpos);rw[Nat.mul_comm (j / sz) sz,Nat.div_add_mod] at E;rw[E,O]
  obtain⟨v',w',Q,R,S,_,y⟩:=run_append_own_at (P:=P) w base t ty e i z sz bytes ht F J G K hz hpos v l.length (l.flatMap c) hv ⟨b,s,none⟩ m.length r (m.flatMap c) (dH hsz m) f
   (fun u hu=>by obtain⟨x,_,d⟩:=List.mem_flatMap.1 hu;exact hone x u d) hl hb hbase
  have p:cF sz c base e w' v' (l++m):=by
   unfold cF;rw[aE,bL];exact R
  refine⟨v',w',Q,p,by rw[mI];exact bR.of_grown S,?_⟩;intro x d;rw[mI] at d;rcases y with y|y
  ·rw[y,← mI] at d;exact .inl d
  ·rw[y] at d;simp at d;exact .inr (by omega)
theorem a5q (s x:Operand) {t:TypeId} (ho:o.op = .call { callee := .builtin .append,args:=#[s,x],argTypes:=#[t,t] }) (v u:Value) (hs:a.eval s=v) (hx:a.eval x=u)
  {R:Value→World→Prop} (hr:∃ v' w',(Builtin.append_ #[t,t] o.type #[v,u]).run P w = .ok v' w'∧R v' w') (h:∀ v' w',R v' w'→K (a.put o.dst v') w'):o.wp P a w K Q:=by
 obtain⟨v',w',hr,hR⟩:=hr;unfold Oper.wp execOp;simp only[ho,resolve,invoke,builtin,Sem.run_bind,Sem.run_pure,Result.andThen_ok,List.map_toArray,List.map_cons,List.map_nil,hs,hx,hr];exact h v' w' hR
theorem cQ (hgd:o.guard=none) (s x:Operand) {t:TypeId} (ho:o.op = .call { callee := .builtin .append,args:=#[s,x],argTypes:=#[t,t] }) (v u:Value) (hs:a.eval s=v) (hx:a.eval x=u)
  {R:Value→World→Prop} (hr:∃ v' w',(Builtin.append_ #[t,t] o.type #[v,u]).run P w = .ok v' w'∧R v' w') (h:∀ v' w',R v' w'→wpList P ops Q rest (a.put o.dst v') w'):wpList P ops Q (o::rest) a w :=
 wpList_plain hgd fun K b=>a5q s x ho v u hs hx hr fun v' w' hR=>b _ _ (h v' w' hR)
theorem jS (hgd:o.guard=none) (s x:Operand) {t:TypeId} (ho:o.op = .call { callee := .builtin .append,args:=#[s,x],argTypes:=#[t,t] }) (v u:Value) (hs:a.eval s=v) (hx:a.eval x=u)
  {R:Value→World→Prop} (hr:∃ v' w',(Builtin.append_ #[t,t] o.type #[v,u]).run P w = .ok v' w'∧R v' w') (h:∀ v' w',R v' w'→K (a.put o.dst v') w') :
  if Region.wanted o (yielded ops a.tmps)=true then Oper.wp P o a w K Q else E:=by
 have b:Region.wanted o (yielded ops a.tmps)=true:=by simp[Region.wanted,hgd]
 rw[if_pos b];exact a5q s x ho v u hs hx hr h
end
section
variable {P : Program}
theorem c4g (w:World) (dT sT ty elem:TypeId) (sz g o dLen dCap:Nat) (a:Addr) (sLen sCap:Nat) (cur:Array Value) (t:TypeId) (cs:List Value) (k:Nat)
  (hu:P.underlying dT=some (.slice elem)) (hs:(P.info? elem).map (·.size)=some sz)
  (hg:w.heap[g]?=some (.cells cur t (0,0))) (hk:Nat.min sLen dLen=k) (hn:cs.length=k*sz)
  (hsrc:∀ j v,cs[j]?=some v→w.cell? (a.add j)=some v) (hfit:o+cs.length≤cur.size) (h1:∀ v∈cs,v.oneCell'=true) :
  (Builtin.copy_ #[dT,sT] ty #[.slice (some ⟨g,o,none⟩) dLen dCap,.slice (some a) sLen sCap]).run P w =
   .ok (goInt k) (w.setRow g (cur.toList.take o++cs++cur.toList.drop (o+cs.length)).toArray):=by
 have d:=run_loadCells_list (P:=P) w a cs hsrc;have b:=run_storeCells_at P g o t cs 0 cur w hg (by simpa using hfit) h1;cases c:P.info? elem with
 | none=>simp[c] at hs
 | some i =>
  have f:i.size=sz:=by simpa [c] using hs
  simp[Builtin.copy_,run_underlying hu,Builtin.lenOf,Builtin.firstCells,sizeOf,typeInfo,c,f,hk,← hn,d,b]
end
section
variable {P : Program} {ops : Array Oper} {rest : List Oper} {o : Oper} {a : Act} {w w' : World} {Q : Exit → Act → World → Prop} {K : Act → World → Prop} {E : Prop}
theorem a2l (d s:Operand) {t t':TypeId} (ho:o.op = .call { callee := .builtin .copy,args:=#[d,s],argTypes:=#[t,t'] }) (v u:Value) (hd:a.eval d=v) (hs:a.eval s=u)
  {R:Value→World→Prop} (hr:∃ v' w',(Builtin.copy_ #[t,t'] o.type #[v,u]).run P w = .ok v' w'∧R v' w') (h:∀ v' w',R v' w'→K (a.put o.dst v') w'):o.wp P a w K Q:=by
 obtain⟨v',w',hr,hR⟩:=hr;unfold Oper.wp execOp;simp only[ho,resolve,invoke,builtin,Sem.run_bind,Sem.run_pure,Result.andThen_ok,List.map_toArray,List.map_cons,List.map_nil,hd,hs,hr];exact h v' w' hR
theorem a2m (hgd:o.guard=none) (d s:Operand) {t t':TypeId} (ho:o.op = .call { callee := .builtin .copy,args:=#[d,s],argTypes:=#[t,t'] }) (v u:Value) (hd:a.eval d=v) (hs:a.eval s=u)
  {R:Value→World→Prop} (hr:∃ v' w',(Builtin.copy_ #[t,t'] o.type #[v,u]).run P w = .ok v' w'∧R v' w') (h:∀ v' w',R v' w'→wpList P ops Q rest (a.put o.dst v') w'):wpList P ops Q (o::rest) a w :=
 wpList_plain hgd fun K b=>a2l d s ho v u hd hs hr fun v' w' hR=>b _ _ (h v' w' hR)
theorem a7r (hgd:o.guard=none) (d s:Operand) {t t':TypeId} (ho:o.op = .call { callee := .builtin .copy,args:=#[d,s],argTypes:=#[t,t'] }) (v u:Value) (hd:a.eval d=v) (hs:a.eval s=u)
  {R:Value→World→Prop} (hr:∃ v' w',(Builtin.copy_ #[t,t'] o.type #[v,u]).run P w = .ok v' w'∧R v' w') (h:∀ v' w',R v' w'→K (a.put o.dst v') w') :
  if Region.wanted o (yielded ops a.tmps)=true then Oper.wp P o a w K Q else E:=by
 have b:Region.wanted o (yielded ops a.tmps)=true:=by simp[Region.wanted,hgd]
 rw[if_pos b];exact a2l d s ho v u hd hs hr h
end
def iE (cur:Array Value) (o:Nat) (cs:List Value):Array Value:=(cur.toList.take o++cs++cur.toList.drop (o+cs.length)).toArray
theorem c0y (cur:Array Value) (o:Nat) (cs:List Value) (hfit:o+cs.length≤cur.size) (i:Nat):(iE cur o cs)[i]?=if i < o then cur[i]? else if i < o+cs.length then cs[i-o]? else cur[i]?:=by
 unfold iE;rw[List.getElem?_toArray,bN,List.getElem?_append,aJ,bD,Nat.min_eq_left (by omega)];by_cases a:i < o
 ·rw[if_pos a,if_pos a,List.getElem?_take,if_pos a,Array.getElem?_toList]
 ·rw[if_neg a,if_neg a,List.getElem?_append];by_cases b:i < o+cs.length
  ·rw[if_pos (by omega),if_pos b]
  ·rw[if_neg (by omega),if_neg b,List.getElem?_drop,Array.getElem?_toList];congr 1;omega
theorem oO (cur:Array Value) (o:Nat) (cs:List Value) (hfit:o+cs.length≤cur.size):(iE cur o cs).size=cur.size:=by
 unfold iE;simp only[List.size_toArray,aE,aJ,aH,bD];omega
def eP (cur:Array Value) (o:Nat) (cs:List Value):Prop:=∀ j u,cs[j]?=some u→cur[o+j]?=some u
theorem eP.lay (cur:Array Value) (o:Nat) (cs:List Value) (hfit:o+cs.length≤cur.size):eP (iE cur o cs) o cs:=fun j u h=>by
 have a:=(aU.1 h).1;rw[c0y cur o cs hfit,if_neg (by omega),if_pos (by omega),Nat.add_sub_cancel_left];exact h
theorem eP.stay {cur:Array Value} {p:Nat} {ds:List Value} (h:eP cur p ds) (o:Nat) (cs:List Value) (hfit:o+cs.length≤cur.size) (hd:p+ds.length≤o∨o+cs.length≤p):eP (iE cur o cs) p ds:=fun j u a=>by
 have c:=(aU.1 a).1;rw[c0y cur o cs hfit];by_cases b:p+j < o
 ·rw[if_pos b];exact h j u a
 ·rw[if_neg b,if_neg (by omega)];exact h j u a
theorem eP.app {cur:Array Value} {o:Nat} {a b:List Value} (h:eP cur o a) (k:eP cur (o+a.length) b):eP cur o (a++b):=fun j u c=>by
 rw[List.getElem?_append] at c;split at c
 ·exact h j u c
 ·rename_i d;have:=k _ u c;rwa[show o+a.length+(j-a.length)=o+j by omega] at this
theorem eP.left {cur:Array Value} {o:Nat} {a b:List Value} (h:eP cur o (a++b)):eP cur o a:=fun j u c=>by
 refine h j u ?_;rw[bE (aU.1 c).1];exact c
theorem eP.right {cur:Array Value} {o:Nat} {a b:List Value} (h:eP cur o (a++b)):eP cur (o+a.length) b:=fun j u c=>by
 have:=h (a.length+j) u (by rw[List.getElem?_append_right (by omega),Nat.add_sub_cancel_left];exact c);rwa[← Nat.add_assoc] at this
theorem eP.of_take {cur:Array Value} {cs:List Value} {n:Nat} (h:cur.toList.take n=cs):eP cur 0 cs:=fun j u a=>by
 rw[← h,List.getElem?_take] at a;split at a
 ·rw[aM,← Array.getElem?_toList];exact a
 ·simp at a
theorem eP.take {cur:Array Value} {cs:List Value} {n:Nat} (h:eP cur 0 cs) (hn:n=cs.length):cur.toList.take n=cs:=by
 subst hn;apply List.ext_getElem?;intro j;rw[List.getElem?_take];by_cases a:j < cs.length
 ·rw[if_pos a,Array.getElem?_toList];have:=h j cs[j] (aO a);rw[aM] at this;rw[this,aO a]
 ·rw[if_neg a,List.getElem?_eq_none (by omega)]
theorem eP.cell {w:World} {g:Nat} {cur:Array Value} {e:TypeId} {f:Nat×Nat} {o:Nat} {cs:List Value} (h:eP cur o cs) (hg:w.heap[g]?=some (.cells cur e f)):∀ j u,cs[j]?=some u→w.cell? ⟨g,o+j,none⟩=some u:=fun j u a=>by
 rw[cell_of_row w g (o+j) cur e f hg];exact h j u a
theorem gO {α:Type} (c:α→List Value) (l:List α) (i:Nat):l.flatMap c=(l.take i).flatMap c++(l.drop i).flatMap c:=by
 rw[← bL,List.take_append_drop]
theorem cF.open_ {α:Type} {sz:Nat} {c:α→List Value} {base:Nat} {e:TypeId} {w:World} {g n cap:Nat} {l:List α} (hsz:∀ x,(c x).length=sz) (h:cF sz c base e w (.slice (some ⟨g,0,none⟩) n cap) l) :
  n=l.length∧base≤g∧l.length≤cap∧cap≤maxLen∧∃ cur:Array Value,w.heap[g]?=some (.cells cur e (0,0))∧cur.size=cap*sz∧eP cur 0 (l.flatMap c):=by
 obtain⟨s,d⟩:=h;rcases d with⟨he,_⟩|⟨t,b,cur,he,f,i,j,m,hs,o⟩
 ·simp at he
 ·injection he with a p r;injection a with a;injection a with a;subst a;subst p;subst r;exact⟨rfl,f,j,m,cur,i,hs,eP.of_take o⟩
theorem cF.of_piece {α:Type} {sz:Nat} {c:α→List Value} {base:Nat} {e:TypeId} {w:World} {g n cap:Nat} {l:List α} (hsz:∀ x,(c x).length=sz) (cur:Array Value) (hn:n=l.length) (hb:base≤g) (hc:l.length≤cap) (hm:cap≤maxLen)
  (hg:w.heap[g]?=some (.cells cur e (0,0))) (hs:cur.size=cap*sz) (hp:eP cur 0 (l.flatMap c)):cF sz c base e w (.slice (some ⟨g,0,none⟩) n cap) l:=by
 subst hn;exact⟨dH hsz l,.inr ⟨g,cap,cur,rfl,hb,hg,hc,hm,hs,hp.take (dH hsz l).symm⟩⟩
theorem cF.slice_ {α:Type} {sz:Nat} {c:α→List Value} {base:Nat} {e:TypeId} {w:World} {v:Value} {l:List α} (h:cF sz c base e w v l):∃ ao n co,v = .slice ao n co:=by
 rcases h.2 with⟨rfl,_⟩|⟨_,_,_,rfl,_⟩
 ·exact⟨_,_,_,rfl⟩
 ·exact⟨_,_,_,rfl⟩
theorem bR.setRow {S:List Nat} {a b:World} (h:bR S a b) (g:Nat) (cs:Array Value) (hg:g∈S∨a.heap.size≤g):bR S a (b.setRow g cs) :=
 ⟨h.os,h.tape,h.output,by have:=h.size;simp;omega,fun k d c=>by
  rw[setRow_other b g k cs (fun e=>by subst e;rcases hg with q|q;exact c q;omega)];exact h.block k d c⟩
section
variable {P : Program}
theorem jA {dT sT ty elem t:TypeId} {sz g o dLen dCap:Nat} {a:Addr} {sLen sCap:Nat} {cur:Array Value} {cs:List Value} {k:Nat}
  (hu:P.underlying dT=some (.slice elem)) (hs:(P.info? elem).map (·.size)=some sz) (w:World)
  (hg:w.heap[g]?=some (.cells cur t (0,0))) (hk:Nat.min sLen dLen=k) (hn:cs.length=k*sz)
  (hsrc:∀ j v,cs[j]?=some v→w.cell? (a.add j)=some v) (hfit:o+cs.length≤cur.size) (h1:∀ v∈cs,v.oneCell'=true) :
  (Builtin.copy_ #[dT,sT] ty #[.slice (some ⟨g,o,none⟩) dLen dCap,.slice (some a) sLen sCap]).run P w = .ok (goInt k) (w.setRow g (iE cur o cs)) :=
 c4g w dT sT ty elem sz g o dLen dCap a sLen sCap cur t cs k hu hs hg hk hn hsrc hfit h1
theorem rM {t ty e et:TypeId} {sz:Nat} (ht:P.underlying t=some (.slice e)) (hi:(P.info? e).map (·.size)=some sz) {g n cap m c:Nat} {a:Addr} {cur:Array Value} {news:List Value} (w:World)
  (hg:w.heap[g]?=some (.cells cur et (0,0))) (hl:news.length=m*sz) (hnews:∀ j u,news[j]?=some u→w.cell? (a.add j)=some u) (h1:∀ u∈news,u.oneCell'=true)
  (hroom:n+m≤cap) (hfit:n*sz+news.length≤cur.size) :
  (Builtin.append_ #[t,t] ty #[.slice (some ⟨g,0,none⟩) n cap,.slice (some a) m c]).run P w = .ok (.slice (some ⟨g,0,none⟩) (n+m) cap) (w.setRow g (iE cur (n*sz) news)):=by
 obtain⟨i,f,rfl⟩:∃ i,P.info? e=some i∧i.size=sz:=by
  cases h:P.info? e with
  | none=>simp[h] at hi
  | some i=>exact⟨i,rfl,by simpa [h] using hi⟩
 have d:=run_firstCells_some (P:=P) w i.size m a m c news hl hnews;have b:=run_storeCells_at (P:=P) g (n*i.size) et news 0 cur w hg (by simpa using hfit) h1;simp only[Nat.add_zero] at b;simp[Builtin.append_,run_underlying ht,sizeOf,typeInfo,f,Builtin.lenOf,hroom,d,Addr.add_lit,b,iE]
theorem oP {t ty e et:TypeId} {z:Value} {sz bytes:Nat} (ht:P.underlying t=some (.slice e)) (hi:(P.info? e).map (fun i=>(i.zero,i.size,i.bytes))=some (some z,sz,bytes)) (hz:z.cells.size=sz) (h1:∀ u∈z.cells,u.oneCell'=true)
  {g o n c:Nat} {cur:Array Value} (w:World) (hn:0 < n) (hg:w.heap[g]?=some (.cells cur et (0,0))) (hfit:o+n*sz≤cur.size) :
  (Builtin.clear_ #[t] ty #[.slice (some ⟨g,o,none⟩) n c]).run P w = .ok (.tuple #[]) (w.setRow g (iE cur o (Builtin.zeroCells z.cells n).toList)):=by
 obtain⟨n,rfl⟩:∃ k,n=k+1:=⟨n-1,by omega⟩
 obtain⟨i,i1,f,h,j⟩:=info_parts hi;have b:(Builtin.zeroCells z.cells (n+1)).toList.length=(n+1)*sz:=by rw[bD,size_zeroCells,hz]
 have a:=run_storeCells_at (P:=P) g o et _ 0 cur w hg (by rw[b];simpa using hfit) (a4g h1 (n+1));simp only[Nat.add_zero] at a;have d:(zeroValue e).run P w = .ok z w:=by simp[zeroValue,typeInfo,i1,f]
 simp only[Builtin.clear_];simp[run_underlying ht,d,a,iE]
end
section
variable {P : Program} {ops : Array Oper} {rest : List Oper} {o : Oper} {a : Act} {w w' : World} {Q : Exit → Act → World → Prop} {K : Act → World → Prop} {E : Prop}
theorem a0g (hgd:o.guard=none) (s:Operand) {t:TypeId} (ho:o.op = .call { callee := .builtin .clear,args:=#[s],argTypes:=#[t] }) (v:Value) (hs:a.eval s=v)
  {R:Value→World→Prop} (hr:∃ v' w',(Builtin.clear_ #[t] o.type #[v]).run P w = .ok v' w'∧R v' w') (h:∀ v' w',R v' w'→wpList P ops Q rest (a.put o.dst v') w'):wpList P ops Q (o::rest) a w:=by
 obtain⟨v',w',hr,hR⟩:=hr;refine wpList_plain hgd fun K b=>?_
 unfold Oper.wp execOp;simp only[ho,resolve,invoke,builtin,Sem.run_bind,Sem.run_pure,Result.andThen_ok,List.map_toArray,List.map_cons,List.map_nil,hs,hr];exact b _ _ (h v' w' hR)
end
section
variable {P : Program} {ops : Array Oper} {rest : List Oper} {o : Oper} {a : Act} {w w' : World} {Q : Exit → Act → World → Prop} {K : Act → World → Prop} {E : Prop}
theorem rN (hgd:o.guard=none) (s x:Operand) (t:TypeId) (ho:o.op = .call { callee := .builtin .append,args:=#[s,x],argTypes:=#[t,t] }) (v u:Value) (hs:a.eval s=v) (hx:a.eval x=u)
  {v':Value} (hr:(Builtin.append_ #[t,t] o.type #[v,u]).run P w = .ok v' w') (h:K (a.put o.dst v') w') :
  if Region.wanted o (yielded ops a.tmps)=true then Oper.wp P o a w K Q else E :=
 jS hgd s x ho v u hs hx (R:=fun p q=>p=v'∧q=w') ⟨_,_,hr,rfl,rfl⟩ (fun _ _ ⟨h1,h2⟩=>by rw[h1,h2];exact h)
theorem fU (hgd:o.guard=none) (d s:Operand) (t t':TypeId) (ho:o.op = .call { callee := .builtin .copy,args:=#[d,s],argTypes:=#[t,t'] }) (v u:Value) (hd:a.eval d=v) (hs:a.eval s=u)
  {v':Value} (hr:(Builtin.copy_ #[t,t'] o.type #[v,u]).run P w = .ok v' w') (h:K (a.put o.dst v') w') :
  if Region.wanted o (yielded ops a.tmps)=true then Oper.wp P o a w K Q else E :=
 a7r hgd d s ho v u hd hs (R:=fun p q=>p=v'∧q=w') ⟨_,_,hr,rfl,rfl⟩ (fun _ _ ⟨h1,h2⟩=>by rw[h1,h2];exact h)
theorem eG (hgd:o.guard=none) (d s:Operand) (t t':TypeId) (ho:o.op = .call { callee := .builtin .copy,args:=#[d,s],argTypes:=#[t,t'] }) (v u:Value) (hd:a.eval d=v) (hs:a.eval s=u)
  {v':Value} (hr:(Builtin.copy_ #[t,t'] o.type #[v,u]).run P w = .ok v' w') (h:wpList P ops Q rest (a.put o.dst v') w'):wpList P ops Q (o::rest) a w :=
 a2m hgd d s ho v u hd hs (R:=fun p q=>p=v'∧q=w') ⟨_,_,hr,rfl,rfl⟩ (fun _ _ ⟨h1,h2⟩=>by rw[h1,h2];exact h)
theorem mB (hgd:o.guard=none) (s:Operand) (t:TypeId) (ho:o.op = .call { callee := .builtin .clear,args:=#[s],argTypes:=#[t] }) (v:Value) (hs:a.eval s=v)
  {v':Value} (hr:(Builtin.clear_ #[t] o.type #[v]).run P w = .ok v' w') (h:wpList P ops Q rest (a.put o.dst v') w'):wpList P ops Q (o::rest) a w :=
 a0g hgd s ho v hs (R:=fun p q=>p=v'∧q=w') ⟨_,_,hr,rfl,rfl⟩ (fun _ _ ⟨h1,h2⟩=>by rw[h1,h2];exact h)
theorem lM (hgd:o.guard=none) (s x:Operand) (t t':TypeId) (ho:o.op = .call { callee := .builtin .append,args:=#[s,x],argTypes:=#[t,t'] }) (v u:Value) (hs:a.eval s=v) (hx:a.eval x=u)
  {v':Value} (hr:(Builtin.append_ #[t,t'] o.type #[v,u]).run P w = .ok v' w') (h:wpList P ops Q rest (a.put o.dst v') w'):wpList P ops Q (o::rest) a w:=by
 refine wpList_plain hgd fun K b=>?_
 unfold Oper.wp execOp;simp only[ho,resolve,invoke,builtin,Sem.run_bind,Sem.run_pure,Result.andThen_ok,List.map_toArray,List.map_cons,List.map_nil,hs,hx,hr];exact b _ _ h
end
theorem kI {α:Type} {c:α→List Value} (hone:∀ x,∀ u∈c x,u.oneCell'=true) (l:List α):∀ u∈l.flatMap c,u.oneCell'=true:=fun u b=>by
 obtain⟨x,_,a⟩:=List.mem_flatMap.1 b;exact hone x u a
end Go.Proofs.YthgnlfikneipiaaGreat
namespace Go.Proofs.YthgnlfikneipiaaGreat
structure Sl where
 a:Option Addr
 n:Nat
 k:Nat
instance:Inhabited Sl:=⟨⟨none,0,0⟩⟩
abbrev gF (s:Sl):Value := .slice s.a s.n s.k
open Go.RowKit
def Ap (F G:List Nat):Prop:=∀ x∈F,x∉G
theorem Ap.symm {F G:List Nat} (h:Ap F G):Ap G F:=fun x a b=>h x b a
theorem Ap.nil {G:List Nat}:Ap [] G:=fun x a=>by simp at a
theorem Ap.new {F G:List Nat} {n:Nat} (hf:∀ y∈F,n≤y) (hg:∀ x∈G,x < n):Ap F G:=fun x a b=>by have:=hf x a;have:=hg x b;omega
theorem Ap.next {F F' G:List Nat} {n:Nat} (h:Ap F G) (hf:∀ y∈F',y∈F∨n≤y) (hg:∀ x∈G,x < n):Ap F' G:=fun x b a=>by
 rcases hf x b with q|q
 ·exact h x q a
 ·have:=hg x a;omega
abbrev KB:=Nat→List UInt8×Nat
abbrev c9s (base:Nat) (w:World) (x:Nat) (c:List UInt8×Nat):Prop:=fB bv base 5 w (.slice (some ⟨x,0,none⟩) c.1.length c.2) c.1
structure yD (base:Nat) (w:World) (B:List Nat) (K:KB):Prop where
 own:∀ x∈B,c9s base w x (K x)
structure Sh (B:List Nat) (K:KB) (s:Sl) (l:List UInt8):Prop where
 n:s.n=l.length
 k:s.n≤s.k
 m:s.k≤maxLen
 nul:s.a=none→s.k=0
 ex:l≠[]→∃ b off,s.a=some ⟨b,off,none⟩∧b∈B∧off+l.length≤(K b).1.length∧((K b).1.drop off).take l.length=l
def Gr (B:List Nat) (K:KB) (s:Sl) (l:List UInt8):Prop:=s.n < s.k→∃ b,s.a=some ⟨b,0,none⟩∧b∈B∧K b=(l,s.k)
def gb (s:Sl):List Nat:=if s.n < s.k then blk (gF s) else []
structure Ext (B:List Nat) (K:KB) (B':List Nat) (K':KB):Prop where
 sub:∀ x∈B,x∈B'
 pre:∀ x∈B,∃ t,(K' x).1=(K x).1++t
section
variable {base : Nat} {w w' : World} {B B' B'' : List Nat} {K K' K'' : KB} {s : Sl} {l : List UInt8}
theorem Ext.refl (B:List Nat) (K:KB):Ext B K B K:=⟨fun _ h=>h,fun _ _=>⟨[],(bA _).symm⟩⟩
theorem yD.upd (h:yD base w B K) {S:List Nat} (hu:bR S w w') (hs:∀ x∈B,x∉S):yD base w' B K :=
 ⟨fun x a=>(h.own x a).upd hu (fun y b=>by simp[blk] at b;subst b;exact hs _ a)⟩
theorem yD.ge (h:yD base w B K):∀ x∈B,base≤x∧x < w.heap.size:=fun x a=>(h.own x a).ge x (by simp[blk])
theorem yD.typ (h:yD base w B K):∀ x∈B,∃ C f,w.heap[x]?=some (.cells C 5 f):=fun x i=>by
 rcases (h.own x i).2 with⟨he,_⟩|⟨g,b,c,he,_,d,_⟩
 ·simp at he
 ·injection he with a j l;injection a with a;injection a with a m;subst a;exact⟨_,_,d⟩
theorem Sh.ext (h:Sh B K s l) (he:Ext B K B' K'):Sh B' K' s l:=by
 refine⟨h.n,h.k,h.m,h.nul,fun c=>?_⟩;obtain⟨b,a,g,d,j,i⟩:=h.ex c;obtain⟨t,f⟩:=he.pre b d;refine⟨b,a,g,he.sub b d,by rw[f,aE];omega,?_⟩;rw[f,List.drop_append_of_le_length (by omega),List.take_append_of_le_length (by rw[aH];omega)];exact i
theorem Sh.rd (hB:yD base w B K) (h:Sh B K s l):eQ w (gF s) l:=by
 have i:=h.n;have o:=h.k;have p:=h.m;have r:=h.ex;obtain⟨a,n,k⟩:=s;dsimp only at i o p r;subst i;refine⟨a,k,rfl,o,p,fun g=>?_⟩;obtain⟨b,c,rfl,y,u,z⟩:=r g;refine⟨b,c,rfl,fun j D=>?_⟩;obtain⟨E,F,he,-,-,f⟩:=(hB.own b y).rd;injection he with A I J;subst A;obtain⟨G,v,d,f⟩:=f (fun q=>by rw[q] at u;simp only[List.length_nil] at u;omega);injection d with d;injection d with d C;subst d;subst C;have t:=f (c+j) (by omega);rw[aM] at t;have x:bT l j=bT (K b).1 (c+j):=by
  have:bT (((K b).1.drop c).take l.length) j=bT l j:=by rw[z]
  rw[← this,iB _ _ _ D,kD]
 rw[x];exact t
theorem e6b (hg:Gr B K s l):∀ x∈gb s,x∈B∧K x=(l,s.k)∧s.a=some ⟨x,0,none⟩:=by
 intro x c;unfold gb at c;split at c
 ·rename_i h;obtain⟨b,d,f,g⟩:=hg h;rw[show gF s = .slice s.a s.n s.k from rfl,d] at c;simp[blk] at c;subst c;exact⟨f,g,d⟩
 ·simp at c
theorem Gr.full (h:s.k≤s.n):Gr B K s l:=fun q=>absurd q (by omega)
theorem a7s (h:s.k≤s.n):gb s=[]:=by unfold gb;rw[if_neg (by omega)]
theorem Sh.nil:Sh B K ⟨none,0,0⟩ []:=⟨rfl,aF _,aS _,fun _=>rfl,fun h=>absurd rfl h⟩
theorem Sh.cut (h:Sh B K s l) (n:Nat) (hn:n≤l.length):Sh B K ⟨s.a,n,n⟩ (l.take n):=by
 have o:=h.n;have p:=h.k;have r:=h.m;refine⟨by rw[aJ];show n=_;omega,aF _,by show n≤_;omega,fun q=>by have:=h.nul q;show n=0;omega,fun d=>?_⟩;have f:l≠[]:=fun q=>d (by rw[q];simp)
 obtain⟨b,c,g,i,t,j⟩:=h.ex f;refine⟨b,c,g,i,by rw[aJ];omega,?_⟩;rw[aJ,Nat.min_eq_left hn,← j,List.take_take,Nat.min_eq_left hn]
theorem yD.new (hB:yD base w B K) {w':World} {v:Value} {l:List UInt8} (ho:fB bv w.heap.size 5 w' v l) (hu:bR [] w w') (hbase:base≤w.heap.size) :
  ∃ s B' K',v=gF s∧yD base w' B' K'∧Ext B K B' K'∧(∀ x∈B',x∈B∨w.heap.size≤x)∧Sh B' K' s l∧Gr B' K' s l∧(∀ x∈gb s,w.heap.size≤x)∧(∀ x∈B,K' x=K x):=by
 have c:=ho;obtain⟨r,h⟩:=c;rcases h with⟨rfl,i⟩|⟨g,b,j,rfl,m,t,o,p,hs,u⟩
 ·obtain rfl:l=[]:=List.eq_nil_of_length_eq_zero i;exact⟨⟨none,0,0⟩,B,K,rfl,hB.upd hu (by simp),Ext.refl _ _,fun x a => .inl a,Sh.nil,Gr.full (aF _),fun x a=>by rw[a7s (aF _)] at a;simp at a,fun _ _=>rfl⟩
 ·have d:∀ x∈B,x≠g:=fun x a q=>by have:=(hB.ge x a).2;omega
  have f:∀ x∈B,(if x=g then (l,b) else K x)=K x:=fun x a=>if_neg (d x a)
  refine⟨⟨some ⟨g,0,none⟩,l.length,b⟩,g::B,fun x=>if x=g then (l,b) else K x,rfl,⟨fun x a=>?_⟩,⟨fun x a=>by simp[a],fun x a=>⟨[],by rw[f x a,bA]⟩⟩,fun x a=>?_,⟨rfl,o,p,fun q=>by simp at q,fun _=>⟨g,0,rfl,by simp,by simp,by simp⟩⟩,fun _=>⟨g,rfl,by simp,by simp⟩,fun x a=>?_,f⟩
  ·rcases aG.1 a with rfl|a
   ·show c9s base w' x (if x=x then (l,b) else K x);rw[if_pos rfl];exact ho.base_le hbase
   ·show c9s base w' x (if x=g then (l,b) else K x);rw[f x a];exact(hB.own x a).upd hu (by simp)
  ·rcases aG.1 a with rfl|a
   ·exact .inr m
   ·exact .inl a
  ·unfold gb at a;split at a
   ·simp[blk] at a;omega
   ·simp at a
theorem Gr.keep (h:Gr B K s l) (hs:∀ x∈B,x∈B') (hk:∀ x∈B,K' x=K x):Gr B' K' s l:=fun q=>by
 obtain⟨b,c,a,d⟩:=h q;exact⟨b,c,hs b a,by rw[hk b a,d]⟩
def e6c (base:Nat) (w:World) (B:List Nat) (K:KB) (s:Sl) (l:List UInt8) (v':Value) (w':World):Prop :=
 ∃ s' B' K',v'=gF s'∧yD base w' B' K'∧Ext B K B' K'∧(∀ x∈B',x∈B∨w.heap.size≤x)∧Sh B' K' s' l∧Gr B' K' s' l∧bR B w w'∧(∀ s2 l2,Gr B K s2 l2→Ap (gb s2) (gb s)→Gr B' K' s2 l2∧Ap (gb s2) (gb s'))
theorem a2n:(Tryz.prog.info? 5).map (fun i=>(i.zero,i.size,i.bytes))=some (some (.int .u8 0),1,1):=by kernel_rfl
theorem c9t {ty:TypeId} {u:Value} {p:List UInt8} (hB:yD base w B K) (hs:Sh B K s l) (hg:Gr B K s l) (hp:eQ w u p) (hne:p≠[]) (hlen:l.length+p.length≤1000000000) (hbase:base≤w.heap.size) :
  ∃ v' w',(Builtin.append_ #[33,33] ty #[gF s,u]).run Tryz.prog w = .ok v' w'∧e6c base w B K s (l++p) v' w':=by
 have O:=hs.rd hB;have h1:=hs.n;have h2:=hs.k;have h3:=hs.m;have h4:=hs.nul;have G:l.length+p.length≤maxLen:=by unfold maxLen;omega
 obtain⟨i,i1,i2,V,i4⟩:=info_parts a2n;obtain⟨A,z,rfl,a8,a9,C⟩:=hp;obtain⟨W,d,rfl,M⟩:=C hne;have o:∀ j u,(p.map bv)[j]?=some u→w.cell? ((⟨W,d,none⟩:Addr).add j)=some u:=fun j u hj=>by
  rw[dB];rw[List.getElem?_map] at hj;obtain⟨x,f,rfl⟩:=aB.1 hj;rw[M j (aU.1 f).1,xM p j x f]
 have a5:0 < p.length:=List.length_pos_iff.2 hne;by_cases c:l.length+p.length≤s.k
 ·
  obtain⟨b,hb,D,hK⟩:=hg (by omega);have I:=hB.own b D;rw[hK] at I;obtain⟨o1,o2⟩:=I;rcases o2 with⟨he,_⟩|⟨g,a6,r,he,a3,Y,b0,a7,E,N⟩
  ·simp at he
  injection he with L e2 e3;injection L with L;injection L with L e5;subst L;dsimp only at e3 E N;rw[Nat.mul_one] at E N;have Q:l.length*i.size+(p.map bv).length≤r.size:=by rw[V,Nat.mul_one,aP,E,← e3];exact c
  have v:=run_append_room (P:=Tryz.prog) w 33 ty 5 i Tryz.underlying33 i1 b l.length s.k r Y ⟨W,d,none⟩ p.length z (p.map bv) (by simp[V]) o (qY gE p) c Q;rw[V,Nat.mul_one,aP,N] at v;rw[show gF s = .slice s.a s.n s.k from rfl,hb,h1];generalize Z:(l.map bv++p.map bv++r.toList.drop (l.length+p.length)).toArray=ys at v;have R:ys.toList=(l++p).map bv++r.toList.drop (l.length+p.length):=by rw[← Z];simp
  have S:ys.size=s.k:=by
   rw[← Z];simp only[List.size_toArray,aE,aP,aH,bD,E];omega
  have T:c9s base (w.setRow b ys) b (l++p,s.k):=by
   refine⟨by simp,.inr ⟨b,s.k,ys,rfl,a3,setRow_heap w b r ys _ _ Y,by simp;omega,h3,by rw[S,Nat.mul_one],?_⟩⟩;rw[R,Nat.mul_one,List.take_append_of_le_length (by simp)];exact aZ (by simp)
  have U:bR [b] w (w.setRow b ys):=⟨rfl,rfl,rfl,by simp,fun k _ hk=>setRow_other w b k _ (by simpa using hk)⟩
  refine⟨_,_,v,⟨some ⟨b,0,none⟩,l.length+p.length,s.k⟩,B,fun x=>if x=b then (l++p,s.k) else K x,rfl,⟨fun x f=>?_⟩,⟨fun _ h=>h,fun x f=>?_⟩,fun x f => .inl f,⟨by simp,c,h3,fun q=>by simp at q,fun _=>⟨b,0,rfl,D,by show 0+_≤(if b=b then (l++p,s.k) else K b).1.length;rw[if_pos rfl];simp,by show ((if b=b then (l++p,s.k) else K b).1.drop 0).take _=_;rw[if_pos rfl];exact aV⟩⟩,fun _=>⟨b,rfl,D,by show (if b=b then (l++p,s.k) else K b)=_;rw[if_pos rfl]⟩,U.mono (fun x f=>by simp at f;subst f;exact .inl D),fun s2 l2 g2 F=>?_⟩
  ·show c9s base (w.setRow b ys) x (if x=b then (l++p,s.k) else K x);split
   ·rename_i h;subst h;exact T
   ·rename_i h;exact(hB.own x f).upd U (fun y hy=>by simp[blk] at hy;subst hy;simpa using h)
  ·show ∃ t,(if x=b then (l++p,s.k) else K x).1=(K x).1++t;split
   ·rename_i h;subst h;rw[hK];exact⟨p,rfl⟩
   ·exact⟨[],(bA _).symm⟩
  ·have a0:gb s=[b]:=by unfold gb;rw[if_pos (by omega),show gF s = .slice s.a s.n s.k from rfl,hb];rfl
   rw[a0] at F;refine⟨fun q=>?_,fun x f=>?_⟩
   ·obtain⟨X,q1,q2,q3⟩:=g2 q;have a1:X≠b:=fun e=>F X (by unfold gb;rw[if_pos q,show gF s2 = .slice s2.a s2.n s2.k from rfl,q1];simp[blk]) (by simp[e])
    exact⟨X,q1,q2,by show (if X=b then (l++p,s.k) else K X)=_;rw[if_neg a1,q3]⟩
   ·have h9:=F x f;unfold gb;split
    ·simpa [blk] using h9
    ·simp
 ·
  have key:∃ v' w',(Builtin.append_ #[33,33] ty #[gF s,.slice (some ⟨W,d,none⟩) p.length z]).run Tryz.prog w = .ok v' w'∧fB bv w.heap.size 5 w' v' (l++p)∧bR [] w w':=by
   obtain⟨a,n,k⟩:=s;dsimp only at h1 h2 h3 h4 c O;subst h1;cases a with
   | some ad =>
    have holds:∀ j u,(l.map bv)[j]?=some u→w.cell? (ad.add j)=some u:=fun j u hj=>by
     rw[List.getElem?_map] at hj;obtain⟨x,f,rfl⟩:=aB.1 hj;have J:=(aU.1 f).1;obtain⟨a',k',he,-,-,hc⟩:=O;have L:some ad=a':=(Value.slice.inj he).1;obtain⟨b,a2,e4,hc⟩:=hc (by intro q;rw[q] at J;simp at J);obtain rfl:ad=⟨b,a2,none⟩:=aK (L.trans e4);rw[dB,hc j J,xM l j x f]
    obtain⟨v',w',v,r1,r2⟩:=run_append_arg_grows (P:=Tryz.prog) w 33 ty 5 i _ 1 1 Tryz.underlying33 i1 i2 V i4 rfl (by decide) ad l.length k (l.map bv) (by simp) holds ⟨W,d,none⟩ p.length z (p.map bv) (by simp) o (by omega) G (by omega);exact⟨v',w',v,by unfold fB;rw[aE,List.map_append];exact r1,bR.of_grown r2⟩
   | none =>
    obtain rfl:k=0:=h4 rfl;obtain rfl:l=[]:=List.eq_nil_of_length_eq_zero (by omega);obtain⟨v',w',v,r1,r2,_⟩:=run_append_own (P:=Tryz.prog) w w.heap.size 33 ty 5 i _ 1 1 Tryz.underlying33 i1 i2 V i4 rfl (by decide) (.slice none 0 0) 0 [] (bK w _ _ 1) ⟨W,d,none⟩ p.length z (p.map bv) (by simp) o (qY gE p) (by simpa using G) (by simp at hlen ⊢;omega) (aF _);refine⟨v',w',v,by unfold fB;rw[aE,List.map_append];exact r1,bR.of_grown r2⟩
  obtain⟨v',w',v,ho,U⟩:=key;obtain⟨s',B',K',rfl,k1,k2,k3,k4,k5,k6,k7⟩:=hB.new ho U hbase;refine⟨_,_,v,s',B',K',rfl,k1,k2,k3,k4,k5,U.mono (by simp),fun s2 l2 g2 F=>⟨g2.keep k2.sub k7,fun x f a4=>?_⟩⟩;have:=k6 x a4;have:=(hB.ge x (e6b g2 x f).1).2;omega
end
structure qX (w:World) (g:Nat) (h:List UInt8):Prop where
 ex:∃ A:List UInt8,A.length=4∧h.length≤4∧A.take h.length=h∧cU w g 378 (A.map bv++[.int .i64 (h.length:Int)])
theorem qX.upd {w w':World} {g:Nat} {h:List UInt8} (hd:qX w g h) {S:List Nat} (hu:bR S w w') (hs:g∉S):qX w' g h:=by
 obtain⟨A,a,b,c,d⟩:=hd.ex;exact⟨A,a,b,c,d.upd hu hs⟩
theorem a2o (w:World):Calls Tryz.prog 200 #[] w fun e w'=>e = .returned (.pointer (some ⟨w.heap.size,0,none⟩))∧qX w' w.heap.size []∧bR [] w w':=by
 have a:=bG (cU.new w 378 [.int .u8 0,.int .u8 0,.int .u8 0,.int .u8 0,.int .i64 0]);have b:=bG ((bR.refl [] w).alloc (.cells #[.int .u8 0,.int .u8 0,.int .u8 0,.int .u8 0,.int .i64 0] 378));go_enter Tryz.func200,Tryz.ntmps200;go_wp2_with fail
 go_ret;exact⟨rfl,⟨[0,0,0,0],rfl,by simp,rfl,a.out⟩,b.out⟩
theorem b1p (w:World) (g n:Nat) (l:List UInt8) (hd:qX w g l) (hn:n≤l.length):Calls Tryz.prog 288 #[.pointer (some ⟨g,0,none⟩),.int .i64 (n:Int)] w fun e w'=>e = .returned (.tuple #[])∧qX w' g (l.drop n)∧bR [g] w w':=by
 obtain⟨A,r,R,E,s⟩:=hd.ex;have J:w.cell? ⟨g,4,none⟩=some (.int .i64 (l.length:Int)):=by
  have:=s.cell 4;rw[List.getElem?_append_right (by rw[aP,r];exact aF _),aP,r] at this;exact this
 have K:=s.frozen 4;have L:(0:Int)≤n:=by omega
 have M:(n:Int)≤l.length:=by omega
 have N:(l.length:Int)≤4:=by omega
 have v:=bG s;have z:∀ j,j < l.length→bT A j=bT l j:=fun j F=>by rw[← E,iB _ _ _ F]
 have b:Hid (∀ G,(Builtin.copy_ #[33,33] G #[.slice (some ⟨g,0,none⟩) 4 4,.slice (some (if 4=n then ⟨g,0,none⟩ else ⟨g,n,none⟩)) (l.length-n) (4-n)]).run Tryz.prog w.drew = .ok (goInt ((l.length-n:Nat):Int)) (w.drew.setRow g (iE (A.map bv++[Value.int .i64 (l.length:Int)]).toArray 0 ((l.drop n).map bv)))):=fun G =>
  jA (P:=Tryz.prog) (sz:=1) (t:=378) Tryz.underlying33 (by kernel_rfl) w.drew v.out (by simp only[Nat.min_def];split<;>omega) (by rw[aP,aH];omega) (fun j u d=>by
   rw[List.getElem?_map] at d;by_cases F:j < l.length-n
   ·rw[if_neg (by omega)];rw[List.getElem?_drop,aO (by omega)] at d;simp at d;have y:=v.out.cell (n+j);rw[bE (by rw[aP];omega),List.getElem?_map,aO (by omega)] at y;have he:=z (n+j) (by omega);rw[cO _ _ (by omega),cO _ _ (by omega)] at he;rw[he] at y;rw[← d,dB];exact y
   ·rw[List.getElem?_eq_none (by rw[aH];omega)] at d;simp at d) (by simp[r];omega) (fun u d=>by
   obtain⟨x,-,rfl⟩:=List.mem_map.1 d;rfl)
 have i:0+((l.drop n).map bv).length≤(A.map bv++[Value.int .i64 (l.length:Int)]).toArray.size:=by simp[r];omega
 have c:iE (A.map bv++[Value.int .i64 (l.length:Int)]).toArray 0 ((l.drop n).map bv)=((l.drop n++A.drop (l.length-n)).map bv++[Value.int .i64 (l.length:Int)]).toArray:=by
  unfold iE;rw[List.take_zero,List.nil_append,aP,aH,aM,List.drop_append_of_le_length (by rw[aP];omega),List.map_append,List.map_drop,List.map_drop,bN]
 have B:cU (w.drew.setRow g (iE (A.map bv++[Value.int .i64 (l.length:Int)]).toArray 0 ((l.drop n).map bv))) g 378 ((l.drop n++A.drop (l.length-n)).map bv++[Value.int .i64 (l.length:Int)]):=by
  have:=setRow_heap w.drew g _ (iE (A.map bv++[Value.int .i64 (l.length:Int)]).toArray 0 ((l.drop n).map bv)) _ _ v.out;rw[c] at this ⊢;exact this
 have p:=bG B;have C:Hid (bR [g] w (w.drew.setRow g (iE (A.map bv++[Value.int .i64 (l.length:Int)]).toArray 0 ((l.drop n).map bv)))):=(bR.refl [g] w).drew.setRow g _ (.inl (by simp));obtain⟨m,o⟩:∃ m,w.drew.setRow g (iE (A.map bv++[Value.int .i64 (l.length:Int)]).toArray 0 ((l.drop n).map bv))=m:=⟨_,rfl⟩
 rw[o] at b p C;have a:((l.drop n++A.drop (l.length-n)).map bv).length=4:=by rw[aP,aE,aH,aH];omega
 have O:m.cell? ⟨g,4,none⟩=some (.int .i64 (l.length:Int)):=by
  have:=p.out.cell 4;rw[List.getElem?_append_right (by rw[a];exact aF _),a] at this;exact this
 have Q:=p.out.frozen 4;have I:IntKind.i64.wrap ((l.length:Int)-n)=((l.drop n).length:Int):=by rw[aQ,aH];omega
 clear hd E s z i c B o;go_enter Tryz.func288,Tryz.ntmps288;go_wp2_with fail
 go_region_law (first|((refine fU rfl (.tmp 7) (.tmp 16) 33 33 rfl (.slice (some ⟨g,0,none⟩) 4 4) (.slice (some (if 4=n then ⟨g,0,none⟩ else ⟨g,n,none⟩)) (l.length-n) (4-n)) (by simp[Act.eval,Act.put]) (by simp[Act.eval,Act.put]) (b.out _) ?_);dsimp only))
 all_goals
  have hs:=p.out.set_ 4 (.int .i64 ((l.length-n:Nat):Int));rw[List.set_append_right _ _ (by rw[a];exact aF _),a,show 4-4=0 from rfl,List.set_cons_zero] at hs;have D:Hid (qX (m.setCell ⟨g,4,none⟩ (.int .i64 ((l.length-n:Nat):Int))) g (l.drop n)∧bR [g] w (m.setCell ⟨g,4,none⟩ (.int .i64 ((l.length-n:Nat):Int)))):=⟨⟨l.drop n++A.drop (l.length-n),by rw[← aP (f:=bv)];exact a,by rw[aH];omega,by rw[List.take_append_of_le_length (aF _),aV],by rw[aH];exact hs⟩,C.out.setCell _ _ (.inl (by simp))⟩
  clear hs;go_wp2_with fail
  all_goals (first|subst h|skip)
  all_goals go_end0
  all_goals exact⟨rfl,D.out.1,D.out.2⟩
theorem qX.bytes {w:World} {g:Nat} {l:List UInt8} (hd:qX w g l):eQ w (.slice (some ⟨g,0,none⟩) l.length 4) l:=by
 obtain⟨A,d,a,b,c⟩:=hd.ex;refine⟨some ⟨g,0,none⟩,4,rfl,a,by decide,fun _=>⟨g,0,rfl,fun j f=>?_⟩⟩;rw[aM,c.cell,bE (by rw[aP];omega),List.getElem?_map,aO (by omega),← cO A j (by omega),← b,iB _ _ _ (by omega)];rfl
theorem qX.n {w:World} {g:Nat} {l:List UInt8} (hd:qX w g l):w.cell? ⟨g,4,none⟩=some (.int .i64 (l.length:Int))∧w.frozen? ⟨g,4,none⟩=false∧l.length≤4:=by
 obtain⟨A,a,c,d,b⟩:=hd.ex;have:=b.cell 4;rw[List.getElem?_append_right (by rw[aP,a];exact aF _),aP,a] at this;exact⟨this,b.frozen 4,c⟩
theorem zS (w:World) (g:Nat) (l:List UInt8) (hd:qX w g l):Calls Tryz.prog 205 #[.pointer (some ⟨g,0,none⟩)] w fun e w'=>∃ v,e = .returned v∧fB bv w.heap.size 5 w' v l∧bR [] w w':=by
 obtain⟨t,-,m⟩:=hd.n;have j:=bG hd.bytes;have s:(l.length:Int)≤4:=by omega
 have a:Hid (∀ ty (W:World),bR [] w W→∃ d w',(Builtin.append_ #[33,33] ty #[.slice none 0 0,.slice (some ⟨g,0,none⟩) l.length 4]).run Tryz.prog W = .ok d w'∧(fB bv w.heap.size 5 w' d l∧bR [] w w')):=fun ty W hW=>by
  obtain⟨d,w',o,i,p,m⟩:=lJ (P:=Tryz.prog) (ty:=ty) (base:=w.heap.size) gE Tryz.underlying33 a2n rfl (.slice none 0 0) (.slice (some ⟨g,0,none⟩) l.length 4) [] l (bK _ _ _ _) (j.out.upd0 hW) (by simp;omega) (by simp[maxLen];omega) hW.size;rw[List.nil_append] at i;exact⟨d,w',o,i,hW.trans p (by simp) (fun y r=>by simp[blk] at r)⟩
 clear hd;go_enter Tryz.func205,Tryz.ntmps205;go_wp2_with fail
 go_region_law (first|((refine jS rfl (.const (.slice none 0 0)) (.tmp 10) rfl (.slice none 0 0) (.slice (some ⟨g,0,none⟩) l.length 4) (by rfl) (by rfl) (a.out _ _ ?_) ?_);(repeat (first|exact bR.refl _ _|apply bR.drew|apply bR.drewN|apply bR.alloc));(rintro u x ⟨b,c⟩;dsimp only)))
 all_goals
  have f:=bG b;have h:=bG c;clear b c;go_wp2_with fail
  go_ret;exact⟨_,rfl,f.out,h.out⟩
theorem b1q (k:Int):∀ (f:Nat) (b:List UInt8) (i lo hi:Int),k < i+f→0≤k→1≤i→0≤(gH k f b i lo hi).1∧(gH k f b i lo hi).1≤i+b.length∧((gH k f b i lo hi).2=true→(gH k f b i lo hi).1=0)
 | 0,b,i,lo,hi,h,h0,h1=>⟨by show 0≤k+1;omega,by show k+1≤_;omega,fun q=>by exact absurd q (by simp[gH])⟩
 | f+1,b,i,lo,hi,h,h0,h1=>by
  unfold gH;split
  ·exact⟨by show 0≤k+1;omega,by show k+1≤_;omega,fun q=>absurd q (by simp)⟩
  ·cases b with
   | nil=>exact⟨Int.le_refl _,by show (0:Int)≤_;simp;omega,fun _=>rfl⟩
   | cons c l =>
    dsimp only;split
    ·exact⟨Int.le_refl _,by show (0:Int)≤_;simp;omega,fun q=>absurd q (by simp)⟩
    ·have:=b1q k f l (i+1) 128 191 (by omega) h0 (by omega);rw[aW];exact⟨this.1,by omega,this.2.2⟩
theorem c0z (b:List UInt8):0≤(iZ b).1∧(iZ b).1≤b.length:=by
 cases b with
 | nil=>exact⟨Int.le_refl _,Int.le_refl _⟩
 | cons c l =>
  have f:=a2j c.toNat;obtain⟨k,a,d,g⟩:∃ k a d,gC c.toNat=(k,a,d):=⟨_,_,_,rfl⟩
  have e:iZ (c::l)=if k < 0 then (0,false) else gH k 4 l 1 a d:=by
   show (if (gC (c.toNat:Int)).1 < 0 then ((0:Int),false) else gH (gC (c.toNat:Int)).1 4 l 1 (gC (c.toNat:Int)).2.1 (gC (c.toNat:Int)).2.2)=_;rw[g]
  rw[g] at f;dsimp only at f;rw[e,aW];split
  ·exact⟨Int.le_refl _,by dsimp only;omega⟩
  ·have:=b1q k 4 l 1 a d (by omega) (by omega) (by omega);exact⟨this.1,by omega⟩
theorem vD (c:UInt8) (h:c.toNat < 128):iZ [c]=(1,false):=by
 have e:=zR (c.toNat:Int) (by omega);show (if (gC (c.toNat:Int)).1 < 0 then ((0:Int),false) else gH (gC (c.toNat:Int)).1 4 [] 1 (gC (c.toNat:Int)).2.1 (gC (c.toNat:Int)).2.2)=_;rw[e];rfl
theorem yE {w:World} {x:Nat} {C C':Array Value} {e e':TypeId} {f f':Nat×Nat} (h:w.heap[x]?=some (.cells C e f)) (h':w.heap[x]?=some (.cells C' e' f')):e=e':=by
 rw[h] at h';injection h' with a;injection a
theorem b1r (w:World) (g n:Nat) (N:Int) (l:List UInt8) (hd:qX w g l) (hn:n≤l.length) (hN:N=(n:Int)):Calls Tryz.prog 288 #[.pointer (some ⟨g,0,none⟩),.int .i64 N] w fun e w'=>e = .returned (.tuple #[])∧qX w' g (l.drop n)∧bR [g] w w':=by
 subst hN;exact b1p w g n l hd hn
def iF:Nat→List UInt8→List Int×List UInt8
 | 0,h=>([],h)
 | f+1,h=>if h=[]∨(iZ h).2=true then ([],h) else
  let n:=if (iZ h).1=0 then 1 else (iZ h).1
  let r:=iF f (h.drop n.toNat)
  (n::r.1,r.2)
abbrev eA (x:Int×Int):List Value:=[.int .i32 x.1,.int .i64 x.2]
theorem gI:∀ x,(eA x).length=2:=fun _=>rfl
theorem pZ:∀ x,∀ u∈eA x,u.oneCell'=true:=by intro x u a;simp[eA] at a;rcases a with rfl|rfl<;>rfl
theorem b6b:Tryz.prog.underlying 328=some (.slice 333):=by kernel_rfl
theorem a7t:(Tryz.prog.info? 333).map (fun i=>(i.zero,i.size,i.bytes))=some (some (.agg #[.int .i32 0,.int .i64 0]),2,16):=by kernel_rfl
def IBs (out:List (Int×Int)):Prop:=∀ x∈out,IB x.1
def heldN (w:World) (g:Nat):Nat:=match w.cell? ⟨g,4,none⟩ with
 | some (.int _ n)=>n.toNat
 | _=>0
theorem qX.heldN {w:World} {g:Nat} {l:List UInt8} (hd:qX w g l):heldN w g=l.length:=by
 unfold Go.Proofs.YthgnlfikneipiaaGreat.heldN;rw[hd.n.1];rfl
theorem qX.push {w:World} {g:Nat} {l:List UInt8} (hd:qX w g l) (hl:l.length≤3) (c:UInt8):qX ((w.setCell ⟨g,l.length,none⟩ (bv c)).setCell ⟨g,4,none⟩ (.int .i64 ((l.length:Int)+1))) g (l++[c])∧bR [g] w ((w.setCell ⟨g,l.length,none⟩ (bv c)).setCell ⟨g,4,none⟩ (.int .i64 ((l.length:Int)+1))):=by
 obtain⟨A,a,h,d,f⟩:=hd.ex;refine⟨⟨A.set l.length c,by rw[List.length_set];exact a,by rw[aE];simp;omega,?_,?_⟩,((bR.refl [g] w).setCell _ _ (.inl (by simp))).setCell _ _ (.inl (by simp))⟩
 ·rw[aE,List.length_singleton,List.take_add_one,List.getElem?_set_self (by omega),List.take_set_of_le (aF _),d];rfl
 ·have b:=(f.set_ l.length (bv c)).set_ 4 (.int .i64 ((l.length:Int)+1));rw[List.set_append_left _ _ (by rw[aP];omega),← List.map_set,List.set_append_right _ _ (by rw[aP,List.length_set,a];exact aF _),aP,List.length_set,a] at b;rw[aE];exact b
theorem b1s (w:World) (g:Nat) (l:List UInt8) (c:UInt8) (hd:qX w g l) (hl:l.length≤3) :
  Calls Tryz.prog 262 #[.pointer (some ⟨g,0,none⟩),.int .u8 (c.toNat:Int)] w fun e w'=>∃ v,e = .returned v∧∃ out:List (Int×Int),cF 2 eA w.heap.size 333 w' v out∧out.map (·.2)=(iF 5 (l++[c])).1∧(l=[]→c.toNat < 128→out=[((c.toNat:Int),1)])∧IBs out∧qX w' g (iF 5 (l++[c])).2∧bR [g] w w':=by
 obtain⟨c4,f4,-⟩:=hd.n;obtain⟨p1,p2⟩:=hd.push hl c;have HP:Hid (qX ((w.setCell ⟨g,l.length,none⟩ (.int .u8 (c.toNat:Int))).setCell ⟨g,4,none⟩ (.int .i64 ((l.length:Int)+1))).drew g (l++[c])):=p1.upd (bR.refl [] _).drew (by simp);have HU:Hid (bR [g] w ((w.setCell ⟨g,l.length,none⟩ (.int .u8 (c.toNat:Int))).setCell ⟨g,4,none⟩ (.int .i64 ((l.length:Int)+1))).drew):=p2.drew;obtain⟨x0,c0,f0⟩:∃ x,w.cell? ⟨g,l.length,none⟩=some x∧w.frozen? ⟨g,l.length,none⟩=false:=by
  obtain⟨A,D,h2,h3,h4⟩:=hd.ex;refine⟨bv (bT A l.length),?_,h4.frozen _⟩;rw[h4.cell,bE (by rw[aP];omega),List.getElem?_map,aO (by omega),← cO A l.length (by omega)];rfl
 have q0:(0:Int)≤l.length:=by omega
 have q1:(l.length:Int) < 4:=by omega
 have b0:l.length≠4:=by omega
 have b1:IntKind.i64.wrap ((l.length:Int)+1)=(l.length:Int)+1:=by rw[aQ];omega
 have HL:Hid ((l++[c]).length≤4):=by unfold Hid;rw[aE];simp;omega
 clear hd p1 p2;go_enter Tryz.func262,Tryz.ntmps262;go_wp2_with fail
 go_still_tail 9,(by kernel_rfl)
 change wpList _ _ _ _ _ w.drew;go_upto_region 3 with fail
 generalize ((w.setCell ⟨g,l.length,none⟩ (.int .u8 (c.toNat:Int))).setCell ⟨g,4,none⟩ (.int .i64 ((l.length:Int)+1))).drew=w1 at *
 clear c0 f0 c4 f4 q0 q1 b0 b1;go_wp2_with fail
 go_loopw [5] (fun vo wr=>∃ (h:List UInt8) (out:List (Int×Int)) (f:Nat),h.length≤4∧h.length < f∧out.length+h.length≤4∧Hid (cF 2 eA w.heap.size 333 wr vo out)∧Hid (qX wr g h)∧Hid (bR [g] w wr)∧Hid (iF 5 (l++[c])=(out.map (·.2)++(iF f h).1,(iF f h).2))∧Hid (l=[]→c.toNat < 128→(out=[]∧h=[c])∨(out=[((c.toNat:Int),1)]∧h=[]))∧Hid (IBs out)) (fun _ wr=>heldN wr g)
 case atStart=>exact⟨l++[c],[],5,HL.out,by have:=HL.out;omega,by have:=HL.out;simpa using this,cF.nil _ _ _,HP,HU,by simp[Hid],fun h _ => .inl ⟨rfl,by rw[h];rfl⟩,fun x o=>by cases o⟩
 case round =>
  clear HP HU HL;obtain⟨h,out,f,h4,hf,b9,ho,hd,hu,he,S,R⟩:=hrel;obtain⟨f,rfl⟩:∃ k,f=k+1:=⟨f-1,by omega⟩
  obtain⟨oa,ok,rfl,-⟩:=ho.out.rd gI;obtain⟨c4,f4,-⟩:=hd.out.n;have C4:=bG c4;have d:iF (f+1) h=if h=[]∨(iZ h).2=true then ([],h) else ((if (iZ h).1=0 then 1 else (iZ h).1)::(iF f (h.drop (if (iZ h).1=0 then 1 else (iZ h).1).toNat)).1,(iF f (h.drop (if (iZ h).1=0 then 1 else (iZ h).1).toNat)).2):=rfl
  by_cases p:h=[]
  ·have HE:Hid (iF 5 (l++[c])=(out.map (·.2),h)):=by unfold Hid;rw[he.out,d,if_pos (.inl p)];simp
   have HZ:Hid (l=[]→c.toNat < 128→out=[((c.toNat:Int),1)]):=fun a b=>by
    rcases S.out a b with⟨-,q⟩|q
    ·rw[p] at q;exact absurd q (by simp)
    ·exact q.1
   have q5:¬ (0:Int) < h.length:=by rw[p];simp
   clear d p he S;go_wp2_with fail
   go_ret;rw[HE.out];exact⟨_,rfl,out,ho.out,rfl,HZ.out,R.out,hd.out,hu.out⟩
  ·have a7:0 < h.length:=by rcases h with _|⟨y,h⟩<;>simp at p ⊢
   have q5:(0:Int) < h.length:=by omega
   have q6:(0:Int)≤h.length:=by omega
   have q7:(h.length:Int)≤4:=by omega
   obtain⟨n,bg,a4⟩:∃ n b,iZ h=(n,b):=⟨_,_,rfl⟩
   have a8:=c0z h;rw[a4] at a8 d;obtain⟨b6,c1⟩:=a8;have P:=bG a4;have HB:=bG hd.out.bytes;have O:=bR.refl [] wr;have Q:Hid (∀ W,bR [] wr W→Calls Tryz.prog 204 #[.slice (some ⟨g,0,none⟩) h.length 4] W fun e w'=>∃ r:Int,e = .returned (.tuple #[.int .i32 r,.int .i64 n,.bool bg])∧Hid ((bT h 0).toNat < 128→r=((bT h 0).toNat:Int))∧Hid (IB r)∧bR [] wr w'):=fun W hW=>by
    refine(a2k W _ h (HB.out.upd0 hW)).mono ?_;rw[P.out];rintro e w' ⟨r,rfl,D,h2,rfl⟩;exact⟨r,rfl,fun q=>D q a7,h2,hW⟩
   clear a4;go_wp2_with fail
   go_region_held3 (fun W=>W.cell? ⟨g,4,none⟩=some (.int .i64 (h.length:Int))) (first|go_keep|exact O.cell C4.out (by simp)) (first
    | (go_at_call 204;(with_reducible refine(Q.out _ (bR.seq O ?_)).mono ?_);(repeat (first|exact bR.refl _ _|apply bR.drew|apply bR.drewN|apply bR.alloc));(rintro _ W1 ⟨r,rfl,hr,b7,O⟩;dsimp only)))
   all_goals
    have s:=bG O;have t:=bG (ho.out.upd O (by simp));cases bg with
    | true =>
     have HE:Hid (iF 5 (l++[c])=(out.map (·.2),h)):=by unfold Hid;rw[he.out,d,if_pos (.inr rfl)];simp
     have HZ:Hid (l=[]→c.toNat < 128→out=[((c.toNat:Int),1)]):=fun a b=>by
      rcases S.out a b with⟨-,q⟩|q
      ·have D:=P.out;rw[q,vD c b] at D;exact absurd (Prod.mk.inj D).2 (by simp)
      ·exact q.1
     have b2:=bG (hd.out.upd O (by simp));have b3:=bG (hu.out.trans (T:=[g]) O (fun x o=>o) (by simp));clear d he S O hr Q;go_wp2_with fail
     go_ret;rw[HE.out];exact⟨_,rfl,out,t.out,rfl,HZ.out,R.out,b2.out,b3.out⟩
    | false =>
    by_cases a6:n=0
    ·subst a6;have U:Hid (iF 5 (l++[c])=((out++[((65533:Int),(1:Int))]).map (·.2)++(iF f (h.drop 1)).1,(iF f (h.drop 1)).2)):=by
      unfold Hid;rw[he.out,d,if_neg (by simp[p])];simp
     have V:Hid (l=[]→c.toNat < 128→(out++[((65533:Int),(1:Int))]=[]∧h.drop 1=[c])∨(out++[((65533:Int),(1:Int))]=[((c.toNat:Int),1)]∧h.drop 1=[])):=fun a b=>by
      rcases S.out a b with⟨-,q⟩|q
      ·have D:=P.out;rw[q,vD c b] at D;exact absurd (Prod.mk.inj D).1 (by decide)
      ·exact absurd q.2 p
     clear d he S hr Q;have E:=bG (t.out.upd ((bR.refl [] W1).alloc (.cells #[.int .i32 (65533),.int .i64 (1)] 333)) (by simp));have X:Hid (qW 2 eA (W1.alloc (.cells #[.int .i32 (65533),.int .i64 (1)] 333)) (.slice (some ⟨W1.heap.size,0,none⟩) 1 1) [(65533,1)]):=by
      have hb:=cU.new W1 333 [.int .i32 (65533),.int .i64 (1)];refine⟨_,1,rfl,by simp,by simp[maxLen],fun _=>⟨W1.heap.size,0,rfl,fun j hj i hi=>?_⟩⟩;simp at hj;subst hj;rw[cP,show 0+(0*2+i)=i by omega];exact hb.cell i
     have Y:Hid (w.heap.size≤(W1.alloc (.cells #[.int .i32 (65533),.int .i64 (1)] 333)).heap.size):=by have D:=hu.out.size;have h2:=s.out.size;unfold Hid;simp;omega
     have F:Hid ((out.length+[((65533:Int),(1:Int))].length)*16≤140737488355328∧out.length+[((65533:Int),(1:Int))].length≤maxLen):=by unfold Hid maxLen;simp;omega
     go_wp2_with (at_builtin;go_must (refine cQ rfl _ _ rfl (.slice oa out.length ok) (.slice (some ⟨W1.heap.size,0,none⟩) 1 1) rfl rfl (fR (c:=eA) gI (by decide) pZ b6b a7t rfl _ _ out [(65533,1)] E.out X.out F.out.1 F.out.2 Y.out) ?_;rintro v3 w3 ⟨L,M,a5⟩;have G:=bG L;have I:Hid (bR (blk (.slice oa out.length ok)) W1 w3):=((bR.refl [] W1).alloc _).trans M (by simp) (fun y hy => .inl hy);clear L M a5))
     have J:Hid (qX w3 g h):=(hd.out.upd s.out (by simp)).upd I.out (fun o=>by
      obtain⟨A,-,-,-,u⟩:=(hd.out.upd s.out (by simp)).ex;obtain⟨C,fr,z⟩:=t.out.typ g o;exact absurd (yE z u) (by decide))
     have Z:Hid (∀ x∈blk (.slice oa out.length ok),w.heap.size≤x):=fun x o=>(t.out.ge x o).1
     (with_reducible refine(b1r w3 g 1 (1) h J.out (by omega) rfl).mono ?_)
     rintro e w4 ⟨rfl,N,B⟩;have K:=bG N;have a0:Hid (bR [g] w w4):=((hu.out.trans (T:=[g]) s.out (fun x o=>o) (by simp)).trans (T:=[g]) I.out (fun x o=>o) (fun x o => .inr (Z.out x o))).trans B (fun x o=>o) (fun x o => .inl o);have a1:Hid (cF 2 eA w.heap.size 333 w4 v3 (out++[(65533,1)])):=G.out.upd B (fun x o hs=>by
      simp at hs;subst hs;obtain⟨C,fr,z⟩:=G.out.typ _ o;obtain⟨A,-,-,-,u⟩:=J.out.ex;exact absurd (yE z u) (by decide))
     have a2:=K.out.heldN;have a3:=hd.out.heldN;clear N B O;go_wp2_with fail
     go_roundw
     case rel=>exact⟨h.drop 1,out++[(65533,1)],f,by rw[aH];omega,by rw[aH];omega,by rw[aE,aH];simp;omega,a1,K,a0,U,V,fun x o=>by
      rcases aI.1 o with q|q
      ·exact R.out x q
      ·rw[List.mem_singleton.1 q];unfold IB;omega⟩
     case measure=>rw[a2,a3,aH];omega
    ·obtain⟨m,rfl⟩:=Int.eq_ofNat_of_zero_le b6;have U:Hid (iF 5 (l++[c])=((out++[((r:Int),((m:Nat):Int))]).map (·.2)++(iF f (h.drop m)).1,(iF f (h.drop m)).2)):=by
      unfold Hid;rw[he.out,d,if_neg (by simp[p]),if_neg a6,Int.toNat_natCast];simp
     have V:Hid (l=[]→c.toNat < 128→(out++[((r:Int),((m:Nat):Int))]=[]∧h.drop m=[c])∨(out++[((r:Int),((m:Nat):Int))]=[((c.toNat:Int),1)]∧h.drop m=[])):=fun a b=>by
      rcases S.out a b with⟨q1,q⟩|q
      ·have D:=P.out;rw[q,vD c b] at D;have b4:((m:Nat):Int)=1:=(Prod.mk.inj D).1.symm;have b5:m=1:=by omega
       have a9:=hr.out;rw[q,cP] at a9;refine .inr ⟨?_,by rw[q,b5];rfl⟩;rw[q1,a9 b,b4];rfl
      ·exact absurd q.2 p
     have b8:m≠0:=fun q=>a6 (by omega)
     clear d he S hr Q;have E:=bG (t.out.upd ((bR.refl [] W1).alloc (.cells #[.int .i32 (r),.int .i64 (((m:Nat):Int))] 333)) (by simp));have X:Hid (qW 2 eA (W1.alloc (.cells #[.int .i32 (r),.int .i64 (((m:Nat):Int))] 333)) (.slice (some ⟨W1.heap.size,0,none⟩) 1 1) [(r,((m:Nat):Int))]):=by
      have hb:=cU.new W1 333 [.int .i32 (r),.int .i64 (((m:Nat):Int))];refine⟨_,1,rfl,by simp,by simp[maxLen],fun _=>⟨W1.heap.size,0,rfl,fun j hj i hi=>?_⟩⟩;simp at hj;subst hj;rw[cP,show 0+(0*2+i)=i by omega];exact hb.cell i
     have Y:Hid (w.heap.size≤(W1.alloc (.cells #[.int .i32 (r),.int .i64 (((m:Nat):Int))] 333)).heap.size):=by have D:=hu.out.size;have h2:=s.out.size;unfold Hid;simp;omega
     have F:Hid ((out.length+[((r:Int),(((m:Nat):Int):Int))].length)*16≤140737488355328∧out.length+[((r:Int),(((m:Nat):Int):Int))].length≤maxLen):=by unfold Hid maxLen;simp;omega
     go_wp2_with (at_builtin;go_must (refine cQ rfl _ _ rfl (.slice oa out.length ok) (.slice (some ⟨W1.heap.size,0,none⟩) 1 1) rfl rfl (fR (c:=eA) gI (by decide) pZ b6b a7t rfl _ _ out [(r,((m:Nat):Int))] E.out X.out F.out.1 F.out.2 Y.out) ?_;rintro v3 w3 ⟨L,M,a5⟩;have G:=bG L;have I:Hid (bR (blk (.slice oa out.length ok)) W1 w3):=((bR.refl [] W1).alloc _).trans M (by simp) (fun y hy => .inl hy);clear L M a5))
     have J:Hid (qX w3 g h):=(hd.out.upd s.out (by simp)).upd I.out (fun o=>by
      obtain⟨A,-,-,-,u⟩:=(hd.out.upd s.out (by simp)).ex;obtain⟨C,fr,z⟩:=t.out.typ g o;exact absurd (yE z u) (by decide))
     have Z:Hid (∀ x∈blk (.slice oa out.length ok),w.heap.size≤x):=fun x o=>(t.out.ge x o).1
     (with_reducible refine(b1r w3 g m (((m:Nat):Int)) h J.out (by omega) rfl).mono ?_)
     rintro e w4 ⟨rfl,N,B⟩;have K:=bG N;have a0:Hid (bR [g] w w4):=((hu.out.trans (T:=[g]) s.out (fun x o=>o) (by simp)).trans (T:=[g]) I.out (fun x o=>o) (fun x o => .inr (Z.out x o))).trans B (fun x o=>o) (fun x o => .inl o);have a1:Hid (cF 2 eA w.heap.size 333 w4 v3 (out++[(r,((m:Nat):Int))])):=G.out.upd B (fun x o hs=>by
      simp at hs;subst hs;obtain⟨C,fr,z⟩:=G.out.typ _ o;obtain⟨A,-,-,-,u⟩:=J.out.ex;exact absurd (yE z u) (by decide))
     have a2:=K.out.heldN;have a3:=hd.out.heldN;clear N B O;go_wp2_with fail
     go_roundw
     case rel=>exact⟨h.drop m,out++[(r,((m:Nat):Int))],f,by rw[aH];omega,by rw[aH];omega,by rw[aE,aH];simp;omega,a1,K,a0,U,V,fun x o=>by
      rcases aI.1 o with q|q
      ·exact R.out x q
      ·rw[List.mem_singleton.1 q];exact b7.out⟩
     case measure=>rw[a2,a3,aH];omega
abbrev Ch:=Int×ByteArray
def mE (c:Ch):List UInt8:=dF c.1.toNat++hU c.2
def dX (l:List Ch):List UInt8:=dF l.length++l.flatMap mE
structure c9u (c:Ch):Prop where
 lo:0≤c.1
 hi:c.1≤40
 sz:c.2.size≤262144
theorem a5r (n:Nat):1≤(dF n).length:=by rw[fN];omega
theorem oA (s:ByteArray):(hU s).length=(dF s.size).length+s.size:=by
 unfold hU;rw[aE];have:s.data.toList.length=s.size:=by rw[bD];rfl
 omega
abbrev jB (c:Ch):List Value:=[.int .i64 c.1,sv c.2]
theorem lR:∀ x,(jB x).length=2:=fun _=>rfl
theorem b1t (k:Int) (d:ByteArray) (hk:gR k) (hd:d.size≤1000000):(mE (k,d)).length≤18+d.size:=by
 have a:=lZ k.toNat (by have:=hk.2;omega);have b:=lZ d.size (by omega);have c:=oA d;have f:=fN k.toNat;have g:=fN d.size;unfold mE;rw[aE];dsimp only;omega
theorem c4h (v:Value) (l:List UInt8) (k:Int) (d:ByteArray) (w:World) (h:eQ w v l) (hz:l.length≤70000000000) (hk:gR k) (hd:d.size≤1000000) :
  Calls Tryz.prog 188 #[v,.agg #[.int .i64 k,.string d]] w fun e w'=>∃ x,e = .returned x∧fB bv w.heap.size 5 w' x (l++mE (k,d))∧bR [] w w':=by
 have g:bR [] w (w.alloc (.cells #[.int .i64 k,.string d] 190)):=(bR.refl [] w).alloc _;have m:=bG g;have E:Hid (cU (w.alloc (.cells #[.int .i64 k,.string d] 190)) w.heap.size 190 [.int .i64 k,.string d]):=cU.new w _ [.int .i64 k,.string d];have H:=bG (h.upd0 g);obtain⟨a,B,rfl,-⟩:=h;have I:=lZ k.toNat (by have:=hk.2;omega);have o:=fN k.toNat;have p:(l++dF k.toNat).length=l.length+(1+nb k.toNat):=by rw[aE,o]
 have HE:Hid (l++mE (k,d)=(l++dF k.toNat)++hU d):=by unfold Hid mE;rw[bN]
 have HK:=bG hk;obtain⟨f,j⟩:∃ f,l++dF k.toNat=f:=⟨_,rfl⟩
 rw[j] at p HE;have u:=bG j;have z:Hid (f.length≤80000000000):=by unfold Hid;omega
 have A:Hid (l.length≤90000000000):=by unfold Hid;omega
 have J:Hid (d.size≤10000000000):=by unfold Hid;omega
 clear g hk hd I o p j hz;go_enter Tryz.func188,Tryz.ntmps188;go_wp2_with fail
 generalize w.alloc (.cells #[.int .i64 k,.string d] 190)=w1 at *
 have i:=m.out.size;have F:=E.out.cell 0;have G:=E.out.cell 1;simp only[List.getElem?_cons_zero,List.getElem?_cons_succ] at F G;have K:=bG F;have L:=bG G;have r:Hid (∀ W,bR [] w1 W→Calls Tryz.prog 123 #[.slice a l.length B,.int .i64 k] W fun e w'=>∃ x,e = .returned x∧Hid (fB bv w.heap.size 5 w' x f)∧bR [] w1 w'):=fun W hW=>by
  refine(rJ _ l k W (H.out.upd0 hW) A.out HK.out).mono ?_;rw[u.out];rintro e w' ⟨x,rfl,C,D⟩;exact⟨x,rfl,C.base_le (aL i hW.size),hW.seq D⟩
 have s:Hid (∀ W x,fB bv w.heap.size 5 W x f→bR [] w1 W→Calls Tryz.prog 121 #[x,.string d] W fun e w'=>∃ x,e = .returned x∧Hid (fB bv w.heap.size 5 w' x (f++hU d))∧bR [] w1 w'):=fun W x C hW=>by
  refine(sO x f d W C.rd z.out J.out).mono ?_;rintro e w' ⟨y,rfl,b,D⟩;exact⟨y,rfl,b.base_le (aL i hW.size),hW.seq D⟩
 have c:=bR.refl [] w1;clear i
 go_region_held3 (fun W=>W.cell? ⟨w.heap.size,0,none⟩=some (.int .i64 k)∧W.cell? ⟨w.heap.size,1,none⟩=some (.string d)) (first|go_keep|exact⟨c.cell K.out (by simp),c.cell L.out (by simp)⟩)
  (first
   | (go_at_call 123;(with_reducible refine(r.out _ (bR.seq c ?_)).mono ?_);(repeat (first|exact bR.refl _ _|apply bR.drew|apply bR.drewN|apply bR.alloc));(rintro _ W1 ⟨O,rfl,t,c⟩;dsimp only))
   | (go_at_call 121;(with_reducible refine(s.out _ O (fB.upd (S:=[]) t.out ?_ (by simp)) (bR.seq c ?_)).mono ?_);(repeat (first|exact bR.refl _ _|apply bR.drew|apply bR.drewN|apply bR.alloc));(rintro _ P ⟨x2,rfl,b,c⟩;dsimp only)))
 all_goals
  have M:=bG (show fB bv w.heap.size 5 P x2 (f++hU d) from b.out);have N:=bG (m.out.seq c);clear c r s t b;go_wp2_with fail
  go_ret;exact⟨_,rfl,by rw[HE.out];exact M.out,N.out⟩
theorem c1a:∀ (l:List Ch),(∀ c∈l,gR c.1∧c.2.size≤1000000)→(l.flatMap mE).length≤1000018*l.length
 | [],_=>by simp
 | c::l,h=>by
  have h1:=b1t c.1 c.2 (h c (by simp)).1 (h c (by simp)).2;have b:=c1a l (fun x a=>h x (by simp[a]));have d:=(h c (by simp)).2;rw[bM,aE,aW];have:(mE c).length≤18+c.2.size:=h1;omega
theorem b6c (u:Value) (ns:List Ch) (w:World) (h2:qW 2 jB w u ns) (hn:∀ c∈ns,gR c.1∧c.2.size≤1000000) (hz2:ns.length≤1000) :
  Calls Tryz.prog 187 #[.slice none 0 0,u,.func (.func 188) #[] #[]] w fun e w'=>∃ x,e = .returned x∧fB bv w.heap.size 5 w' x (dX ns)∧bR [] w w':=by
 obtain⟨a2,S,rfl,Q,hm,l⟩:=h2;have U:=bG l;have V:=bG hn;have W:=bG (fun k=>c1a (ns.take k) (fun c l=>hn c (List.mem_of_mem_take l)));clear l hn hm Q;go_enter Tryz.func187,Tryz.ntmps187;go_wp2_with fail
 (with_reducible refine(rJ _ [] (ns.length:Int) _ (Rd.nil w) (by simp) (a7p (by omega) (by omega))).mono ?_)
 rintro e w1 ⟨v1,rfl,B,C⟩;have r:=bG B;have I:=bG C;clear B C;rw[Int.toNat_natCast,List.nil_append] at r;go_wp2_with fail
 have h8:=lZ ns.length (by omega);have X:=fN ns.length;have s:Hid (dX ns=dF ns.length++(ns.take ns.length).flatMap mE):=by unfold Hid dX;rw[aV]
 generalize dF ns.length=l1 at *
 go_loopw [7,9,16] (fun b y i wr=>∃ (k:Nat) (c:List UInt8),i = .int .i64 (k:Int)∧k≤ns.length∧c=l1++(ns.take k).flatMap mE∧c.length≤9+1000018*k∧Hid (fB bv w.heap.size 5 wr b c)∧Hid (bR [] w wr)) (fun _ _ i _=>ns.length-(intOf i).toNat)
 case atStart=>exact⟨0,l1,rfl,aS _,by simp,by omega,r,I⟩
 case round =>
  obtain⟨k,c,rfl,hk,D,a0,m,G⟩:=hrel;have t:=bG D;clear D;by_cases d:k < ns.length
  ·obtain⟨b,o,rfl,l⟩:=U.out (by intro e;rw[e] at d;simp at d);have g:∀ i,i < 2→wr.cell? ⟨b,o+(k*2+i),none⟩=(jB (bT ns k))[i]?:=fun i T=>by
    have R:=l k d i T;have h2:i < (jB (bT ns k)).length:=T;rw[aO h2] at R ⊢;exact G.out.cell R (by simp)
   have a:=V.out (bT ns k) (by rw[cO ns k d];exact bP d);have J:Hid (c++mE (bT ns k)=l1++(ns.take (k+1)).flatMap mE):=by
    unfold Hid;rw[t.out,bC d,bL,cO ns k d];simp
   generalize bT ns k=x at *
   obtain⟨f,p⟩:=x;dsimp only at a;have v:=b1t f p a.1 a.2;have z:(c++mE (f,p)).length=c.length+(mE (f,p)).length:=aE;have c0:wr.cell? ⟨b,o+k*2,none⟩=some (.int .i64 f):=g 0 (by omega);have c1:wr.cell? ⟨b,o+k*2+1,none⟩=some (.string p):=g 1 (by omega);have K:Hid ((c++mE (f,p)).length≤9+1000018*(k+1)):=by have:=a.2;unfold Hid;omega
   have L:=bG a;have M:Hid (gR f):=a.1;have Y:=bG G.out;have h:=bG m.out;clear l g a v z G m;have q0:(0:Int)≤k:=by omega
   have q1:(k:Int) < ns.length:=by omega
   obtain⟨ba,bk,rfl,-⟩:=id h.out.rd;go_wp2_with fail
   have j:bR [] wr (wr.alloc (.cells #[.int .i64 f,.string p] 190)):=(bR.refl [] wr).alloc _;have A:=bG (Y.out.seq j);have N:=bG (h.out.upd j (by simp));clear j h
   (with_reducible refine(c4h _ c f p _ N.out.rd (by omega) M.out L.out.2).mono ?_)
   rintro e w2 ⟨v2,rfl,E,F⟩;have O:=bG (E.base_le A.out.size);have P:=bG (A.out.seq F);clear E F;go_wp2_with fail
   go_roundw
   case rel=>exact⟨k+1,_,by go_num,by omega,J.out,K.out,O,P⟩
   case measure=>simp[intOf];omega
  ·obtain rfl:k=ns.length:=by omega
   have Z:Hid (c=dX ns):=by unfold Hid;rw[s.out,t.out]
   go_wp2_with fail
   go_ret;exact⟨_,rfl,by rw[← Z.out];exact m.out,G.out⟩
theorem b1u (u:Value) (ns:List Ch) (w:World) (h2:qW 2 jB w u ns) (hn:∀ c∈ns,gR c.1∧c.2.size≤1000000) (hz2:ns.length≤1000) :
  Calls Tryz.prog 127 #[u] w fun e w'=>∃ x,e = .returned x∧fB bv w.heap.size 5 w' x (dX ns)∧bR [] w w':=by
 have f:=bG h2;have g:=bG hn;obtain⟨j,d,rfl,-⟩:=h2;clear hn;go_enter Tryz.func127,Tryz.ntmps127;go_wp2_with fail
 (with_reducible refine(b6c _ ns _ f.out g.out hz2).mono ?_)
 rintro e l ⟨m,rfl,a,b⟩;have h:=bG a;have i:=bG b;clear a b;go_wp2_with fail
 go_ret;exact⟨_,rfl,h.out,i.out⟩
theorem a0w {P:Program} {t e:TypeId} {size:Nat} (ht:P.underlying t=some (.slice e)) (hi:(P.info? e).map (·.size)=some size) (a:Option Addr) (n cap k:Nat) (hk:k≤n) (W:World) :
  (Instr.slice t (.slice a n cap) (some (.int .i64 (k:Int))) none none).run P W = .ok (.slice (if cap=k then a else a.map (·.add (k*size))) (n-k) (cap-k)) W:=by
 have he:P.elem t=e:=by simp[Program.elem,ht]
 obtain⟨i,c,d⟩:∃ i,P.info? e=some i∧i.size=size:=by
  cases b:P.info? e with
  | none=>simp[b] at hi
  | some i=>exact⟨i,rfl,by simpa [b] using hi⟩
 rw[run_slice_l (P:=P) (w:=W) t a n cap (by rw[he];exact ht) .i64 (k:Int) (by omega) (by omega),he];simp[sizeOf,typeInfo,c,d,sliced]
theorem sP {P:Program} {t e:TypeId} {size:Nat} (ht:P.underlying t=some (.slice e)) (hi:(P.info? e).map (·.size)=some size) (a:Option Addr) (n cap k:Nat) (hk:k≤cap) (W:World) :
  (Instr.slice t (.slice a n cap) none (some (.int .i64 (k:Int))) none).run P W = .ok (.slice a k cap) W:=by
 have he:P.elem t=e:=by simp[Program.elem,ht]
 obtain⟨i,d,f⟩:∃ i,P.info? e=some i∧i.size=size:=by
  cases c:P.info? e with
  | none=>simp[c] at hi
  | some i=>exact⟨i,rfl,by simpa [c] using hi⟩
 rw[run_slice_h (P:=P) (w:=W) t a n cap (by rw[he];exact ht) .i64 (k:Int) (by omega) (by omega),he];simp[sizeOf,typeInfo,d,f,sliced];intro _;cases a with
 | none=>rfl
 | some x=>obtain⟨b,g,arr⟩:=x;simp only[Option.map_some,Addr.add];cases arr<;>simp
theorem a2p {P:Program} {t e:TypeId} {size:Nat} (ht:P.underlying t=some (.slice e)) (hi:(P.info? e).map (·.size)=some size) (a:Option Addr) (n cap m:Nat) (hm:m≤cap) (W:World) :
  (Instr.slice t (.slice a n cap) none (some (.int .i64 (m:Int))) (some (.int .i64 (m:Int)))).run P W = .ok (.slice a m m) W:=by
 have he:P.elem t=e:=by simp[Program.elem,ht]
 obtain⟨i,d,f⟩:∃ i,P.info? e=some i∧i.size=size:=by
  cases c:P.info? e with
  | none=>simp[c] at hi
  | some i=>exact⟨i,rfl,by simpa [c] using hi⟩
 rw[run_slice_hm (P:=P) (w:=W) t a n cap (by rw[he];exact ht) .i64 .i64 (m:Int) (m:Int) (by omega) (by omega) (by omega),he];simp[sizeOf,typeInfo,d,f,sliced];intro _;cases a with
 | none=>rfl
 | some x=>obtain⟨b,g,arr⟩:=x;simp only[Option.map_some,Addr.add];cases arr<;>simp
structure Wx (w:World) where
 val:World
 prop:bR [] w val
instance (w:World):Inhabited (Wx w):=⟨⟨w,bR.refl [] w⟩⟩
structure vE {κ:Type} (lt:κ→κ→Bool):Prop where
 irr:∀ a,lt a a=false
 trans:∀ a b c,lt a b=true→lt b c=true→lt a c=true
 tot:∀ a b,lt a b=false→lt b a=false→a=b
section
variable {κ ν : Type} [Inhabited κ] [Inhabited ν] [DecidableEq κ] {lt : κ → κ → Bool}
def below (lt:κ→κ→Bool) (l:List (κ×ν)) (k:κ):Nat:=(l.takeWhile fun p=>lt p.1 k).length
def cB (lt:κ→κ→Bool) (l:List (κ×ν)) (k:κ):Bool:=decide (below lt l k < l.length∧(bT l (below lt l k)).1=k)
def dD (lt:κ→κ→Bool) (l:List (κ×ν)) (k:κ) (v:ν):List (κ×ν):=l.take (below lt l k)++(k,v)::l.drop (below lt l k+if cB lt l k then 1 else 0)
def fS (lt:κ→κ→Bool) (l:List (κ×ν)) (k:κ):List (κ×ν):=if cB lt l k then l.take (below lt l k)++l.drop (below lt l k+1) else l
def bV (lt:κ→κ→Bool) (l:List (κ×ν)):Prop:=∀ i j,i < j→j < l.length→lt (bT l i).1 (bT l j).1=true
theorem iR (l:List (κ×ν)) (k:κ):below lt l k≤l.length:=by
 unfold below
 induction l with
 | nil=>simp
 | cons p l ih=>rw[List.takeWhile_cons];split<;>simp;exact ih
theorem kJ:∀ (l:List (κ×ν)) (k:κ) (j:Nat),j < below lt l k→lt (bT l j).1 k=true
 | [],k,j,h=>by simp[below] at h
 | p::l,k,j,h=>by
  unfold below at h;rw[List.takeWhile_cons] at h;split at h
  ·rename_i hp;cases j with
   | zero=>rw[cP];exact hp
   | succ j=>rw[gK];exact kJ l k j (by simpa [below] using h)
  ·simp at h
theorem wG:∀ (l:List (κ×ν)) (k:κ),below lt l k < l.length→lt (bT l (below lt l k)).1 k=false
 | [],k,h=>by simp[below] at h
 | p::l,k,h=>by
  cases hp:lt p.1 k with
  | false =>
   have:below lt (p::l) k=0:=by unfold below;rw[List.takeWhile_cons];simp[hp]
   rw[this,cP];exact hp
  | true =>
   have e:below lt (p::l) k=below lt l k+1:=by unfold below;rw[List.takeWhile_cons];simp[hp]
   rw[e,gK];exact wG l k (by rw[e] at h;simpa using h)
theorem nD (l:List (κ×ν)) (k:κ) (i:Nat) (h1:i≤l.length) (h2:∀ j,j < i→lt (bT l j).1 k=true) (h3:i < l.length→lt (bT l i).1 k=false):below lt l k=i:=by
 rcases Nat.lt_trichotomy (below lt l k) i with h|h|h
 ·have a:=wG l k (aX h h1);rw[h2 _ h] at a;exact absurd a (by simp)
 ·exact h
 ·have a:=kJ l k i h;have b:=h3 (aX h (iR l k));rw[a] at b;exact absurd b (by simp)
def fC (lt:κ→κ→Bool) (z:ν) (l:List (κ×ν)) (k:κ):ν×Bool:=if cB lt l k then ((bT l (below lt l k)).2,true) else (z,false)
def tAt (zk:κ) (zv:ν) (l:List (κ×ν)) (i:Int):κ×ν×Bool:=if 0≤i∧i < l.length then ((bT l i.toNat).1,(bT l i.toNat).2,true) else (zk,zv,false)
theorem a2q (l:List (κ×ν)) (k:κ) (v:ν):(dD lt l k v).length≤l.length+1:=by
 unfold dD;have:=iR (lt:=lt) l k;rw[aE,aJ,aW,aH];split<;>omega
theorem b1v (l:List (κ×ν)) (k:κ):(fS lt l k).length≤l.length:=by
 unfold fS;split
 ·rw[aE,aJ,aH];omega
 ·exact aF _
theorem sQ (l:List (κ×ν)) (k:κ) (v:ν) (h:cB lt l k=true):dD lt l k v=l.set (below lt l k) ((bT l (below lt l k)).1,v):=by
 unfold dD;rw[h];unfold cB at h;obtain⟨a,b⟩:=bI h;rw[b,List.set_eq_take_append_cons_drop,if_pos a];rfl
theorem bV.mono (ho:vE lt) {l:List (κ×ν)} (h:bV lt l) (k:κ) (i j:Nat) (hij:i≤j) (hj:j < l.length) (hl:lt (bT l j).1 k=true):lt (bT l i).1 k=true:=by
 rcases Nat.lt_or_eq_of_le hij with e|e
 ·exact ho.trans _ _ _ (h i j e hj) hl
 ·rw[e];exact hl
theorem bV.nil:bV lt ([]:List (κ×ν)):=fun i j _ h=>by simp at h
theorem bV.take {l:List (κ×ν)} (h:bV lt l) (n:Nat):bV lt (l.take n):=fun i j a b=>by
 rw[aJ] at b;rw[iB l n i (by omega),iB l n j (by omega)];exact h i j a (by omega)
theorem bV.drop {l:List (κ×ν)} (h:bV lt l) (n:Nat):bV lt (l.drop n):=fun i j a b=>by
 rw[aH] at b;rw[kD,kD];exact h _ _ (by omega) (by omega)
theorem bV.app {l m:List (κ×ν)} (hl:bV lt l) (hm:bV lt m) (hlm:∀ i j,i < l.length→j < m.length→lt (bT l i).1 (bT m j).1=true):bV lt (l++m):=fun i j a d=>by
 rw[aE] at d;by_cases b:j < l.length
 ·rw[jM _ _ _ b,jM _ _ _ (by omega)];exact hl i j a b
 ·rw[iX _ _ j (by omega)];by_cases c:i < l.length
  ·rw[jM _ _ _ c];exact hlm _ _ c (by omega)
  ·rw[iX _ _ i (by omega)];exact hm _ _ (by omega) (by omega)
theorem bV.one (p:κ×ν):bV lt [p]:=fun i j a b=>by simp at b;omega
theorem a5s (ho:vE lt) {l:List (κ×ν)} (h:bV lt l) (k:κ) (j:Nat) (hj:below lt l k+(if cB lt l k then 1 else 0)≤j) (hl:j < l.length):lt k (bT l j).1=true:=by
 have c:below lt l k < l.length:=by split at hj<;>omega
 have f:=wG l k c;by_cases a:cB lt l k=true
 ·rw[if_pos a] at hj;unfold cB at a;have e:=(bI a).2;have:=h (below lt l k) j (by omega) hl;rwa[e] at this
 ·rw[if_neg a] at hj;have b:(bT l (below lt l k)).1≠k:=by
   intro e;apply a;unfold cB;exact decide_eq_true ⟨c,e⟩
  have d:lt k (bT l (below lt l k)).1=true:=by
   cases g:lt k (bT l (below lt l k)).1 with
   | true=>rfl
   | false=>exact absurd (ho.tot _ _ f g) b
  rcases Nat.lt_or_eq_of_le hj with q|q
  ·exact ho.trans _ _ _ d (h _ _ (by simpa using q) hl)
  ·rw[Nat.add_zero] at q;rw[← q];exact d
theorem bV.set_ (ho:vE lt) {l:List (κ×ν)} (h:bV lt l) (k:κ) (v:ν):bV lt (dD lt l k v):=by
 unfold dD;refine(h.take _).app ?_ ?_
 ·have:(k,v)::l.drop (below lt l k+if cB lt l k then 1 else 0)=[(k,v)]++l.drop (below lt l k+if cB lt l k then 1 else 0):=rfl;rw[this];refine(bV.one _).app (h.drop _) ?_;intro i j a b;simp at a;subst a;rw[aH] at b;rw[kD];exact a5s ho h k _ (by omega) (by omega)
 ·intro i j a b;rw[aJ] at a;rw[iB _ _ _ (by omega)];have c:=kJ (lt:=lt) l k i (by omega);cases j with
  | zero=>rw[cP];exact c
  | succ j =>
   rw[gK,kD];rw[aW,aH] at b;exact ho.trans _ _ _ c (a5s ho h k _ (by omega) (by omega))
theorem bV.del (ho:vE lt) {l:List (κ×ν)} (h:bV lt l) (k:κ):bV lt (fS lt l k):=by
 unfold fS;split
 ·refine(h.take _).app (h.drop _) ?_;intro i j a b;rw[aJ] at a;rw[aH] at b;rw[iB _ _ _ (by omega),kD];exact h _ _ (by omega) (by omega)
 ·exact h
end
theorem jH:vE (fun a b:Int=>decide (a < b)):=⟨fun a=>by simp,fun a b c=>by simp;omega,fun a b=>by simp;omega⟩
section
variable {κ ν : Type} [Inhabited κ] [Inhabited ν] [DecidableEq κ] {lt : κ → κ → Bool}
theorem c9v (ho:vE lt) {l:List (κ×ν)} (h:bV lt l) (k:κ) (i:Nat) (hi:i < l.length):lt (bT l i).1 k=decide (i < below lt l k):=by
 by_cases a:i < below lt l k
 ·rw[kJ l k i a,decide_eq_true a]
 ·rw[decide_eq_false a];cases c:lt (bT l i).1 k with
  | false=>rfl
  | true =>
   have b:=wG (lt:=lt) l k (by omega);rw[h.mono ho k (below lt l k) i (by omega) hi c] at b;exact absurd b (by simp)
theorem b1w (ho:vE lt) {l:List (κ×ν)} (h:bV lt l) (i:Nat) (hi:i < l.length):below lt l (bT l i).1=i :=
 nD l _ i (by omega) (fun j a=>h j i a hi) (fun _=>ho.irr _)
theorem c1b (ho:vE lt) {l:List (κ×ν)} (h:bV lt l) (i:Nat) (hi:i < l.length):cB lt l (bT l i).1=true:=by
 unfold cB;rw[b1w ho h i hi];exact decide_eq_true ⟨hi,rfl⟩
theorem d6g (ho:vE lt) (z:ν) {l:List (κ×ν)} (h:bV lt l) (i:Nat) (hi:i < l.length):fC lt z l (bT l i).1=((bT l i).2,true):=by
 unfold fC;rw[c1b ho h i hi,b1w ho h i hi];rfl
theorem b6d (zk:κ) (zv:ν) (l:List (κ×ν)) (i:Nat) (hi:i < l.length):tAt zk zv l (i:Int)=((bT l i).1,(bT l i).2,true):=by
 unfold tAt;rw[if_pos ⟨by omega,by omega⟩];rfl
theorem nE (l:List (κ×ν)) (k:κ) (v:ν) (p:κ×ν) (h:p∈dD lt l k v):p=(k,v)∨p∈l:=by
 unfold dD at h;rcases aI.1 h with h|h
 ·exact .inr (List.mem_of_mem_take h)
 ·rcases aG.1 h with h|h
  ·exact .inl h
  ·exact .inr (List.mem_of_mem_drop h)
theorem iG (l:List (κ×ν)) (k:κ) (p:κ×ν) (h:p∈fS lt l k):p∈l:=by
 unfold fS at h;split at h
 ·rcases aI.1 h with h|h
  ·exact List.mem_of_mem_take h
  ·exact List.mem_of_mem_drop h
 ·exact h
theorem eM {l:List (κ×ν)} (i:Nat) (hi:i < l.length):bT l i∈l:=by rw[cO l i hi];exact bP hi
end
section
variable {κ ν κ' ν' : Type} [Inhabited κ] [Inhabited ν] [DecidableEq κ] [Inhabited κ'] [Inhabited ν'] [DecidableEq κ'] {lt : κ → κ → Bool} {lt' : κ' → κ' → Bool} (f : κ → κ') (h : ν → ν') (ok : κ → Prop)
def gA (l:List (κ×ν)):List (κ'×ν'):=l.map fun p=>(f p.1,h p.2)
theorem fD (l:List (κ×ν)) (i:Nat) (hi:i < l.length):bT (gA f h l) i=(f (bT l i).1,h (bT l i).2):=by
 unfold gA;rw[cO _ _ (by simpa using hi),cO _ _ hi];simp
variable (hf : ∀ a b, ok a → ok b → lt' (f a) (f b) = lt a b) (hi : ∀ a b, ok a → ok b → f a = f b → a = b)
include hf
theorem nG (l:List (κ×ν)) (hl:∀ p∈l,ok p.1) (k:κ) (hk:ok k):below lt' (gA f h l) (f k)=below lt l k:=by
 unfold below gA
 induction l with
 | nil=>rfl
 | cons p l ih =>
  rw[List.map_cons,List.takeWhile_cons,List.takeWhile_cons];rw[hf p.1 k (hl p (by simp)) hk];split
  ·rw[aW,aW,ih (fun q a=>hl q (by simp[a]))]
  ·rfl
include hi
theorem sR (l:List (κ×ν)) (hl:∀ p∈l,ok p.1) (k:κ) (hk:ok k):cB lt' (gA f h l) (f k)=cB lt l k:=by
 unfold cB;rw[nG f h ok hf l hl k hk];have b:(gA f h l).length=l.length:=by simp[gA]
 rw[b];apply decide_eq_decide.2;constructor
 ·rintro⟨a,c⟩;rw[fD f h l _ a] at c;exact⟨a,hi _ _ (hl _ (eM _ a)) hk c⟩
 ·rintro⟨a,c⟩;refine⟨a,?_⟩;rw[fD f h l _ a];exact congrArg f c
theorem b1x (l:List (κ×ν)) (hl:∀ p∈l,ok p.1) (k:κ) (hk:ok k) (v:ν):dD lt' (gA f h l) (f k) (h v)=gA f h (dD lt l k v):=by
 unfold dD;rw[sR f h ok hf hi l hl k hk,nG f h ok hf l hl k hk];unfold gA;simp[List.map_take,List.map_drop]
theorem b1y (l:List (κ×ν)) (hl:∀ p∈l,ok p.1) (k:κ) (hk:ok k):fS lt' (gA f h l) (f k)=gA f h (fS lt l k):=by
 unfold fS;rw[sR f h ok hf hi l hl k hk,nG f h ok hf l hl k hk];unfold gA;split<;>simp[List.map_take,List.map_drop]
end
end Go.Proofs.YthgnlfikneipiaaGreat
namespace Go.Proofs.YthgnlfikneipiaaGreat
def a2r (s:BitVec 32):BitVec 32:=if s &&& 1=1 then (s >>> 1) ^^^ 0x82F63B78 else s >>> 1
def b6e (s:BitVec 32):Nat→BitVec 32
 | 0=>s
 | k+1=>a2r (b6e s k)
def c9w (s:BitVec 32) (x:UInt8):BitVec 32:=b6e (s ^^^ BitVec.ofNat 32 x.toNat) 8
def a5t (s:BitVec 32) (l:List UInt8):BitVec 32:=l.foldl c9w s
def wH (c:BitVec 32) (l:List UInt8):BitVec 32 := ~~~ (a5t (~~~ c) l)
def rO (ls:List (List UInt8)):BitVec 32:=ls.foldl wH 0
def bit (b:Bool):BitVec 32:=if b then 1 else 0
def e6d (l:List UInt8) (n:Nat):List UInt8:=l.set (n / 8) (UInt8.ofNat ((bT l (n / 8)).toNat ^^^ 2 ^ (n % 8)))
def d9v (l:List UInt8) (bt:Nat) (x:BitVec 32):Nat→List UInt8
 | 0=>l
 | k+1=>if x.getLsbD k&&decide (bt+k < 8*l.length) then e6d (d9v l bt x k) (bt+k) else d9v l bt x k
def e1m (lim len bt:Nat) (x:BitVec 32):Nat→Bool
 | 0=>false
 | k+1=>e1m lim len bt x k||(x.getLsbD k&&decide (bt+k < 8*len)&&decide ((bt+k) / 8 < lim))
open Go.RowKit
theorem b6f (s:BitVec 32) (l:List UInt8) (k:Nat) (h:k < l.length):a5t s (l.take (k+1))=c9w (a5t s (l.take k)) (bT l k):=by
 unfold a5t;rw[bC h,List.foldl_append];simp[cO l k h]
theorem a2s (s t:BitVec 32):bits .xor .u32 (s.toNat:Int) (t.toNat:Int)=((s ^^^ t).toNat:Int):=by
 rw[u32_xor_nat _ _ s.isLt t.isLt,BitVec.toNat_xor]
theorem a5u (s:BitVec 32):(bits .and .u32 (s.toNat:Int) 1==1)=decide (s &&& 1=1):=by
 have h:bits .and .u32 (s.toNat:Int) ((1:BitVec 32).toNat:Int)=((s &&& 1).toNat:Int):=by
  rw[u32_and_nat _ _ s.isLt (by decide),BitVec.toNat_and]
 have a:(((1:BitVec 32).toNat:Nat):Int)=1:=rfl;rw[a] at h;rw[h];by_cases g:s &&& 1=1
 ·rw[g];rfl
 ·have:((s &&& 1).toNat:Int)≠1:=fun e=>g (BitVec.eq_of_toNat_eq (by rw[show (s &&& 1).toNat=1 by omega];rfl))
  rw[decide_eq_false g];exact bJ.2 this
theorem b1z (s:BitVec 32):bits .xor .u32 IntKind.u32.max (s.toNat:Int)=((~~~ s).toNat:Int):=by
 have a:IntKind.u32.max=(((0xFFFFFFFF:BitVec 32).toNat:Nat):Int):=rfl;rw[a,a2s];congr 2
theorem e6e (s:BitVec 32):(s.toNat:Int) / (2:Int)=((s >>> 1).toNat:Int):=by
 rw[BitVec.toNat_ushiftRight,Nat.shiftRight_eq_div_pow];omega
theorem b6g (s:BitVec 32) (h:(bits .and .u32 (s.toNat:Int) 1==1)=true):bits .xor .u32 ((s.toNat:Int) / 2) 2197175160=((a2r s).toNat:Int):=by
 rw[a5u] at h;rw[e6e,show (2197175160:Int)=(((0x82F63B78:BitVec 32).toNat:Nat):Int) from rfl,a2s,a2r,if_pos (bI h)]
theorem b2a (s:BitVec 32) (h:(bits .and .u32 (s.toNat:Int) 1==1)=false):(s.toNat:Int) / 2=((a2r s).toNat:Int):=by
 rw[a5u] at h;rw[e6e,a2r,if_neg (of_decide_eq_false h)]
theorem c4i (s:BitVec 32) (x:UInt8):bits .xor .u32 (s.toNat:Int) (x.toNat:Int)=((s ^^^ BitVec.ofNat 32 x.toNat).toNat:Int):=by
 have b:x.toNat < 256:=x.toNat_lt;have a:((x.toNat:Nat):Int)=((BitVec.ofNat 32 x.toNat).toNat:Int):=by
  rw[BitVec.toNat_ofNat,Nat.mod_eq_of_lt (by omega)]
 rw[a,a2s]
theorem b6h (s:BitVec 32) (x:UInt8):bits .xor .u32 (s.toNat:Int) ((x.toNat:Int) % 4294967296)=((s ^^^ BitVec.ofNat 32 x.toNat).toNat:Int):=by
 have a:x.toNat < 256:=x.toNat_lt;rw[← c4i];congr 1;omega
theorem e1n (c:BitVec 32) (v:Value) (l:List UInt8) (w:World) (h:eQ w v l) :
  Calls Tryz.prog 184 #[.int .u32 (c.toNat:Int),v] w fun e w'=>e = .returned (.int .u32 ((wH c l).toNat:Int))∧w=w':=by
 obtain⟨a,x,rfl,g,m,o⟩:=h;have r:l.length≤9223372036854775807:=by unfold maxLen at m;omega
 clear m g;go_enter Tryz.func184,Tryz.ntmps184;go_wp2
 go_loop [5,13] (fun s i=>∃ k:Nat,k≤l.length∧i = .int .i64 k∧s = .int .u32 ((a5t (~~~ c) (l.take k)).toNat:Int)) (fun _ i=>l.length-(intOf i).toNat)
 case atStart=>exact⟨0,aS _,rfl,by rw[b1z];rfl⟩
 case round =>
  obtain⟨k,z,rfl,rfl⟩:=hrel;by_cases d:k < l.length
  ·obtain⟨b,y,rfl,f⟩:=o (by intro h;simp[h] at d);have t:=f k d;have u:=bG (b6f (~~~ c) l k d);clear o f;go_wp2
   go_loop [5,21] (fun s i=>∃ j:Nat,j≤8∧i = .int .i64 j∧s = .int .u32 ((b6e ((a5t (~~~ c) (l.take k)) ^^^ BitVec.ofNat 32 (bT l k).toNat) j).toNat:Int)) (fun _ i=>8-(intOf i).toNat)
   case atStart=>exact⟨0,aS _,rfl,congrArg _ (by exact b6h _ _)⟩
   case round =>
    obtain⟨j,A,rfl,rfl⟩:=hrel;by_cases p:j < 8
    ·go_wp2
     ·go_round
      case rel=>exact⟨j+1,by omega,by go_num,congrArg _ (b6g _ (by assumption))⟩
      case measure=>simp[intOf];omega
     ·go_round
      case rel=>exact⟨j+1,by omega,by go_num,congrArg _ (b2a _ (by assumption))⟩
      case measure=>simp[intOf];omega
    ·obtain rfl:j=8:=by omega
     go_wp2
     go_round
     case rel=>exact⟨k+1,by omega,by go_num,by rw[u.out];rfl⟩
     case measure=>simp[intOf];omega
  ·obtain rfl:k=l.length:=by omega
   go_wp2
   go_ret;exact⟨congrArg (fun n=>Ending.returned (.int .u32 n)) (by rw[b1z];rfl),rfl⟩
def mF (w:World) (v:Value) (ls:List (List UInt8)):Prop :=
 ∃ vs:List Value,vs.length=ls.length∧Rd id w v vs∧∀ j,j < ls.length→eQ w (bT vs j) (bT ls j)
theorem b6i (ls:List (List UInt8)) (k:Nat) (h:k < ls.length):rO (ls.take (k+1))=wH (rO (ls.take k)) (bT ls k):=by
 unfold rO;rw[bC h,List.foldl_append];simp[cO ls k h]
theorem a7u (v:Value) (ls:List (List UInt8)) (w:World) (h:mF w v ls) :
  Calls Tryz.prog 144 #[v] w fun e w'=>e = .returned (.int .u32 ((rO ls).toNat:Int))∧w=w':=by
 obtain⟨d,f,⟨a,A,rfl,o,p,r⟩,t⟩:=h;have u:d.length≤9223372036854775807:=by unfold maxLen at p;omega
 clear p o;have j:=bG f;have x:=bG t;have y:=bG r;clear f t r;go_enter Tryz.func144,Tryz.ntmps144;go_wp2
 go_loop [3,8] (fun s i=>∃ k:Nat,k≤d.length∧i = .int .i64 k∧s = .int .u32 ((rO (ls.take k)).toNat:Int)) (fun _ i=>d.length-(intOf i).toNat)
 case atStart=>exact⟨0,aS _,rfl,rfl⟩
 case round =>
  obtain⟨k,C,rfl,rfl⟩:=hrel;by_cases c:k < d.length
  ·obtain⟨b,B,rfl,g⟩:=y.out (by intro h;simp[h] at c);have l:=g k c;have m:=bG (x.out k (by rw[← j.out];exact c));have z:=bG (b6i ls k (by rw[← j.out];exact c));simp only[id] at l;clear g;go_wp2_with (go_at_call 184;refine(e1n _ _ _ _ m.out).mono ?_;rintro e w' ⟨rfl,rfl⟩)
   go_round
   case rel=>exact⟨k+1,by omega,by go_num,by rw[z.out]⟩
   case measure=>simp[intOf];omega
  ·obtain rfl:k=d.length:=by omega
   go_wp2
   go_ret;exact⟨congrArg (fun n=>Ending.returned (.int .u32 n)) (by rw[j.out,aV]),rfl⟩
theorem mF.lit {w:World} (vs:List Value) (ls:List (List UInt8)) {C:Array Value} {e:TypeId} {g n k:Nat} (hg:g=w.heap.size) (hC:C=vs.toArray) (hn:n=ls.length) (hv:vs.length=ls.length) (hk:n≤k) (hm:k≤maxLen)
  (h:∀ j,j < ls.length→eQ w (bT vs j) (bT ls j)):mF (w.alloc (.cells C e)) (.slice (some ⟨g,0,none⟩) n k) ls :=
 ⟨vs,hv,Rd.lit vs hg (by simp[hC]) (by rw[hn,hv]) hk hm,fun j a=>(h j a).alloc _⟩
theorem mF.one {w:World} (v:Value) (l:List UInt8) {C:Array Value} {e:TypeId} {g n k:Nat} (hg:g=w.heap.size) (hC:C=#[v]) (hn:n=1) (hk:k=1) (h:eQ w v l):mF (w.alloc (.cells C e)) (.slice (some ⟨g,0,none⟩) n k) [l] :=
 mF.lit [v] [l] hg (by rw[hC]) hn rfl (by omega) (by unfold maxLen;omega) (fun j a=>by
  match j,a with
  | 0,_=>exact h)
theorem mF.two {w:World} (v v':Value) (l l':List UInt8) {C:Array Value} {e:TypeId} {g n k:Nat} (hg:g=w.heap.size) (hC:C=#[v,v']) (hn:n=2) (hk:k=2) (h:eQ w v l) (h':eQ w v' l'):mF (w.alloc (.cells C e)) (.slice (some ⟨g,0,none⟩) n k) [l,l'] :=
 mF.lit [v,v'] [l,l'] hg (by rw[hC]) hn rfl (by omega) (by unfold maxLen;omega) (fun j a=>by
  match j,a with
  | 0,_=>exact h
  | 1,_=>exact h')
theorem mF.drew {w:World} {v:Value} {ls:List (List UInt8)} (h:mF w v ls):mF w.drew v ls:=h
theorem a2t (n:Nat) (hn:n < 4294967296) (w:World) :
  Calls Tryz.prog 191 #[.int .u32 (n:Int)] w fun e w'=>e = .returned (.slice (some ⟨w.heap.size,0,none⟩) 4 4)∧fB bv w.heap.size 5 w' (.slice (some ⟨w.heap.size,0,none⟩) 4 4) (mN n)∧bR [] w w':=by
 go_enter Tryz.func191,Tryz.ntmps191;go_wp2
 go_ret;exact⟨rfl,fB.lit (mN n) (aF _) rfl (by simp[mN];omega) rfl rfl (by decide),(bR.refl [] w).alloc _⟩
def dO (p:List UInt8):List UInt8:=mN p.length++(mN (rO [mN p.length,p]).toNat++p)
def mV (b p:List UInt8):List UInt8:=if p.length < 1∨262144 < p.length then b else b++dO p
theorem b2b (v u:Value) (l p:List UInt8) (w:World) (h:eQ w v l) (h2:eQ w u p) (hz:l.length≤1000000000) (hz2:p.length≤140737488351232) :
  Calls Tryz.prog 129 #[v,u] w fun e w'=>∃ x,e = .returned x∧fB bv w.heap.size 5 w' x (mV l p)∧bR [] w w':=by
 have H:=bG h;have H2:=bG h2;obtain⟨a,M,rfl,-,-,-⟩:=h;obtain⟨T,f,rfl,-,-,-⟩:=h2;have a5:=fun u=>c6y (P:=Tryz.prog) Tryz.underlying33 eV rfl u 0 (l.length+8+p.length) 0 ((l.length:Int)+8+p.length) (by omega) (by omega) (by omega) (by omega) (by omega)
 by_cases O:p.length < 1∨262144 < p.length
 ·have R:Hid (mV l p=l):=if_pos O;go_enter Tryz.func129,Tryz.ntmps129;rcases O with O|O
  all_goals go_wp2_with (at_builtin;refine fZ gE rfl (.tmp 14) (.tmp 15) rfl Tryz.underlying33 eV rfl (.slice (some ⟨w.heap.size,0,none⟩) 0 (l.length+8+p.length)) (.slice a l.length M) [] l rfl rfl (fB.room (base:=w.heap.size) (aF _) rfl (by simp) (by unfold maxLen;omega)) (H.out.alloc _) (by simp;omega) (by unfold maxLen;simp;omega) (by simp) ?_;intro v1 g c d b;rw[List.nil_append] at c;have S:Hid (bR [] w g):=((bR.refl [] w).alloc _).trans d (by simp) (by simp[blk]);have B:=bG c;clear c d b)
  all_goals go_ret
  all_goals exact⟨_,rfl,by rw[R.out];exact B.out,S.out⟩
 ·have R:Hid (mV l p=l++dO p):=if_neg O;have a6:1≤p.length:=by omega
  have a7:p.length≤262144:=by omega
  go_enter Tryz.func129,Tryz.ntmps129;go_wp2_with (at_builtin;refine fZ gE rfl (.tmp 14) (.tmp 15) rfl Tryz.underlying33 eV rfl (.slice (some ⟨w.heap.size,0,none⟩) 0 (l.length+8+p.length)) (.slice a l.length M) [] l rfl rfl (fB.room (base:=w.heap.size) (aF _) rfl (by simp) (by unfold maxLen;omega)) (H.out.alloc _) (by simp;omega) (by unfold maxLen;simp;omega) (by simp) ?_;intro v1 g c d b;rw[List.nil_append] at c;have S:Hid (bR [] w g):=((bR.refl [] w).alloc _).trans d (by simp) (by simp[blk]);have B:=bG c;clear c d b)
  refine(a2t p.length (by omega) _).mono ?_;rintro e w2 ⟨rfl,y,z⟩;have i:=bG (B.out.upd z (by simp));have j:=bG y;have m:=bG (S.out.seq z);have HD:Hid (∀ x∈blk (.slice (some ⟨g.heap.size,0,none⟩) 4 4),x∉blk v1):=fun x h1 h2=>by have:=(y.ge x h1).1;have:=(B.out.ge x h2).2;omega
  have U:=m.out.size;have V:(mN p.length).length=4:=rfl;clear y z S B;go_wp2_with (at_builtin;refine fZ gE rfl (.tmp 30) (.tmp 31) rfl Tryz.underlying33 eV rfl v1 (.slice (some ⟨g.heap.size,0,none⟩) 4 4) l (mN p.length) rfl rfl i.out j.out.rd (by simp[V];omega) (by unfold maxLen;simp[V];omega) U ?_;intro v3 w3 c d b;have o:Hid (bR [] w w3):=m.out.trans d (by simp) (fun x Q => .inr (i.out.ge x Q).1);have C:=bG c;have W:=bG b;have D:=bG (j.out.upd d HD.out);clear c d b)
  have HP:=bG (H2.out.upd0 o.out);refine(a7u _ [mN p.length,p] _ (mF.two _ _ (mN p.length) p rfl rfl rfl rfl D.out.rd HP.out)).mono ?_;rintro e w4 ⟨rfl,rfl⟩;have E:=bG (o.out.alloc (.cells #[.slice (some ⟨g.heap.size,0,none⟩) 4 4,.slice T p.length f] 33));have F:=bG (C.out.upd ((bR.refl [] w3).alloc (.cells #[.slice (some ⟨g.heap.size,0,none⟩) 4 4,.slice T p.length f] 33)) (by simp));have HS:Hid ((rO [mN p.length,p]).toNat < 4294967296):=(rO [mN p.length,p]).isLt;have G:Hid (dO p=mN p.length++(mN (rO [mN p.length,p]).toNat++p)):=rfl;generalize (w3.alloc (.cells #[.slice (some ⟨g.heap.size,0,none⟩) 4 4,.slice T p.length f] 33))=w4 at *
  generalize (rO [mN p.length,p]).toNat=sm at *
  have r:(l++mN p.length).length=l.length+4:=by rw[aE,V]
  have X:Hid (l++mN p.length++mN sm++p=mV l p):=by unfold Hid;rw[R.out,G.out];simp only[bN]
  generalize l++mN p.length=l4 at *
  clear D HP o C W HD i j m G R;go_wp2_with fail
  refine(a2t sm HS.out _).mono ?_;rintro e w5 ⟨rfl,N,A⟩;have I:=bG (F.out.upd A (by simp));have Y:=bG N.rd;have J:=bG (E.out.seq A);have Z:=J.out.size;have s:(mN sm).length=4:=rfl;have K:(l4++mN sm).length=l.length+8:=by rw[aE,s,r]
  generalize mN sm=fs at *
  generalize (.slice (some ⟨w4.heap.size,0,none⟩) 4 4:Value)=v5 at *
  clear N A E F
  go_wp2_with (first
   | (at_builtin;refine fZ gE rfl (.tmp 33) (.tmp 38) rfl Tryz.underlying33 eV rfl v3 v5 l4 fs rfl rfl I.out Y.out (by simp[r,s];omega) (by unfold maxLen;simp[r,s];omega) Z ?_;intro v6 w6 c d b;have t:Hid (bR [] w w6):=J.out.trans d (by simp) (fun x Q => .inr (I.out.ge x Q).1);have L:=bG c;have a0:=bG (H2.out.upd0 t.out);have a1:=t.out.size;clear c d b;generalize l4++fs=l6 at *)
   | (at_builtin;refine fZ gE rfl (.tmp 40) (.tmp 41) rfl Tryz.underlying33 eV rfl v6 (.slice T p.length f) l6 p rfl rfl L.out a0.out (by simp[K];omega) (by unfold maxLen;simp[K];omega) a1 ?_;intro v7 w7 c d b;have a3:Hid (bR [] w w7):=t.out.trans d (by simp) (fun x Q => .inr (L.out.ge x Q).1);have a4:=bG c;clear c d b))
  go_ret;exact⟨_,rfl,by rw[← X.out];exact a4.out,a3.out⟩
def Fit (p:List UInt8):Prop:=1≤p.length∧p.length≤262144
theorem lS (p:List UInt8):(dO p).length=8+p.length:=by simp[dO,c9k];omega
theorem a2u (b p:List UInt8) (h:Fit p):mV b p=b++dO p:=if_neg (by have:=h.1;have:=h.2;omega)
def dL (s:ByteArray):Bool:=decide (1≤s.size∧s.size≤32∧∀ j (h:j < s.size),33≤(s[j]).toNat∧(s[j]).toNat≤126)
section
variable {κ ν : Type} [Inhabited κ] [Inhabited ν] [DecidableEq κ] {lt : κ → κ → Bool}
theorem a0x {l:List (κ×ν)} {p:κ×ν} (h:p∈l):∃ i,i < l.length∧bT l i=p:=by
 obtain⟨i,a,rfl⟩:=List.mem_iff_getElem.1 h;exact⟨i,a,cO _ _ a⟩
theorem get_mem (ho:vE lt) (z:ν) {l:List (κ×ν)} (hr:bV lt l) (k:κ) (v:ν):fC lt z l k=(v,true)↔(k,v)∈l:=by
 constructor
 ·intro h;unfold fC at h;split at h
  ·rename_i a;unfold cB at a;obtain⟨b,c⟩:=bI a;injection h with d _;have:bT l (below lt l k)=(k,v):=Prod.ext c d;rw[← this];exact eM _ b
  ·injection h with _ h;exact absurd h (by simp)
 ·intro h;obtain⟨i,a,he⟩:=a0x h;have:=d6g ho z hr i a;rw[he] at this;exact this
theorem b6j (ho:vE lt) (z:ν) {l:List (κ×ν)} (hr:bV lt l) (k:κ) (h:∀ v,(k,v)∉l):fC lt z l k=(z,false):=by
 unfold fC;cases b:cB lt l k with
 | false=>rfl
 | true =>
  have a:fC lt z l k=((bT l (below lt l k)).2,true):=by unfold fC;rw[b];rfl
  exact absurd ((get_mem ho z hr k _).1 a) (h _)
theorem d6h (ho:vE lt) {l:List (κ×ν)} (hr:bV lt l) (k:κ) (v:ν) (p:κ×ν):p∈dD lt l k v↔p=(k,v)∨(p∈l∧p.1≠k):=by
 have c:=iR (lt:=lt) l k;unfold dD;constructor
 ·intro h;rcases aI.1 h with h|h
  ·refine .inr ⟨List.mem_of_mem_take h,fun e=>?_⟩;obtain⟨i,b,he⟩:=a0x h;rw[aJ] at b;rw[iB _ _ _ (by omega)] at he;have:=kJ l k i (by omega) (lt:=lt);rw[he,e,ho.irr] at this;exact absurd this (by simp)
  ·rcases aG.1 h with h|h
   ·exact .inl h
   ·refine .inr ⟨List.mem_of_mem_drop h,fun e=>?_⟩;obtain⟨i,b,he⟩:=a0x h;rw[aH] at b;rw[kD] at he;have:=a5s ho hr k (below lt l k+(if cB lt l k then 1 else 0)+i) (by omega) (by omega);rw[he,e,ho.irr] at this;exact absurd this (by simp)
 ·rintro(rfl|⟨h,hne⟩)
  ·simp
  ·obtain⟨i,b,rfl⟩:=a0x h;rcases Nat.lt_or_ge i (below lt l k) with q|q
   ·refine aI.2 (.inl ?_);rw[← iB l (below lt l k) i q];exact eM _ (by rw[aJ];omega)
   ·refine aI.2 (.inr (aT _ ?_));have hs:below lt l k+(if cB lt l k then 1 else 0)≤i:=by
     cases a:cB lt l k with
     | false=>simp;exact q
     | true =>
      unfold cB at a;obtain⟨g,f⟩:=bI a;have:below lt l k≠i:=fun e=>hne (by rw[← e];exact f)
      simp;omega
    obtain⟨d,rfl⟩:=Nat.exists_eq_add_of_le hs;rw[← kD];exact eM _ (by rw[aH];omega)
theorem c4j (z:ν) (l:List (κ×ν)) (k:κ):(∃ v,fC lt z l k=(v,true))∨fC lt z l k=(z,false):=by
 unfold fC;cases cB lt l k with
 | true=>exact .inl ⟨_,rfl⟩
 | false=>exact .inr rfl
theorem c9x (ho:vE lt) (z:ν) {l m:List (κ×ν)} (hl:bV lt l) (hm:bV lt m) (k:κ) (h:∀ v,(k,v)∈l↔(k,v)∈m):fC lt z l k=fC lt z m k:=by
 rcases c4j (lt:=lt) z l k with⟨v,b⟩|a
 ·rw[b,(get_mem ho z hm k v).2 ((h v).1 ((get_mem ho z hl k v).1 b))]
 ·rw[a,b6j ho z hm k];intro v b;rw[(get_mem ho z hl k v).2 ((h v).2 b)] at a;injection a with _ a;exact absurd a (by simp)
theorem b6k (ho:vE lt) (z:ν) {l:List (κ×ν)} (hl:bV lt l) (k k':κ) (v:ν) (hne:k'≠k):fC lt z (dD lt l k v) k'=fC lt z l k' :=
 c9x ho z (hl.set_ ho k v) hl k' fun u=>by
  rw[d6h ho hl];constructor
  ·rintro(h|h)
   ·injection h with a _;exact absurd a hne
   ·exact h.1
  ·exact fun h => .inr ⟨h,hne⟩
end
theorem zT {α:Type} {sz:Nat} {c:α→List Value} (hsz:∀ x,(c x).length=sz) (i:Nat) (hi:i < sz) (u:Value) (y:α):∀ (l:List α) (k:Nat) (hk:k < l.length),c y=(c l[k]).set i u→(l.set k y).flatMap c=(l.flatMap c).set (k*sz+i) u
 | x::l,0,_,h=>by
  simp only[List.set_cons_zero,bM,Nat.zero_mul,aM];rw[List.set_append_left _ _ (by rw[hsz];exact hi)];simp only[List.getElem_cons_zero] at h;rw[h]
 | x::l,k+1,hk,h=>by
  simp only[List.set_cons_succ,bM];have e:(k+1)*sz+i=(c x).length+(k*sz+i):=by rw[hsz,Nat.add_mul];omega
  rw[e,List.set_append_right _ _ (by omega),Nat.add_sub_cancel_left];rw[zT hsz i hi u y l k (by simpa using hk) (by simpa using h)]
theorem cF.set_ {α:Type} {sz:Nat} {c:α→List Value} {base:Nat} {e:TypeId} {w:World} {g n cap:Nat} {l:List α} (hsz:∀ x,(c x).length=sz) (h:cF sz c base e w (.slice (some ⟨g,0,none⟩) n cap) l) (k i:Nat) (hk:k < l.length) (hi:i < sz) (u:Value) (y:α) (hy:c y=(c l[k]).set i u) :
  cF sz c base e (w.setCell ⟨g,k*sz+i,none⟩ u) (.slice (some ⟨g,0,none⟩) n cap) (l.set k y):=by
 obtain⟨v,f⟩:=h;rcases f with⟨he,_⟩|⟨z,d,a,he,j,m,o,p,hs,r⟩
 ·simp at he
 ·injection he with b s t;injection b with b;injection b with b;subst b;subst s;subst t;refine⟨by rw[dH hsz],.inr ⟨g,cap,a.setIfInBounds (k*sz+i) u,by simp,j,?_,by simpa using o,p,by simpa using hs,?_⟩⟩
  ·exact heap_setCell_same w g (k*sz+i) a e u m
  ·rw[List.length_set,Array.toList_setIfInBounds,List.take_set,r,zT hsz i hi u y l k hk hy]
end Go.Proofs.YthgnlfikneipiaaGreat
