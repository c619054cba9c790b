/- Texts of the proof, joined. -/
import Derived.Test.YthgnlfikneipiaaGreatMg1
import Derived.Laws.IdiomStrings
import Derived.Lib.AppendStr
import Derived.Test.YthgnlfikneipiaaGreatProg
import Derived.KernelRfl
set_option linter.unusedSimpArgs false
set_option linter.unusedVariables false
set_option linter.unusedSectionVars false
set_option maxRecDepth 100000
set_option maxHeartbeats 4000000
namespace Go.Eng
variable [fP]
open Go.RowKit
variable {P : Program} {w : World} {G : GM} {O : Nat → Prop} {F : Fr} {a : Act}
theorem qR (hF:∀ x,dv G (ev F x)=some (a.eval x)) {x:Operand} {n:Nat} (h:nU (ev F x)=some n):∃ k,a.eval x = .int k (n:Int):=b0b h (hF x)
theorem xP (hF:∀ x,dv G (ev F x)=some (a.eval x)) {lo hi:Option Operand} {l h len cap:Nat} (h1:opN F 0 lo=some l) (h2:opN F len hi=some h) (hlh:l≤h) (hh:h≤cap) (b:Bool) :
  (Instr.sliceBounds b len cap (lo.map a.eval) (hi.map a.eval) none).run P w = .ok (l,h,cap) w:=by
 have d:∀ z:Sem Nat,((match (hi.map a.eval),(none:Option Value) with
   | some v,some _=>Instr.sliceBound v cap .slice3B
   | some v,none=>Instr.sliceBound v cap (if b then .sliceAcap else .sliceAlen)
   | none,none=>pure len
   | none,some _=>z:Sem Nat)).run P w = .ok h w:=by
  intro z;cases hi with
  | none=>cases h2;rfl
  | some x =>
   obtain⟨k,c⟩:=qR hF h2;simp only[Option.map_some,c];rw[run_sliceBound w k _ _ _ (by omega) (by omega)];simp
 have f:((match (lo.map a.eval) with
   | some v=>Instr.sliceBound v h .sliceB
   | none=>pure 0:Sem Nat)).run P w = .ok l w:=by
  cases lo with
  | none=>cases h1;rfl
  | some x =>
   obtain⟨k,c⟩:=qR hF h1;simp only[Option.map_some,c];rw[run_sliceBound w k _ _ _ (by omega) (by omega)];simp
 unfold Instr.sliceBounds;simp only[Sem.run_bind,Sem.run_pure,Result.andThen_ok];cases hi<;>cases lo<;>simp only[Option.map_none,Option.map_some] at d f ⊢<;>simp[d,f]<;>simp_all
theorem a1o (hF:∀ x,dv G (ev F x)=some (a.eval x)) {lo:Option Operand} {ho mo:Operand} {l h m len cap:Nat} (h1:opN F 0 lo=some l) (h2:nU (ev F ho)=some h) (h3:nU (ev F mo)=some m) (hlh:l≤h) (hh:h≤m) (hm:m≤cap) :
  (Instr.sliceBounds true len cap (lo.map a.eval) (some (a.eval ho)) (some (a.eval mo))).run P w = .ok (l,h,m) w:=by
 obtain⟨f,g⟩:=qR hF h2;obtain⟨i,j⟩:=qR hF h3;have b:=run_sliceBound (P:=P) w i (m:Int) cap .slice3Acap (by omega) (by omega);have c:=run_sliceBound (P:=P) w f (h:Int) m .slice3B (by omega) (by omega);have d:((match (lo.map a.eval) with
   | some v=>Instr.sliceBound v h .slice3C
   | none=>pure 0:Sem Nat)).run P w = .ok l w:=by
  cases lo with
  | none=>cases h1;rfl
  | some x =>
   obtain⟨k,o⟩:=qR hF h1;simp only[Option.map_some,o];rw[run_sliceBound w k _ _ _ (by omega) (by omega)];simp
 unfold Instr.sliceBounds;simp only[Int.toNat_natCast] at b c;cases lo<;>simp only[Option.map_none,Option.map_some] at d ⊢<;>simp[g,j,b,c,d]<;>simp_all
theorem gS {t n:Nat} (h:(P.info? t).map (·.size)=some n):(sizeOf t).run P w = .ok n w:=by
 obtain⟨i,a,b⟩:=aB.1 h;simp[sizeOf,typeInfo,a,b]
theorem vT.esize {t ti} (ht:vT P t ti) (hk:ti.tk.arr=true∨ti.tk.sl=true):(P.info? ti.el).map (·.size)=some ti.es:=by
 obtain⟨i,z,a,b,_⟩:=ht.el hk;rw[a];exact congrArg some b
theorem dB (b off j:Nat):(⟨b,off,none⟩:Addr).add j=⟨b,off+j,none⟩:=by unfold Addr.add;split<;>simp_all
theorem a4x {t:Nat} {ti:TI} (ht:vT P t ti) (hk:ti.tk.sl=true) (hF:∀ x,dv G (ev F x)=some (a.eval x)) {lo hi:Option Operand} {l h len cap:Nat} (h1:opN F 0 lo=some l) (h2:opN F len hi=some h) (hlh:l≤h) (hh:h≤cap) (ao:Addr) :
  (Instr.sliceAt t (.slice (some ao) len cap) (lo.map a.eval) (hi.map a.eval) none).run P w = .ok (.slice (some (if cap=l then ao else ao.add (l*ti.es))) (h-l) (cap-l)) w:=by
 have b:=ht.sli hk;simp only[Instr.sliceAt,Instr.slice,Sem.run_bind,run_underlying b,Result.andThen_ok,xP (P:=P) (w:=w) hF h1 h2 hlh hh true,gS (ht.esize (.inr hk))];by_cases e:cap=l<;>simp[e]
theorem d5d {t:Nat} {ti:TI} (ht:vT P t ti) (hk:ti.tk.arr=true) (hF:∀ x,dv G (ev F x)=some (a.eval x)) {lo hi:Option Operand} {l h:Nat} (h1:opN F 0 lo=some l) (h2:opN F ti.len hi=some h) (hlh:l≤h) (hh:h≤ti.len) (ao:Addr) :
  (Instr.sliceAt t (.pointer (some ao)) (lo.map a.eval) (hi.map a.eval) none).run P w = .ok (.slice (some (if ti.len=l then ao else ao.add (l*ti.es))) (h-l) (ti.len-l)) w:=by
 have b:=ht.ar hk;simp only[Instr.sliceAt,Instr.sureAddr,Sem.run_bind,run_underlying b,Result.andThen_ok,Sem.run_pure,xP (P:=P) (w:=w) hF h1 h2 hlh hh false,gS (ht.esize (.inl hk))]
structure e5m (P:Program) (op:Op) (a:Act) (w:World) (G:GM) (O:Nat→Prop) (S':St) (v:AV):Prop where
 run:∃ n u w' G' O',(∀ d ty ps af gd,(execOp a.eval ⟨d,op,ty,ps,af,gd⟩).run P w = .ok n w')∧(n = .value u∨(n = .skip∧u=undef))∧dv G' v=some u∧gP w' G' O' S'.H S'.nx∧oZ w G O w' G' O'
def c7p (P:Program) (o:Op) (S S':St) (v:AV):Prop :=
 S'.F=S.F∧S'.H=S.H∧S'.nx=S.nx∧(∀ p∈S.obs,p∈S'.obs)∧((∀ p∈S'.obs,p)→∀ {w:World} {G:GM} {O:Nat→Prop} {a:Act},(∀ x,dv G (ev S.F x)=some (a.eval x))→Sat0 w G O S.H→∃ u,dv G v=some u∧∀ d ty ps af gd,(execOp a.eval ⟨d,o,ty,ps,af,gd⟩).run P w = .ok (.value u) w)
def d5e (P:Program) (o:Op) (S S':St) (v:AV):Prop :=
 ∃ (e:TypeId) (cs:List AV) (vf:Nat→Value),S'={ S with H:=(S.nx,.row e cs)::S.H,nx:=S.nx+1 }∧(∀ G,dv G v=(G S.nx).map fun x=>vf x.g) ∧
  ∀ {w:World} {G:GM} {a:Act},(∀ x,dv G (ev S.F x)=some (a.eval x))→∃ us,dG G cs=some us∧∀ d ty ps af gd,(execOp a.eval ⟨d,o,ty,ps,af,gd⟩).run P w = .ok (.value (vf w.heap.size)) (w.alloc (.cells us.toArray e))
def c7q (P:Program) (E:iU) (o:Op) (S S':St) (v:AV):Prop :=
 (dC E o=false∨(a1i o=false∧S'.nx=S.nx+1)) ∧   S'.F=S.F∧(∃ pre,S'.H=pre++S.H)∧S.nx≤S'.nx∧S'.obs=S.obs∧∀ {w:World} {G:GM} {O:Nat→Prop} {a:Act},(∀ x,dv G (ev S.F x)=some (a.eval x))→gP w G O S.H S.nx→e5m P o a w G O S' v
def kZ (P:Program) (E:iU) (o:Op) (S S':St) (v:AV):Prop :=
 c7p P o S S' v∨d5e P o S S' v∨c7q P E o S S' v
theorem kZ.val {E:iU} {o:Op} {S:St} {v:AV} (k:∀ {w:World} {G:GM} {O:Nat→Prop} {a:Act},(∀ x,dv G (ev S.F x)=some (a.eval x))→Sat0 w G O S.H→∃ u,dv G v=some u∧∀ d ty ps af gd,(execOp a.eval ⟨d,o,ty,ps,af,gd⟩).run P w = .ok (.value u) w):kZ P E o S S v :=
 .inl ⟨rfl,rfl,rfl,fun _ h=>h,fun _ _ _ _ _ b c=>k b c⟩
theorem kZ.new {E:iU} {o:Op} {S:St} {v:AV} (e:TypeId) (cs:List AV) (vf:Nat→Value) (hv:∀ G,dv G v=(G S.nx).map fun x=>vf x.g) (k:∀ {w:World} {G:GM} {a:Act},(∀ x,dv G (ev S.F x)=some (a.eval x))→∃ us,dG G cs=some us∧∀ d ty ps af gd,(execOp a.eval ⟨d,o,ty,ps,af,gd⟩).run P w = .ok (.value (vf w.heap.size)) (w.alloc (.cells us.toArray e))):kZ P E o S { S with H:=(S.nx,.row e cs)::S.H,nx:=S.nx+1 } v :=
 .inr (.inl ⟨e,cs,vf,rfl,hv,k⟩)
theorem bU {α} {c:Bool} {x:Option α} {y:α} (h:(bif c then x else none)=some y):c=true∧x=some y:=by
 cases c
 ·cases h
 ·exact⟨rfl,h⟩
theorem rC {w:World} {G:GM} {O:Nat→Prop} {H:Hp} (hS:Sat0 w G O H) {es:Nat} {x:AV} {cs:List AV} {m:Nat} {u:Value} (h:oX H es x=some cs) (hm:mU x=some m) (hu:dv G x=some u) (hpos:0 < m*es) :
  ∃ g off c us,u = .slice (some ⟨g,off,none⟩) m c∧dG G cs=some us∧us.length=m*es∧w.rangeAt g off us:=by
 unfold oX at h;split at h
 ·cases hm;omega
 ·rename_i i off n c;cases hm;obtain⟨b,y,h⟩:=aA.1 h;obtain⟨a,l⟩:=bU h;cases l;have A:=aC a;obtain⟨x,us,L,e,C,p,D,E,M,_⟩:=hS.cells y (fun q=>by rw[q] at A;simp at A;omega);obtain⟨g,F,rfl⟩:=aB.1 (show Option.map _ (G i)=_ from hu);rw[F] at p;cases p;have f:=lP (qZ D off) (m*es);refine⟨x.g,off,c,_,rfl,f,by rw[dM f,A],fun j v J=>?_⟩;rw[cell_of_row w x.g (off+j) _ e C E];have:=lL _ _ _ _ _ J;simp[bE (aU.1 this).1,this]
 ·rename_i i o n;cases hm;obtain⟨a,l⟩:=bU h;obtain⟨b,y,B⟩:=aA.1 l;cases B;obtain⟨z,r,I,t,K⟩:=hS.holds a;have d:(o+m)*es≤b.cs.length:=by
   unfold holds at a;rw[y] at a;cases b with
   | gro e s cs =>
    replace a:(Nat.beq s es&&Nat.ble ((o+m)*es) cs.length)=true:=a
    rw[aD] at a;exact aN a.2
   | fro e cs =>
    replace a:(Nat.beq 1 es&&Nat.ble (o+m) cs.length)=true:=a
    rw[aD] at a;have l:=aC a.1;subst l;have B:=aN a.2;rw[Nat.mul_one];exact B
   | _=>cases a
  rw[Nat.add_mul] at d;obtain⟨x,us,L,e,C,p,D,E,M,_⟩:=hS.cells y (fun q=>by rw[q] at d;simp at d;omega);obtain⟨g,F,rfl⟩:=aB.1 (show Option.map _ (G i)=_ from hu);rw[F] at p r;cases p;cases r;have f:=lP (qZ D (o*es)) (m*es);refine⟨z.g,o*z.sz,z.cap-o,_,by rw[t,aM],f,by rw[dM f];simp;omega,fun j v J=>?_⟩;rw[cell_of_row w z.g _ _ e C E,I];have:=lL _ _ _ _ _ J;simp[bE (aU.1 this).1,this]
 ·cases h
theorem c7r {G:GM}:∀ {cs:List AV} {l:List UInt8} {us:List Value},u8s cs=some l→dG G cs=some us→us=l.map fun b=>Value.int .u8 (b.toNat:Int)
 | [],l,us,h,e=>by cases h;cases e;rfl
 | c::cs,l,us,h,e=>by
  obtain⟨u,r,h1,h2,rfl⟩:=bS.1 e;unfold u8s at h;split at h
  ·rename_i q;cases q
  ·rename_i n a q;cases q;obtain⟨d,f⟩:=bU h;obtain⟨i,g,rfl⟩:=aB.1 f;cases h1;have:n < 256:=by simpa [Nat.blt_eq] using d
   rw[c7r g h2];simp[Nat.mod_eq_of_lt this]
  ·cases h
theorem xQ:∀ l:List UInt8,dG G (l.map fun c=>AV.int .u8 (c.toNat:Nat))=some (l.map fun c=>Value.int .u8 c.toNat)
 | []=>rfl
 | c::l=>bS.2 ⟨_,_,rfl,xQ l,rfl⟩
theorem b9y:∀ {vs:List AV} {k:Nat} {v:AV} {us:List Value},bT vs k=some v→uQ G vs=some us→∃ u,us[k]?=some u∧d2 G v=some u
 | [],k,v,us,h,e=>by cases h
 | a::vs,k,v,us,h,e=>by
  simp only[uQ,aA,aB] at e;obtain⟨u,h1,r,h2,rfl⟩:=e;cases k with
  | zero=>cases h;exact⟨u,rfl,h1⟩
  | succ k=>obtain⟨b,c,d⟩:=b9y (k:=k) h h2;exact⟨b,by simpa using c,d⟩
theorem uR:∀ {es:List (Int×AV)} {us:List (Int×Value)},gL G es=some us→es.length=us.length
 | [],us,h=>by cases h;rfl
 | (k,b)::l,us,h=>by
  simp only[gL,aA,aB] at h;obtain⟨u,_,r,h2,rfl⟩:=h;simp[uR h2]
theorem a1p {n:Int} {a:AV} {v:Value} (ha:dn G a=some v):∀ {es:List (Int×AV)} {us:List (Int×Value)},gL G es=some us→gL G (a0d n a es)=some (oK n v us)∧(a0d n a es).length=(oK n v us).length
 | [],us,h=>by cases h;exact⟨by simp[a0d,oK,gL,ha],rfl⟩
 | (k,b)::l,us,h=>by
  simp only[gL,aA,aB] at h;obtain⟨u,h1,r,h2,rfl⟩:=h;obtain⟨i1,d⟩:=a1p (n:=n) ha h2;by_cases e:n=k
  ·subst e;have c:=uR h2;exact⟨by simp[a0d,oK,gL,ha,h2],by simp[a0d,oK,c]⟩
  ·exact⟨by simp[a0d,oK,gL,e,h1,i1],by simp[a0d,oK,e,d]⟩
theorem a1q {n:Int}:∀ {es:List (Int×AV)} {us:List (Int×Value)} {j:Nat},gL G es=some us→match c7g n es with
  | some a=>∃ u i,fnd us n j=some (i,u)∧dn G a=some u
  | none=>fnd us n j=none
 | [],us,j,h=>by cases h;rfl
 | (k,b)::l,us,j,h=>by
  simp only[gL,aA,aB] at h;obtain⟨u,h1,r,h2,rfl⟩:=h;by_cases e:n=k
  ·subst e;simp only[c7g,fnd,decide_true,cond_true,if_true];exact⟨u,j,rfl,h1⟩
  ·simp only[c7g,fnd,e,decide_false,cond_false,if_false];exact a1q h2
theorem a4y {E:iU} (hE:∀ t ti,E.tt t=some ti→vT P t ti) {o:Op} {t:TypeId} {m k x:Operand} {S S':St} {v:AV} (hq:dC E o=false) (ho:∀ (ρ:Operand→Value) d ty ps af gd w w',(Instr.mapUpdate t (ρ m) (ρ k) (ρ x)).run P w = .ok () w'→(execOp ρ ⟨d,o,ty,ps,af,gd⟩).run P w = .ok .skip w')
  (h:a6q E t (ev S.F m) (ev S.F k) (ev S.F x) S=some (v,S')):kZ P E o S S' v:=by
 unfold a6q at h;obtain⟨ti,V,J⟩:=aA.1 h;cases U:ti.tk.mp&&gY (ev S.F x)<;>rw[U] at J
 ·obtain⟨s,b⟩:=bU J;rw[aD] at s;obtain⟨s,l⟩:=s;split at b
  ·rename_i i cs K L;split at b
   ·rename_i c p;obtain⟨W,h6⟩:=bU b;cases h6;rw[aD] at W;refine .inr (.inr ⟨.inl hq,rfl,⟨[_],rfl⟩,aF _,rfl,fun {w G O a} hF hS=>?_⟩);have hd:=(hE t ti V).desc;cases A:ti.tk<;>rw[A] at s hd<;>first|(cases s;done)|skip
    obtain⟨kt,fs,M,d2,d3,_⟩:=hd;obtain⟨g,z,g2,X,N,B,Y,C⟩:=hS.bs i _ p trivial;cases B;have D:a.eval m = .map (some g.g):=by
     have:=hF m;rw[K] at this;have:=(show (G i).map _=_ from this);rw[z] at this;exact(aK this).symm
    have r:=hF k;rw[L] at r;obtain⟨ks,hks,Q⟩:=aB.1 (show (dG G cs).map _=_ from r);have f:=dM hks;have u:=aC W.1;obtain⟨o,j⟩:=a6u (cs:=ks.toArray) M d2 (by rw[List.size_toArray,f,u];exact d3) C (a.eval x);have I:cJ (fun y=>y=g.g) w { w with heap:=w.heap.setIfInBounds g.g o }:=⟨rfl,rfl,rfl,by simp,fun k A u=>by simp[Array.getElem?_setIfInBounds_ne (Ne.symm u)]⟩
    obtain⟨R,T⟩:=hS.set (b' := .dead) p trivial z I trivial;refine⟨.skip,undef,_,G,O,fun _ _ _ _ _=>ho _ _ _ _ _ _ _ _ (by rw[D,← Q];exact j),.inr ⟨rfl,rfl⟩,rfl,R,T⟩
   ·cases b
  ·cases b
 have b:_=some (v,S'):=J;simp only[cond_true] at b;rw[aD] at U;obtain⟨s,l⟩:=U;split at b
 ·rename_i i n K L;split at b
  ·rename_i Z c p;cases b;refine .inr (.inr ⟨.inl hq,rfl,⟨[_],rfl⟩,aF _,rfl,fun {w G O a} hF hS=>?_⟩);have hd:=(hE t ti V).desc;cases A:ti.tk<;>rw[A] at s hd<;>first|(cases s;done)|skip
   obtain⟨kt,M,d2,_⟩:=hd;obtain⟨g,z,g2,X,N,B,Y,C⟩:=hS.bs i _ p trivial;have D:a.eval m = .map (some g.g):=by
    have:=hF m;rw[K] at this;have:=(show (G i).map _=_ from this);rw[z] at this;exact(aK this).symm
   have r:a.eval k = .int .i64 n:=by have:=hF k;rw[L] at this;exact(aK this).symm
   have hx:dn G (ev S.F x)=some (a.eval x):=by
    have:=hF x;rw[pO (fun cs e=>by rw[e] at l;cases l),a0l (fun cs e=>by rw[e] at l;cases l)] at this;exact this
   have f:=uR B;rw[Y,f] at C;obtain⟨q1,q2⟩:=a1p (n:=n) hx B;have j:=a6t M d2 C n (a.eval x);have I:cJ (fun y=>y=g.g) w { w with heap:=w.heap.setIfInBounds g.g (.map (eS (oK n (a.eval x) N) 0).toArray (oK n (a.eval x) N).length) }:=⟨rfl,rfl,rfl,by simp,fun k A u=>by simp[Array.getElem?_setIfInBounds_ne (Ne.symm u)]⟩
   obtain⟨R,T⟩:=hS.set (b' := .mp (a0d n (ev S.F x) Z) (a0d n (ev S.F x) Z).length) p trivial z I ⟨_,q1,rfl,by rw[q2];simp[X]⟩;refine⟨.skip,undef,_,G,O,fun _ _ _ _ _=>ho _ _ _ _ _ _ _ _ (by rw[D,r];exact j),.inr ⟨rfl,rfl⟩,rfl,R,T⟩
  ·cases b
 ·cases b
theorem vV {G:GM}:∀ {cs:List AV} {us:List Value} {k:Nat} {b:AV},dG G cs=some us→bT cs k=some b→∃ u,us[k]?=some u∧dn G b=some u
 | [],us,k,b,_,h=>by cases k<;>cases h
 | c::cs,us,k,b,h,h2=>by
  obtain⟨u,r,g1,g2,rfl⟩:=bS.1 h;cases k with
  | zero=>cases h2;exact⟨u,rfl,g1⟩
  | succ k =>
   obtain⟨a,d,f⟩:=vV g2 (show bT cs k=some b from h2);exact⟨a,by simpa using d,f⟩
theorem c3i {w:World} {g k:Nat} {C:Array Value} {e:TypeId} (h:w.heap[g]?=some (.cells C e (0,0))):(w.freeze ⟨g,k,none⟩ 1).heap[g]?=some (.cells C e (k,k+1)):=by
 unfold World.freeze;rw[if_neg (by decide)];simp[Array.getElem?_modify,h]
theorem b5g (w:World) (g k:Nat):cJ (fun y=>y=g) w (w.freeze ⟨g,k,none⟩ 1):=by
 unfold World.freeze;rw[if_neg (by decide)];refine⟨rfl,rfl,rfl,by simp,fun j b a=>?_⟩;have a:¬ g=j:=fun e=>a e.symm
 simp[Array.getElem?_modify,a]
theorem vW (w:World) (t e:TypeId) (C:Array Value) (n c g:Nat) (ht:P.underlying t=some (.slice e)) (he:P.underlying e=some (.int .u8)) (hg:w.heap[g]?=some (.cells C e (0,0))) :
  (Go.convert t t (.slice (some ⟨g,0,none⟩) n c)).run P w = .ok (.slice (some ⟨g,0,none⟩) n c) (w.freeze ⟨g,C.size,none⟩ 1):=by
 have a:w.shape? g=some (e,C.size):=by unfold World.shape?;rw[hg]
 simp[Go.convert,run_underlying ht,run_underlying he,markStringish,a]
theorem xR {E:iU} (hE:∀ t ti,E.tt t=some ti→vT P t ti) (hbd:BD E.bd) {o:Op} {S S':St} {v:AV} (h:qU E o S=some (v,S')):kZ P E o S S' v:=by
 cases o with
 | move x=>cases h;exact .val fun A _=>⟨_,A x,fun _ _ _ _ _=>rfl⟩
 | assign x=>cases h;exact .val fun A _=>⟨_,A x,fun _ _ _ _ _=>rfl⟩
 | pick c x y =>
  simp only[qU] at h;split at h
  ·rename_i t V;cases h;refine .val fun {w G O a} A _=>?_
   have a6:a.eval c = .bool t:=by have:=A c;rw[V] at this;exact(aK this).symm
   cases t
   ·exact⟨_,A y,fun _ _ _ _ _=>by simp[execOp,a6,asBool]⟩
   ·exact⟨_,A x,fun _ _ _ _ _=>by simp[execOp,a6,asBool]⟩
  ·cases h
 | alloc t =>
  obtain⟨ti,N,U⟩:=aA.1 h;cases U;obtain⟨i,z,Z,k2,k3,k4⟩:=(hE t ti N).info;refine .new _ _ (fun g => .pointer (some ⟨g,0,none⟩)) (fun G=>rfl) fun {w G a} A=>⟨_,cT (a4u G) k4,fun _ _ _ _ _=>?_⟩
  simp[execOp,Instr.alloc,zeroValue,typeInfo,Z,k3,newVar,newRow]
 | box t x =>
  obtain⟨N,U⟩:=bU h;cases U;refine .new _ _ (fun g => .pointer (some ⟨g,0,none⟩)) (fun G=>rfl) fun {w G a} A=>⟨_,a1l N (A x),fun _ _ _ _ _=>?_⟩
  simp[execOp,Instr.box,newVar,newRow]
 | build t ps =>
  obtain⟨ti,N,U⟩:=aA.1 h;obtain⟨Q,L⟩:=bU U;obtain⟨cs,B,I⟩:=aB.1 L;cases I;refine .val fun {w G O a} A _=>?_
  obtain⟨u,Z,k2⟩:=c7k (P:=P) (w:=w) (hE t ti N) Q A B;refine⟨u,k2,fun _ _ _ _ _=>?_⟩;simp only[execOp,Sem.run_bind,Z,Result.andThen_ok,Sem.run_pure]
 | buildSlice t n ps =>
  obtain⟨ti,N,U⟩:=aA.1 h;obtain⟨Q,L⟩:=bU U;obtain⟨cs,B,I⟩:=aB.1 L;cases I;simp only[aD] at Q;obtain⟨⟨Q,K⟩,T⟩:=Q;have V:=hE t ti N;obtain⟨i,z,Z,k2,k3,k4,k5,k6⟩:=V.el (.inr Q);refine .new _ _ (fun g => .slice (some ⟨g,0,none⟩) n n) (fun G=>rfl) fun {w G a} A=>?_
  have b3:=cT (a4u G) k5;obtain⟨ws,g1,g2⟩:=a6r A _ _ _ _ B (a0n b3 n);have hz:z.cells.size=ti.es:=k4.trans k2;have a2:0 < ti.es:=by simpa [Nat.blt_eq] using T
  have b4:¬ (n*ti.es > 2 ^ 24):=by have:=aN K;omega
  refine⟨_,g2,fun _ _ _ _ _=>?_⟩;have e1:(ps.map fun x=>(x.1,a.eval x.2)).toList=ps.toList.map fun p=>(p.1,a.eval p.2):=by simp
  have a7:((Array.range (n*ti.es)).map fun j=>z.cells[j % z.cells.size]!)=((List.replicate n z.cells.toList).flatten).toArray:=by rw[← hz];exact a1m z.cells n
  have hu:=run_underlying (V.sli Q) w;have a8:=gS (P:=P) (w:=w) (V.esize (.inr Q));by_cases e:n*ti.es=0
  ·have hn:n=0:=by rcases Nat.mul_eq_zero.1 e with q|q;exact q;omega
   subst hn;simp only[List.replicate_zero,List.flatten_nil] at g1;simp only[execOp,Instr.buildSlice,Sem.run_bind,hu,Result.andThen_ok,a8,Sem.run_pure,Nat.zero_mul,if_true,e1];simp[g1,newRow,show Array.range 0=#[] from rfl]
  ·have b5:(zeroValue ti.el).run P w = .ok z w:=by simp[zeroValue,typeInfo,Z,k3]
   simp only[execOp,Instr.buildSlice,Sem.run_bind,hu,Result.andThen_ok,a8,b4,if_false,Sem.run_pure,e,b5,a7,e1,g1];simp[newRow]
 | load t x =>
  simp only[qU] at h;split at h
  ·rename_i i M he;obtain⟨ti,N,U⟩:=aA.1 h;obtain⟨u,Q,L⟩:=aB.1 U;cases L;refine .val fun {w G O a} A R=>?_
   have D:=A x;rw[he] at D;obtain⟨g,W,hp⟩:=aB.1 (show Option.map _ (G i)=_ from D);obtain⟨u',Z,k2⟩:=b9v (hE t ti N) R Q W;refine⟨u',k2,fun _ _ _ _ _=>?_⟩;simp only[execOp,← hp,Sem.run_bind,Z,Result.andThen_ok,Sem.run_pure]
  ·cases h
 | store t x y =>
  simp only[qU] at h;split at h
  ·rename_i i M he;obtain⟨ti,N,U⟩:=aA.1 h;obtain⟨Q,L⟩:=bU U;obtain⟨H',B,I⟩:=aB.1 L;cases I;refine .inr (.inr ⟨.inl rfl,rfl,by
    unfold oJ at B;obtain⟨b,_,I⟩:=aA.1 B;obtain⟨b',_,rfl⟩:=aB.1 I;exact⟨[(i,b')],rfl⟩,aF _,rfl,fun {w G O a} A R=>?_⟩)
   have D:=A x;rw[he] at D;obtain⟨g,W,hp⟩:=aB.1 (show Option.map _ (G i)=_ from D);obtain⟨w',Z,k2,k3⟩:=c7j (hE t ti N) R Q B (A y) W;refine⟨.skip,undef,w',G,O,fun _ _ _ _ _=>?_,.inr ⟨rfl,rfl⟩,rfl,k2,k3⟩;simp only[execOp,← hp,Sem.run_bind,Z,Result.andThen_ok,Sem.run_pure]
  ·cases h
 | nilCheck x =>
  simp only[qU] at h;split at h
  ·rename_i i M he;cases h;refine .val fun {w G O a} A _=>?_
   have D:=A x;rw[he] at D;obtain⟨g,W,hp⟩:=aB.1 (show Option.map _ (G i)=_ from D);exact⟨_,D,fun _ _ _ _ _=>by simp only[execOp,← hp,Sem.run_pure]⟩
  ·cases h
 | binOp op t x y ty =>
  obtain⟨ti,N,U⟩:=aA.1 h;obtain⟨v',Q,L⟩:=aB.1 U;cases L;refine .inl ⟨rfl,rfl,rfl,fun _ h=>h,fun ho w G O a A R=>?_⟩;obtain⟨u,Z,k2,k3⟩:=c7o hbd (hE t ti N) Q (A x) (A y) w x y;refine⟨u,k3,fun _ _ _ _ _=>?_⟩;simp only[execOp,Sem.run_bind,Z,k2,Result.andThen_ok,Sem.run_pure]
 | unOp op t x =>
  simp only[qU] at h;split at h
  ·rename_i b he;cases h;refine .val fun {w G O a} A _=>⟨.bool !b,rfl,fun _ _ _ _ _=>?_⟩
   have D:a.eval x = .bool b:=by have:=A x;rw[he] at this;exact(aK this).symm
   simp[execOp,D,Op.unary]
  ·rename_i k n he;cases h;refine .val fun {w G O a} A _=>⟨_,rfl,fun _ _ _ _ _=>?_⟩
   have D:a.eval x = .int k n:=by have:=A x;rw[he] at this;exact(aK this).symm
   simp[execOp,D,Op.unary,Op.intBits]
  ·cases h
 | fieldAddr t x f =>
  simp only[qU] at h;split at h
  ·rename_i i M he;obtain⟨ti,N,U⟩:=aA.1 h;obtain⟨Q,L⟩:=bU U;obtain⟨p,B,I⟩:=aA.1 L;obtain⟨K,T⟩:=bU I;cases T;have K:0 < p.2.1:=by simpa [Nat.blt_eq] using K
   refine .val fun {w G O a} A _=>?_
   have D:=A x;rw[he] at D;obtain⟨g,W,hp⟩:=aB.1 (show Option.map _ (G i)=_ from D);obtain⟨fs,Z,_,k3⟩:=(hE t ti N).st Q;obtain⟨fd,i',d,k4,k5,k6,k7,_⟩:=k3 f p B;have a4:=gS (P:=P) (w:=w) (t:=fd.type) (n:=p.2.1) (by rw[k6];exact congrArg some k7);refine⟨.pointer (some ⟨g.g,M+p.1,none⟩),by show Option.map _ (G i)=_;rw[W];rfl,fun _ _ _ _ _=>?_⟩;simp[execOp,← hp,Instr.fieldAt,run_underlying Z,k4,Instr.sureAddr,fieldPlace,k5,a4,show p.2.1≠0 by omega,dB]
  ·cases h
 | extract x k =>
  simp only[qU] at h;split at h
  ·rename_i vs he;obtain⟨u,N,U⟩:=aB.1 h;cases U;refine .val fun {w G O a} A _=>?_
   have D:=A x;rw[he] at D;obtain⟨us,hu,hp⟩:=aB.1 (show Option.map _ (uQ G vs)=_ from D);obtain⟨u',Z,k2⟩:=b9y N hu;refine⟨u',a1j k2,fun _ _ _ _ _=>?_⟩;simp[execOp,← hp,Instr.extract,Z]
  ·cases h
 | convert s d x =>
  obtain⟨si,N,U⟩:=aA.1 h;obtain⟨ti,Q,L⟩:=aA.1 U;obtain⟨sd,c3,_⟩:=(hE s si N).row;have V:=hE d ti Q;split at L
  ·rename_i k kk e hk hn;have hd:=V.desc;rw[hk] at hd;obtain⟨v',B,I⟩:=aB.1 L;cases I;refine .val fun {w G O a} A _=>⟨_,c7l hbd B G,fun _ _ _ _ _=>?_⟩
   have D:=jG hn (A x);simp[execOp,D,Go.convert,run_underlying c3,run_underlying hd,Conv.intToInt]
  ·rename_i hk hn;split at L
   ·rename_i b hb;obtain⟨B,I⟩:=bU L;cases I;simp only[aD] at B;obtain⟨⟨B,K⟩,T⟩:=B;refine .inr (.inr ⟨.inl (by simp[dC,Q,hk]),rfl,⟨[_],rfl⟩,Nat.le_succ _,rfl,fun {w G O a} A R=>?_⟩);have hd:=V.desc;rw[hk] at hd;have D:a.eval x = .string b:=by have:=A x;rw[hb] at this;exact(aK this).symm
    have hr:=run_bytes_of_string (P:=P) w s d ti.el b ((hE s si N).isS B) hd (V.eu8 K);have d7:b.size≤grownCap w b.size 0 ti.el:=by unfold grownCap Question.cut;simp
    have b6:∀ G:GM,dG G (b.data.toList.map fun c=>AV.int .u8 (c.toNat:Nat))=some (b.data.toList.map fun c=>Value.int .u8 c.toNat):=fun G=>xQ _
    have b7:=R.drew
    obtain⟨q1,q2⟩:=b7.new (.cells (bytesRow b (grownCap w b.size 0 ti.el)) ti.el ((bytesRow b (grownCap w b.size 0 ti.el)).size,(bytesRow b (grownCap w b.size 0 ti.el)).size+1)) ⟨w.heap.size,grownCap w b.size 0 ti.el,1,0,undef⟩ (.fro ti.el (b.data.toList.map fun c => .int .u8 (c.toNat:Nat))) rfl
     ⟨⟨rfl,rfl⟩,_,List.replicate (grownCap w b.size 0 ti.el-b.size) (.int .u8 0),_,b6 _,by rw[show (b.data.toList.map fun c=>Value.int .u8 c.toNat)++List.replicate (grownCap w b.size 0 ti.el-b.size) (.int .u8 0)=(bytesRow b (grownCap w b.size 0 ti.el)).toList by simp[bytesRow]];exact heap_alloc_new _ _,by
      have:b.data.size=b.size:=rfl;simp;omega⟩
    refine⟨_,.slice (some ⟨w.heap.size,0,none⟩) b.size (grownCap w b.size 0 ti.el),_,_,_,fun _ _ _ _ _=>?_,.inl rfl,cZ ?_,q1,oZ.drew.trans q2⟩
    ·simp only[execOp,D,Sem.run_bind,hr,Result.andThen_ok,Sem.run_pure];rfl
    ·simp[dn]
   ·rename_i i M n c hb;obtain⟨blk,g1,g2⟩:=aA.1 L;split at g2
    ·rename_i e cs;obtain⟨B,I⟩:=bU g2;cases I;simp only[aD] at B;obtain⟨⟨⟨⟨⟨B,I⟩,K⟩,T⟩,h9⟩,C⟩:=B;have:=aC B;subst this;have:=aC K;subst this;have:=aC T;subst this;have:=aC h9;subst this;have b8:=aC C;refine .inr (.inr ⟨.inl (by simp[dC,Q,hk]),rfl,⟨[_,_],rfl⟩,Nat.le_succ _,rfl,fun {w G O a} A R=>?_⟩);have hd:=V.desc;rw[hk] at hd;obtain⟨g,q1,q2,q3,us,q4,q5⟩:=R.bs i _ g1 trivial;have D:=A x;rw[hb] at D;have D:a.eval x = .slice (some ⟨g.g,0,none⟩) c c:=by
      have:=(show (G i).map _=_ from D);rw[q1] at this;exact(aK this).symm
     have hr:=vW w s ti.el us.toArray c c g.g hd (V.eu8 I) q5;have b9:=dM q4;have hf:(w.freeze ⟨g.g,us.toArray.size,none⟩ 1).heap[g.g]?=some (.cells us.toArray ti.el (us.toArray.size,us.toArray.size+1)):=c3i q5;have hu:cJ (fun y=>y=g.g) w (w.freeze ⟨g.g,us.toArray.size,none⟩ 1):=b5g w g.g _;have a1:=R.kill i;have c1:BS (w.freeze ⟨g.g,us.toArray.size,none⟩ 1) (fun j=>if j=S.nx then some ⟨g.g,c,1,0,undef⟩ else G j) ⟨g.g,c,1,0,undef⟩ (.fro ti.el cs) :=
      ⟨⟨rfl,rfl⟩,us,[],_,cT (fun j y hj=>by
       have:=R.lt hj;show (if j=S.nx then _ else _)=_;rw[if_neg (by omega)];exact hj) q4,by rw[bA];exact hf,by rw[b9,b8];rfl⟩
     obtain⟨z1,z2⟩:=a1.rebind ⟨g.g,c,1,0,undef⟩ (.fro ti.el cs) hu (fun j c' y hj hc hy=>by
      rw[cH] at hj;by_cases e:j=i
      ·rw[if_pos e] at hj;cases hj;exact hc.elim
      ·rw[if_neg e] at hj;have:y.g≠g.g:=fun q=>e (R.inj j i _ _ y g hj hc g1 trivial hy q1 q)
       exact⟨this,this⟩) (.inl q2) (fun y hy=>by rw[hy];exact .inl q2) (aX q3 hu.size) (fun k az d0=>by
      have a9:cK S.H 0=some (.gho k az):=pP (by simp) k az d0;obtain⟨c4,F0,f0,f1,f2,f3⟩:=R.gh k az a9;have b0:∀ x,F0 x→x≠g.g:=fun x D e=>f3 i _ g g1 trivial q1 (by rw[← e];exact D)
      exact⟨c4,F0,f0,f1,fun x D=>⟨(f2 x D).1,fun q=>q.elim (b0 x D) (b0 x D)⟩,fun j c y hj hc hy=>by
       rw[cH] at hj;by_cases e:j=i
       ·rw[if_pos e] at hj;cases hj;exact hc.elim
       ·rw[if_neg e] at hj;exact f3 j c y hj hc hy⟩) c1
     refine⟨_,.slice (some ⟨g.g,0,none⟩) c c,_,_,_,fun _ _ _ _ _=>?_,.inl rfl,cZ ?_,z1,z2⟩
     ·simp only[execOp,D,Sem.run_bind,hr,Result.andThen_ok,Sem.run_pure]
     ·simp[dn]
    ·cases g2
   ·cases L
  ·rename_i hk hn;split at L
   ·rename_i hb;obtain⟨B,I⟩:=bU L;cases I;rw[aD] at B;refine .val fun {w G O a} A R=>⟨_,rfl,fun _ _ _ _ _=>?_⟩
    have D:a.eval x = .slice none 0 0:=by have:=A x;rw[hb] at this;exact(aK this).symm
    have hr:=run_convert_bytes_string (P:=P) w s d si.el none 0 0 ((hE s si N).sli B.1) ((hE s si N).eu8 B.2) (V.isS (by rw[hk];rfl));have hb:(Conv.bytesToString (.slice none 0 0)).run P w = .ok (.string .empty) w:=rfl;simp only[execOp,D,Sem.run_bind,hr,hb,Result.andThen_ok,Sem.run_pure]
   ·obtain⟨B,I⟩:=bU L;obtain⟨n,K,T⟩:=aA.1 I;obtain⟨h9,C⟩:=bU T;obtain⟨cs,J,X⟩:=aA.1 C;obtain⟨l,a3,c5⟩:=aB.1 X;cases c5;rw[aD] at B;have hn:0 < n:=by simpa [Nat.blt_eq] using h9
    refine .val fun {w G O a} A R=>⟨_,rfl,fun _ _ _ _ _=>?_⟩
    obtain⟨g,M,c,us,hu,Z,k2,k3⟩:=rC R J K (A x) (by omega);have:=c7r a3 Z;subst this;have hl:l.length=n:=by simpa using k2
    have hr:=run_convert_bytes_back (P:=P) w s d si.el ⟨g,M,none⟩ c l ((hE s si N).sli B.1) ((hE s si N).eu8 B.2) (V.isS (by rw[hk];rfl)) (fun j hj=>by
     rw[dB];exact k3 j _ (by simp[hj]))
    rw[hl] at hr;simp only[execOp,hu,Sem.run_bind,hr,Result.andThen_ok,Sem.run_pure]
  ·cases L
 | makeSlice t l c =>
  obtain⟨ti,N,U⟩:=aA.1 h;obtain⟨n,Q,L⟩:=aA.1 U;obtain⟨m,B,I⟩:=aA.1 L;obtain⟨K,T⟩:=bU I;cases T;simp only[aD] at K;obtain⟨⟨⟨K,h9⟩,C⟩,J⟩:=K;have h9:=aN h9;have C:=aN C;have J:=aN J;have V:=hE t ti N;obtain⟨i,z,Z,k2,k3,k4,k5,k6⟩:=V.el (.inr K);refine .new _ _ (fun g => .slice (some ⟨g,0,none⟩) n m) (fun G=>rfl) fun {w G a} A=>?_
  obtain⟨kl,hl⟩:=qR A Q;obtain⟨kc,hc⟩:=qR A B;refine⟨_,a0n (cT (a4u G) k5) m,fun _ _ _ _ _=>?_⟩;have hr:=run_make (P:=P) w t ti.el i z (V.sli K) Z k3 kl kc n m (by omega) (by omega) (by rw[k6,← Int.natCast_mul,Nat.mul_comm];omega) (by omega);have hm:madeCells z.cells (m*i.size)=((List.replicate m z.cells.toList).flatten).toArray:=by rw[← k4];exact a1m z.cells m
  simp only[Int.toNat_natCast,hm] at hr;simp only[execOp,hl,hc,Sem.run_bind,hr,Result.andThen_ok,Sem.run_pure]
 | slice t x lo hi mx =>
  cases mx with
  | some mo =>
   obtain⟨ti,N,U⟩:=aA.1 h;obtain⟨l,Q,L⟩:=aA.1 U;obtain⟨m,B,I⟩:=aA.1 L;obtain⟨hh,K,T⟩:=aA.1 I;obtain⟨ho,rfl,K⟩:=aA.1 K;have V:=hE t ti N;split at T
   ·rename_i i o n he;obtain⟨h9,C⟩:=bU T;cases C;simp only[aD] at h9;obtain⟨⟨⟨⟨h9,C⟩,J⟩,X⟩,a3⟩:=h9;have J:=aN J;have X:=aN X;have a3:=aN a3;refine .val fun {w G O a} A R=>?_
    obtain⟨g,W,hs,c6,hc⟩:=R.holds C;have D:a.eval x = .slice (some ⟨g.g,o*g.sz,none⟩) n (g.cap-o):=by
     have:=A x;rw[he] at this;have:=(show (G i).map _=_ from this);rw[W] at this;have:=(aK this).symm;rw[this];simp only[c6,aM]
    have hb:=a1o (P:=P) (w:=w) (len:=n) (cap:=g.cap-o) A Q K B J X (by omega);refine⟨.slice (some ⟨g.g,(bif Nat.beq m l then o*ti.es else (o+l)*ti.es),none⟩) (hh-l) (m-l),by show (G i).map _=_;rw[W];rfl,fun _ _ _ _ _=>?_⟩;simp only[execOp,D,Instr.sliceAt,Instr.slice,Sem.run_bind,run_underlying (V.sli h9),Result.andThen_ok,Option.map_some,hb,gS (V.esize (.inr h9)),Sem.run_pure];congr 4;by_cases e:m=l
    ·subst e;simp[hs]
    ·rw[if_neg e];have:Nat.beq m l=false:=by
      cases hq:Nat.beq m l
      ·rfl
      ·exact absurd (aC hq) e
     rw[this,dB,hs,cond_false,Nat.add_mul]
   ·rename_i he;obtain⟨h9,C⟩:=bU T;cases C;simp only[aD] at h9;obtain⟨⟨⟨h9,C⟩,J⟩,X⟩:=h9;have C:=aC C;have J:=aC J;have X:=aC X;subst C;subst J;subst X;refine .val fun {w G O a} A R=>⟨_,rfl,fun _ _ _ _ _=>?_⟩
    have D:a.eval x = .slice none 0 0:=by have:=A x;rw[he] at this;exact(aK this).symm
    have hb:=a1o (P:=P) (w:=w) (len:=0) (cap:=0) A Q K B (aF _) (aF _) (aF _);simp only[execOp,D,Instr.sliceAt,Instr.slice,Sem.run_bind,run_underlying (V.sli h9),Result.andThen_ok,Option.map_some,hb,gS (V.esize (.inr h9)),Sem.run_pure];rfl
   ·cases T
  | none =>
   obtain⟨ti,N,U⟩:=aA.1 h;obtain⟨l,Q,L⟩:=aA.1 U;have V:=hE t ti N;split at L
   ·rename_i i o n he;obtain⟨hh,B,I⟩:=aA.1 L;obtain⟨K,T⟩:=bU I;simp only[aD] at K;obtain⟨⟨⟨K,h9⟩,C⟩,J⟩:=K;have C:=aN C;have J:=aN J;have key:∀ {w:World} {G:GM} {O:Nat→Prop} {a:Act},(∀ x,dv G (ev S.F x)=some (a.eval x))→Sat0 w G O S.H→∃ g,G i=some g∧g.sz=ti.es∧g.off=0∧o+n≤g.cap∧∀ d ty ps af gd,(execOp a.eval ⟨d,.slice t x lo hi none,ty,ps,af,gd⟩).run P w = .ok (.value (.slice (some (if g.cap-o=l then ⟨g.g,o*g.sz,none⟩ else (⟨g.g,o*g.sz,none⟩:Addr).add (l*ti.es))) (hh-l) (g.cap-o-l))) w:=by
     intro w G O a A R;obtain⟨g,W,hs,ho,hc⟩:=R.holds h9;have D:a.eval x = .slice (some ⟨g.g,o*g.sz,none⟩) n (g.cap-o):=by
      have:=A x;rw[he] at this;have:=(show (G i).map _=_ from this);rw[W] at this;have:=(aK this).symm;rw[this];simp only[ho,aM]
     have hr:=a4x (P:=P) (w:=w) V K A (cap:=g.cap-o) Q B C (by omega) ⟨g.g,o*g.sz,none⟩;refine⟨g,W,hs,ho,hc,fun _ _ _ _ _=>?_⟩;simp only[execOp,D,Sem.run_bind,Option.map_none,hr,Result.andThen_ok,Sem.run_pure]
    cases X:Nat.beq l 0||Nat.blt l n<;>rw[X] at T
    ·cases T;refine .inr (.inr ⟨.inr ⟨rfl,rfl⟩,rfl,⟨[],rfl⟩,Nat.le_succ _,rfl,fun {w G O a} A R=>?_⟩);obtain⟨g,W,hs,ho,hc,hr⟩:=key A R.toSat0;have hl:hh-l=0:=by
      simp only[Bool.or_eq_false_iff] at X;have:¬ l < n:=fun q=>by have:=X.2;rw[show Nat.blt l n=true from by simpa [Nat.blt_eq] using q] at this;cases this
      omega
     rw[hl] at hr;obtain⟨Z,k2⟩:=R.bind ⟨(if g.cap-o=l then (⟨g.g,o*g.sz,none⟩:Addr) else (⟨g.g,o*g.sz,none⟩:Addr).add (l*ti.es)).block,g.cap-o-l,0,(if g.cap-o=l then (⟨g.g,o*g.sz,none⟩:Addr) else (⟨g.g,o*g.sz,none⟩:Addr).add (l*ti.es)).off,undef⟩;refine⟨_,_,w,_,O,hr,.inl rfl,cZ ?_,Z,k2⟩;simp only[dn,if_true,Option.map_some,Nat.zero_mul,Nat.add_zero,Nat.sub_zero];congr 3;split
     ·rfl
     ·rw[dB]
    ·cases T;refine .val fun {w G O a} A R=>?_
     obtain⟨g,W,hs,ho,hc,hr⟩:=key A R;refine⟨.slice (some ⟨g.g,g.off+(o+l)*g.sz,none⟩) (hh-l) (g.cap-(o+l)),by show (G i).map _=_;rw[W];rfl,fun d ty ps af gd=>?_⟩;rw[hr];have hl:l=0∨l < n:=by
      simp only[Bool.or_eq_true] at X;rcases X with q|q
      ·exact .inl (aC q)
      ·exact .inr (by simpa [Nat.blt_eq] using q)
     have ha:(if g.cap-o=l then (⟨g.g,o*g.sz,none⟩:Addr) else (⟨g.g,o*g.sz,none⟩:Addr).add (l*ti.es))=⟨g.g,g.off+(o+l)*g.sz,none⟩:=by
      rw[ho,aM];rcases hl with rfl|hl
      ·split<;>simp[Addr.add]
      ·rw[if_neg (by omega),dB,hs,Nat.add_mul]
     rw[ha,Nat.sub_sub]
   ·rename_i he;obtain⟨hh,B,I⟩:=aA.1 L;obtain⟨K,T⟩:=bU I;cases T;simp only[aD] at K;obtain⟨⟨K,C⟩,J⟩:=K;have C:=aC C;have J:=aC J;subst C;subst J;refine .val fun {w G O a} A R=>⟨_,rfl,fun _ _ _ _ _=>?_⟩
    have D:a.eval x = .slice none 0 0:=by have:=A x;rw[he] at this;exact(aK this).symm
    simp only[execOp,D,Instr.sliceAt,Instr.slice,Sem.run_bind,run_underlying (V.sli K),Result.andThen_ok,Option.map_none,xP (P:=P) (w:=w) A Q B (aF _) (aF _) true,gS (V.esize (.inr K)),Sem.run_pure];rfl
   ·rename_i i M n c he;obtain⟨hh,B,I⟩:=aA.1 L;obtain⟨K,T⟩:=bU I;cases T;simp only[aD] at K;obtain⟨⟨K,C⟩,J⟩:=K;have C:=aN C;have J:=aN J;refine .val fun {w G O a} A R=>?_
    have D:=A x;rw[he] at D;obtain⟨g,W,hp⟩:=aB.1 (show Option.map _ (G i)=_ from D);have hr:=a4x (P:=P) (w:=w) V K A (cap:=c) Q B C J ⟨g.g,M,none⟩;refine⟨_,by show (G i).map _=_;rw[W];rfl,fun _ _ _ _ _=>?_⟩;simp only[execOp,← hp,Sem.run_bind,Option.map_none,hr,Result.andThen_ok,Sem.run_pure];have ha:(if c=l then (⟨g.g,M,none⟩:Addr) else (⟨g.g,M,none⟩:Addr).add (l*ti.es))=⟨g.g,(bif Nat.beq c l then M else M+l*ti.es),none⟩:=by
     by_cases e:c=l
     ·subst e;simp
     ·have:Nat.beq c l=false:=by cases hq:Nat.beq c l;rfl;exact absurd (aC hq) e
      rw[if_neg e,dB,this];rfl
    rw[ha]
   ·rename_i i M he;obtain⟨hh,B,I⟩:=aA.1 L;obtain⟨K,T⟩:=bU I;cases T;simp only[aD] at K;obtain⟨⟨K,C⟩,J⟩:=K;have C:=aN C;have J:=aN J;refine .val fun {w G O a} A R=>?_
    have D:=A x;rw[he] at D;obtain⟨g,W,hp⟩:=aB.1 (show Option.map _ (G i)=_ from D);have hr:=d5d (P:=P) (w:=w) V K A Q B C J ⟨g.g,M,none⟩;refine⟨_,by show (G i).map _=_;rw[W];rfl,fun _ _ _ _ _=>?_⟩;simp only[execOp,← hp,Sem.run_bind,Option.map_none,hr,Result.andThen_ok,Sem.run_pure];have ha:(if ti.len=l then (⟨g.g,M,none⟩:Addr) else (⟨g.g,M,none⟩:Addr).add (l*ti.es))=⟨g.g,(bif Nat.beq ti.len l then M else M+l*ti.es),none⟩:=by
     by_cases e:ti.len=l
     ·rw[if_pos e,e];simp
     ·have:Nat.beq ti.len l=false:=by cases hq:Nat.beq ti.len l;rfl;exact absurd (aC hq) e
      rw[if_neg e,dB,this];rfl
    rw[ha]
   ·cases L
 | field t x f =>
  simp only[qU] at h;split at h
  ·rename_i cs he;obtain⟨ti,N,U⟩:=aA.1 h;obtain⟨Q,L⟩:=bU U;obtain⟨p,B,I⟩:=aA.1 L;obtain⟨u,K,T⟩:=aB.1 I;cases T;refine .val fun {w G O a} A _=>?_
   have D:=A x;rw[he] at D;obtain⟨us,hu,hp⟩:=aB.1 (show Option.map _ (dG G cs)=_ from D);obtain⟨fs,Z,_,k3⟩:=(hE t ti N).st Q;obtain⟨fd,i',d,k4,k5,k6,k7,k8,k9⟩:=k3 f p B;have a4:=gS (P:=P) (w:=w) (t:=fd.type) (n:=p.2.1) (by rw[k6];exact congrArg some k7);have hd:=lP (qZ hu p.1) p.2.1;obtain⟨g1,g2⟩:=b9u K hd;have a0:(isAgg fd.type).run P w = .ok p.2.2 w:=by
    unfold isAgg;rw[Sem.run_bind,run_underlying k8 w,← k9];cases d<;>rfl
   cases hb:p.2.2<;>rw[hb] at g2 a0
   ·obtain⟨u',g3,g4⟩:=g2;refine⟨u',g4,fun _ _ _ _ _=>?_⟩;have b1:us[p.1]?=some u':=by
     have:=lL us p.1 p.2.1 0 u' (by rw[g3];rfl);simpa using this
    simp[execOp,← hp,Instr.field,run_underlying Z,k4,asAgg,Go.part,a0,k5,b1]
   ·refine⟨_,g2,fun _ _ _ _ _=>?_⟩;simp[execOp,← hp,Instr.field,run_underlying Z,k4,asAgg,Go.part,a0,k5,a4,List.take_drop]
  ·cases h
 | indexAddr t x i =>
  obtain⟨ti,N,U⟩:=aA.1 h;obtain⟨k,Q,L⟩:=aA.1 U;have V:=hE t ti N;split at L
  ·rename_i b o n he;obtain⟨B,I⟩:=bU L;cases I;simp only[aD] at B;obtain⟨⟨B,K⟩,T⟩:=B;have T:k < n:=by simpa [Nat.blt_eq] using T
   refine .val fun {w G O a} A R=>?_
   obtain⟨g,W,hs,ho,hc⟩:=R.holds K;have D:a.eval x = .slice (some ⟨g.g,o*g.sz,none⟩) n (g.cap-o):=by
    have:=A x;rw[he] at this;have:=(show (G b).map _=_ from this);rw[W] at this;have:=(aK this).symm;rw[this];simp only[ho,aM]
   obtain⟨ki,hi⟩:=qR A Q;refine⟨.pointer (some ⟨g.g,(o+k)*ti.es,none⟩),by show (G b).map _=_;rw[W];rfl,fun _ _ _ _ _=>?_⟩;simp[execOp,D,hi,Instr.indexAt,asIntOf,run_underlying (V.sli B),gS (V.esize (.inr B)),dB,hs,Nat.add_mul];exact fun q=>absurd q (by omega)
  ·rename_i b M n c he;obtain⟨B,I⟩:=bU L;cases I;simp only[aD] at B;obtain⟨B,T⟩:=B;have T:k < n:=by simpa [Nat.blt_eq] using T
   refine .val fun {w G O a} A R=>?_
   have D:=A x;rw[he] at D;obtain⟨g,W,hp⟩:=aB.1 (show Option.map _ (G b)=_ from D);obtain⟨ki,hi⟩:=qR A Q;refine⟨.pointer (some ⟨g.g,M+k*ti.es,none⟩),by show (G b).map _=_;rw[W];rfl,fun _ _ _ _ _=>?_⟩;simp[execOp,← hp,hi,Instr.indexAt,asIntOf,run_underlying (V.sli B),gS (V.esize (.inr B)),dB];exact fun q=>absurd q (by omega)
  ·rename_i b M he;obtain⟨B,I⟩:=bU L;cases I;simp only[aD] at B;obtain⟨B,T⟩:=B;have T:k < ti.len:=by simpa [Nat.blt_eq] using T
   refine .val fun {w G O a} A R=>?_
   have D:=A x;rw[he] at D;obtain⟨g,W,hp⟩:=aB.1 (show Option.map _ (G b)=_ from D);obtain⟨ki,hi⟩:=qR A Q;refine⟨.pointer (some ⟨g.g,M+k*ti.es,none⟩),by show (G b).map _=_;rw[W];rfl,fun _ _ _ _ _=>?_⟩;simp[execOp,← hp,hi,Instr.indexAt,Instr.sureAddr,asIntOf,run_underlying (V.ar B),gS (V.esize (.inl B)),dB];exact fun q=>absurd q (by omega)
  ·cases L
 | index t x i =>
  obtain⟨ti,N,U⟩:=aA.1 h;obtain⟨k,Q,L⟩:=aA.1 U;split at L
  ·rename_i s he;obtain⟨B,I⟩:=bU L;obtain⟨b,K,T⟩:=aB.1 I;cases T;refine .val fun {w G O a} A R=>⟨_,rfl,fun _ _ _ _ _=>?_⟩
   have D:a.eval x = .string s:=by have:=A x;rw[he] at this;exact(aK this).symm
   obtain⟨ki,hi⟩:=qR A Q;have hb:s[k]?=some b:=by rw[lX] at K;show s.data[k]?=_;rw[← Array.getElem?_toList];exact K
   simp[execOp,D,hi,Instr.index,asIntOf,run_underlying ((hE t ti N).isS B),hb]
  ·rename_i cs he;obtain⟨B,I⟩:=bU L;obtain⟨b,K,T⟩:=aB.1 I;cases T;simp only[aD] at B;obtain⟨⟨⟨B,h9⟩,C⟩,J⟩:=B;have V:=hE t ti N;have J:k < ti.len:=by simpa [Nat.blt_eq] using J
   refine .val fun {w G O a} A R=>?_
   have D:=A x;rw[he] at D;obtain⟨us,g1,hp⟩:=aB.1 (show Option.map _ (dG G cs)=_ from D);obtain⟨u,g2,g3⟩:=vV g1 K;obtain⟨ki,hi⟩:=qR A Q;obtain⟨ke,c7⟩:=V.eint h9;refine⟨u,cZ g3,fun _ _ _ _ _=>?_⟩;have a0:(isAgg ti.el).run P w = .ok false w:=by
    unfold isAgg;rw[Sem.run_bind,run_underlying c7 w];rfl
   have a2:=aC C;simp[execOp,← hp,hi,Instr.index,asIntOf,run_underlying (V.ar B),gS (V.esize (.inl B)),a2,Go.part,a0,g2];exact fun q=>absurd q (by omega)
  ·cases L
 | makeFunc fn az cs =>
  simp only[qU] at h;split at h
  ·rename_i f;cases hc:az.isEmpty&&cs.isEmpty<;>rw[hc] at h
   ·obtain⟨N,U⟩:=bU h;split at U
    ·rename_i x D;split at U
     ·rename_i i M hp;cases U;simp only[Array.isEmpty_iff] at N;subst N;refine .val fun {w G O a} A R=>?_
      have:=A x;rw[hp] at this;obtain⟨g,W,hv⟩:=aB.1 (show Option.map _ (G i)=_ from this);refine⟨.func (.func f) #[] #[a.eval x],by rw[← hv];show (G i).map _=_;rw[W];rfl,fun _ _ _ _ _=>?_⟩;have c2:cs=#[x]:=by apply Array.toList_inj.1;exact D
      simp[execOp,Instr.makeFunc,c2]
     ·cases U
    ·cases U
   ·cases h;simp only[aD,Array.isEmpty_iff] at hc;obtain⟨rfl,rfl⟩:=hc;exact .val fun A R=>⟨_,rfl,fun _ _ _ _ _=>by simp[execOp,Instr.makeFunc]⟩
  ·cases h
 | makeMap t r =>
  cases r with
  | some _=>cases h
  | none =>
   obtain⟨ti,N,U⟩:=aA.1 h;obtain⟨Q,L⟩:=bU U;cases L;refine .inr (.inr ⟨.inl rfl,rfl,⟨[_],rfl⟩,Nat.le_succ _,rfl,fun {w G O a} A R=>?_⟩);obtain⟨g1,g2⟩:=R.new (.map #[] 0) ⟨w.heap.size,0,0,0,undef⟩ (.mp [] 0) rfl ⟨[],rfl,rfl,heap_alloc_new w _⟩;exact⟨.value (.map (some w.heap.size)),.map (some w.heap.size),_,_,_,fun _ _ _ _ _=>by simp[execOp,Instr.makeMap],.inl rfl,by simp[dv,d2,dn],g1,g2⟩
 | makeChan t s =>
  obtain⟨ti,N,U⟩:=aA.1 h;obtain⟨n,Q,L⟩:=aA.1 U;obtain⟨B,I⟩:=bU L;cases I;simp only[aD] at B;obtain⟨⟨B,I⟩,K⟩:=B;refine .inr (.inr ⟨.inl rfl,rfl,⟨[_],rfl⟩,Nat.le_succ _,rfl,fun {w G O a} A R=>?_⟩);have hd:=(hE t ti N).desc;cases hk:ti.tk<;>rw[hk] at B hd<;>first|(cases B;done)|skip
  obtain⟨d,e,i,d1,d2,d3⟩:=hd;obtain⟨ki,hn⟩:=b0b Q (A s);have Y:=a6v d1 d2 (aN I) (by rw[d3];exact aN K) w ki;obtain⟨g1,g2⟩:=R.new (.chan n #[] false 0 0 false) ⟨w.heap.size,0,0,0,.chan (some w.heap.size)⟩ .dead rfl trivial;exact⟨.value (.chan (some w.heap.size)),.chan (some w.heap.size),_,_,_,fun _ _ _ _ _=>by simp[execOp,hn,Y],.inl rfl,by show Option.bind (if S.nx=S.nx then _ else _) GI.ov=_;rw[if_pos rfl];rfl,g1,g2⟩
 | mapUpdate t m k x=>exact a4y hE rfl (fun ρ d ty ps af gd w w' q=>by simp[execOp,q]) h
 | insert t m k x=>exact a4y hE rfl (fun ρ d ty ps af gd w w' q=>by simp[execOp,q]) h
 | lookup t x k ok =>
  cases ok with
  | true=>cases h
  | false =>
   obtain⟨b,N,U⟩:=aB.1 (show Option.map _ (b5f E t (ev S.F x) (ev S.F k) S)=_ from h);cases U;unfold b5f at N;obtain⟨ti,Q,L⟩:=aA.1 N;cases B:ti.tk.mp<;>rw[B] at L
   ·obtain⟨B,I⟩:=bU L;split at I
    ·rename_i i cs em ek;split at I
     ·rename_i c a2;obtain⟨K,T⟩:=bU I;rw[aD] at K;refine .val fun {w G O a} A R=>?_
      have hd:=(hE t ti Q).desc;cases hk:ti.tk<;>rw[hk] at B hd<;>first|(cases B;done)|skip
      obtain⟨kt,fs,d1,d2,d3,c8,k',n',d4,d5,d6⟩:=hd;obtain⟨g,g1,g2,g3,us,g4,g5,g6⟩:=R.bs i _ a2 trivial;cases g4;have hm:a.eval x = .map (some g.g):=by
       have:=A x;rw[em] at this;have:=(show (G i).map _=_ from this);rw[g1] at this;exact(aK this).symm
      have a1:=A k;rw[ek] at a1;obtain⟨ks,hks,c9⟩:=aB.1 (show (dG G cs).map _=_ from a1);have b2:=dM hks;have hn:=aC K.1;have Y:=c3h (cs:=ks.toArray) d1 d2 (by rw[List.size_toArray,b2,hn];exact d3) g6 d4 d5;rw[d6] at T;cases T;exact⟨.int k' n',rfl,fun _ _ _ _ _=>by simp[execOp,hm,← c9,Y]⟩
     ·cases I
    ·cases I
   have I:_=some v:=L;simp only[cond_true] at I;split at I
   ·rename_i i n em ek;split at I
    ·rename_i es c a2;refine .val fun {w G O a} A R=>?_
     have hd:=(hE t ti Q).desc;cases hk:ti.tk<;>rw[hk] at B hd<;>first|(cases B;done)|skip
     obtain⟨kt,d1,d2,c8,k',n',d3,d4,d5⟩:=hd;obtain⟨g,g1,g2,g3,us,g4,g5,g6⟩:=R.bs i _ a2 trivial;have hm:a.eval x = .map (some g.g):=by
      have:=A x;rw[em] at this;have:=(show (G i).map _=_ from this);rw[g1] at this;exact(aK this).symm
     have a1:a.eval k = .int .i64 n:=by have:=A k;rw[ek] at this;exact(aK this).symm
     have Y:=c3f d1 d2 g6 n d3 d4;have W:=a1q (n:=n) (j:=0) g4;split at I
     ·rename_i b' a5;cases I;rw[a5] at W;obtain⟨u,i',e1,e2⟩:=W;rw[e1] at Y;exact⟨u,cZ e2,fun _ _ _ _ _=>by simp[execOp,hm,a1,Y]⟩
     ·rename_i a5;rw[a5] at W;rw[W] at Y;rw[d5] at I;cases I;exact⟨.int k' n',rfl,fun _ _ _ _ _=>by simp[execOp,hm,a1,Y]⟩
    ·cases I
   ·cases I
 | _=>cases h
end Go.Eng
namespace Go.Eng
variable [fP]
open Go.RowKit
variable {P : Program} {w : World} {G : GM} {O : Nat → Prop} {H : Hp} {nx : Nat}
theorem c3j {g off m c es:Nat} {us:List Value} (hr:w.rangeAt g off us) (n:Nat) (hl:n*es≤us.length):(Builtin.firstCells es n (.slice (some ⟨g,off,none⟩) m c)).run P w = .ok (us.take (n*es)).toArray w:=by
 have:=run_loadCells_list (P:=P) w ⟨g,off,none⟩ (us.take (n*es)) (fun j v a=>by
  rw[dB];rw[List.getElem?_take] at a;split at a
  ·exact hr j v a
  ·cases a)
 rw[aJ,Nat.min_eq_left hl] at this;simpa [Builtin.firstCells] using this
def uS (G:GM):List AV→List Value→Prop
 | [],[]=>True
 | x::l,u::us=>dv G x=some u∧uS G l us
 | _,_=>False
theorem b0h (hS:gP w G O H nx) {ti:TI} {s:AV} {n:Nat} {cs:List AV} {H':Hp} {u:Value} (h:zI H ti s=some (n,cs,H')) (hu:dv G s=some u) :
  ∃ us,dG G cs=some us∧w.ownsRow 0 ti.el ti.es u n us∧gP w G O H' nx∧(∀ b,u.ownBlock=some b→O b∧b < w.heap.size∧∀ j c y,cK H' j=some c→c.live→G j=some y→y.g≠b)∧Gh w G O H' (fun b=>u.ownBlock=some b):=by
 have r:∀ i b x,cK H i=some b→b.live→G i=some x→Gh w G O ((i,.dead)::H) (fun b=>some x.g=some b):=fun i b x f z E k M X=>by
  obtain⟨us,F,N,a,d,l⟩:=hS.gh k M (pP (by simp) k M X);refine⟨us,F,N,a,fun y A=>⟨(d y A).1,fun q=>by cases q;exact l i b x f z E A⟩,fun j c y p D A=>?_⟩;rw[cH] at p;by_cases e:j=i
  ·rw[if_pos e] at p;cases p;exact D.elim
  ·rw[if_neg e] at p;exact l j c y p D A
 have key:∀ i b x,cK H i=some b→b.live→G i=some x→(O x.g∧x.g < w.heap.size∧∀ j c y,cK ((i,.dead)::H) j=some c→c.live→G j=some y→y.g≠x.g):=by
  intro i b x f z E;obtain⟨L,a,d,l,_⟩:=hS.bs i b f z;rw[E] at a;cases a;refine⟨d,l,fun j c y p D A he=>?_⟩;rw[cH] at p;by_cases e:j=i
  ·rw[if_pos e] at p;cases p;exact D.elim
  ·rw[if_neg e] at p;exact e (hS.inj j i c b y x p D f z A E he)
 unfold zI at h;split at h
 ·cases h;cases hu;exact⟨[],rfl,⟨by simp,.inl ⟨rfl,rfl⟩⟩,hS,fun b q=>(by cases q),hS.gh.weak fun b q=>(by cases q)⟩
 ·rename_i i P Q c;split at h
  ·rename_i e I f;obtain⟨a,d⟩:=bU h;cases d;simp only[aD] at a;obtain⟨⟨⟨⟨a,d⟩,l⟩,t⟩,K⟩:=a;have a:=aC a;have d:=aC d;have l:=aC l;have t:=aN t;have K:=aN K;obtain⟨x,v,R,S,us,C,J⟩:=hS.bs i _ f trivial;obtain⟨L,m,rfl⟩:=aB.1 (show Option.map _ (G i)=_ from hu);rw[v] at m;cases m;have z:=dM C;have Y:=bO ti.es t;refine⟨us.take (n*ti.es),lP C _,⟨by rw[aJ];omega,.inr ⟨x.g,c,us.toArray,by rw[a],aS _,by rw[J,d],t,by unfold maxLen;omega,by simp;omega,rfl⟩⟩,hS.kill i,fun b q=>(by cases q;exact key i _ x f trivial v),r i _ x f trivial v⟩
  ·cases h
 ·rename_i i o Q;split at h
  ·rename_i e Z I f;obtain⟨a,d⟩:=bU h;cases d;simp only[aD] at a;obtain⟨⟨⟨a,d⟩,l⟩,t⟩:=a;have a:=aC a;have d:=aC d;have l:=aC l;have t:=aN t;obtain⟨x,v,R,S,T,U,us,V,C,J,g6,W⟩:=hS.bs i _ f trivial;obtain⟨L,m,rfl⟩:=aB.1 (show Option.map _ (G i)=_ from hu);rw[v] at m;cases m;have z:=dM C;subst l;have B:n≤x.cap:=Nat.le_of_mul_le_mul_right (show n*ti.es≤x.cap*ti.es by omega) U;refine⟨us.take (n*ti.es),lP C _,⟨by rw[aJ];omega,.inr ⟨x.g,x.cap,(us++V).toArray,by rw[a,T.2];simp,aS _,by rw[J,d],B,W,by simp;omega,by simp[List.take_append_of_le_length (show n*ti.es≤us.length by omega)]⟩⟩,hS.kill i,fun b q=>(by cases q;exact key i _ x f trivial v),r i _ x f trivial v⟩
  ·cases h
 ·cases h
theorem zN (hS : gP w G O H nx) {ti : TI} (hes : 0 < ti.es) {n m : Nat} {cs new : List AV} {H' : Hp} {us : Value} {os ns : List Value} {v' : Value} {w' : World} (hpos : 0 < m)
    (r1 : dG G cs = some os) (q2 : dG G new = some ns) (r3 : gP w G O H' nx) (r4 : ∀ b, us.ownBlock = some b → O b ∧ b < w.heap.size ∧ ∀ j c y, cK H' j = some c → c.live → G j = some y → y.g ≠ b) (r5 : Gh w G O H' (fun b => us.ownBlock = some b))
    (g2 : w'.ownsRow 0 ti.el ti.es v' (n + m) (os ++ ns)) (g3 : w.grownBy w' us.ownBlock) (g5 : v'.ownBlock = us.ownBlock ∨ v'.ownBlock = some w.heap.size) :
    ∃ G' O', dv G' (.slc nx 0 (n + m)) = some v' ∧ gP w' G' O' ((nx, .gro ti.el ti.es (cs ++ new)) :: H') (nx + 1) ∧ oZ w G O w' G' O' := by
  obtain ⟨e1, e2⟩ := g2
  rcases e2 with ⟨_, e2⟩ | ⟨gb, cap, cur, rfl, _, e3, e4, e5, e6, e7⟩
  · omega
  · have hgb : (some gb = us.ownBlock) ∨ gb = w.heap.size := by
      rcases g5 with q | q
      · exact .inl q
      · exact .inr (aK q)
    have hlt := (Array.getElem?_eq_some_iff.1 e3).1
    have hd : dG G (cs ++ new) = some (os ++ ns) := eL.2 ⟨_, _, r1, q2, rfl⟩
    have hlen : (os ++ ns).length = (n + m) * ti.es := e1
    have hg : lK G (fun j => if j = nx then some ⟨gb, cap, ti.es, 0, undef⟩ else G j) := fun i y hi => by
      have := hS.lt hi
      show (if i = nx then _ else _) = _
      rw [if_neg (by omega)]; exact hi
    obtain ⟨h1, h2⟩ := r3.rebind (w' := w') (S := fun y => us.ownBlock = some y) ⟨gb, cap, ti.es, 0, undef⟩ (.gro ti.el ti.es (cs ++ new)) ⟨g3.os, g3.tape, g3.output, g3.size, fun k hk hn => g3.block k hk (fun q => hn q.symm)⟩
      (fun j c y hj hc hy => ⟨fun q => (r4 _ q).2.2 j c y hj hc hy rfl, fun q => by
        rcases hgb with q' | q'
        · exact (r4 gb q'.symm).2.2 j c y hj hc hy q
        · obtain ⟨y', a1, _, a3, _⟩ := r3.bs j c hj hc
          rw [hy] at a1; cases a1
          dsimp only at q; omega⟩)
      (by rcases hgb with q' | q'
          · exact .inl (r4 gb q'.symm).1
          · exact .inr (by dsimp only; omega))
      (fun y q => .inl (r4 y q).1) hlt
      (fun k az hk => by
        obtain ⟨us, F, h0, h1, h2, h3⟩ := r5 k az hk
        refine ⟨us, F, h0, h1, fun y hy => ⟨(h2 y hy).1, fun q => ?_⟩, h3⟩
        rcases q with q | q
        · exact (h2 y hy).2 q
        · rcases hgb with q' | q'
          · exact (h2 y hy).2 (by rw [q]; exact q'.symm)
          · have := r3.olt y (h2 y hy).1
            rw [q] at this; dsimp only at this; omega)
      ⟨⟨rfl, rfl⟩, hes, os ++ ns, cur.toList.drop ((n + m) * ti.es), cT hg hd, by
        rw [← e7, List.take_append_drop]; simpa using e3, by
        have := congrArg List.length e7
        rw [aJ, hlen, bD] at this
        rw [hlen, aH, bD]; dsimp only; omega, e5⟩
    exact ⟨_, _, cZ (by simp [dn]), h1, h2⟩
theorem b5h (hS:gP w G O H nx) {t ty:TypeId} {ti:TI} (ht:vT P t ti) (hk:ti.tk.sl=true) (hes:0 < ti.es) {s x:AV} {n m:Nat} {cs new:List AV} {H':Hp} {us ux:Value}
  (hm:mU x=some m) (hpos:0 < m) (hc:oX H ti.es x=some new) (ho:zI H ti s=some (n,cs,H')) (hone:new.all gY=true) (hb:(n+m)*ti.by_≤1048576) (hl:n+m≤1048576) (hs:dv G s=some us) (hx:dv G x=some ux) :
  ∃ v w' G' O',(Builtin.append_ #[t,t] ty #[us,ux]).run P w = .ok v w'∧dv G' (.slc nx 0 (n+m))=some v∧gP w' G' O' ((nx,.gro ti.el ti.es (cs++new))::H') (nx+1)∧oZ w G O w' G' O':=by
 obtain⟨i,z,b,a,d,l,M,o⟩:=ht.el (.inr hk);obtain⟨g,f,c,p,rfl,h,r,y⟩:=rC hS.toSat0 hc hm hx (Nat.mul_pos hpos hes);obtain⟨os,A,B,C,D,E⟩:=b0h hS ho hs;obtain⟨N,w',F,I,J,Q,K⟩:=run_append_own_at (P:=P) (w:=w) (ty:=ty) 0 t ti.el i z ti.es ti.by_ (ht.sli hk) b d a o (l.trans a) hes us n os B ⟨g,f,none⟩ m c p r (fun j u L=>by rw[dB];exact y j u L) (xO hone h) (by unfold maxLen;omega) (by omega) (aS _);obtain⟨G',O',b,a,d⟩:=zN hS hes hpos A h C D E I J K;exact⟨_,w',G',O',F,b,a,d⟩
theorem c3k {t u ty e:TypeId} {i:TypeInfo} (ht:P.underlying t=some (.slice e)) (hu:P.underlying u=some .string) (hi:P.info? e=some i) (hz:i.zero=some (.int .u8 0)) (hsize:i.size=1) (hby:i.bytes=1)
  {v:Value} {n:Nat} {xs:List Value} (hown:w.ownsRow 0 e 1 v n xs) {s:ByteArray} (hs:0 < s.size) (hl:n+s.size≤1048576) {v':Value} {w':World} (hr:(Builtin.append_ #[t,u] ty #[v,.string s]).run P w = .ok v' w'):v'.ownBlock=v.ownBlock∨v'.ownBlock=some w.heap.size:=by
 have c:xs.length=n:=by simpa using hown.1
 rcases hown.2 with⟨rfl,rfl⟩|⟨g,a,d,rfl,h,j,l,m,o,f⟩
 ·rw[run_append_nil_string w t u ty e i (.int .u8 0) ht hu hi hz s hs (by omega) (by rw[hby];omega)] at hr;cases hr;exact .inr rfl
 ·by_cases b:n+s.size≤a
  ·rw[Lib.run_append_room_string w t u ty e i ht hu hi hsize g n a d j s b (by omega)] at hr;cases hr;exact .inl rfl
  ·rw[Lib.run_append_grow_string w t u ty e i (.int .u8 0) ht hu hi hz ⟨g,0,none⟩ n a xs (by rw[hsize];simpa using c) (hown.cells (g:=g) rfl) s (by omega) (by omega) (by rw[hby];exact growslice_fits (by omega) (by omega))] at hr;cases hr;exact .inr rfl
theorem a1r (hS:gP w G O H nx) {t u ty:TypeId} {ti:TI} (ht:vT P t ti) (hk:ti.tk.sl=true) (hu:P.underlying u=some .string) (hes:ti.es=1) (hby:ti.by_=1) (hz:ti.eu8=true) {s:AV} {b:ByteArray} {n:Nat} {cs:List AV} {H':Hp} {us:Value}
  (hpos:0 < b.size) (ho:zI H ti s=some (n,cs,H')) (hl:n+b.size≤1048576) (hs:dv G s=some us) :
  ∃ v w' G' O',(Builtin.append_ #[t,u] ty #[us,.string b]).run P w = .ok v w'∧dv G' (.slc nx 0 (n+b.size))=some v∧gP w' G' O' ((nx,.gro ti.el ti.es (cs++b.data.toList.map fun c => .int .u8 (c.toNat:Nat)))::H') (nx+1)∧oZ w G O w' G' O':=by
 obtain⟨i,z,f,j,g,J,K,l⟩:=ht.el (.inr hk);obtain⟨os,y,h,A,B,C⟩:=b0h hS ho hs;have a:z = .int .u8 0:=by
  obtain⟨L,m,o⟩:=ht.z8 hz;rw[f] at m;cases m;rw[g] at o;exact aK o
 subst a;rw[hes] at h;obtain⟨M,w',p,r,D,N⟩:=Lib.run_append_own_string (P:=P) w 0 t u ty ti.el i (ht.sli hk) hu f g (j.trans hes) (l.trans hby) us n os h b (by unfold maxLen;omega) (by omega) (aS _);have x:=c3k (ht.sli hk) hu f g (j.trans hes) (l.trans hby) h hpos hl p;have d:dG G (b.data.toList.map fun c=>AV.int .u8 (c.toNat:Nat))=some (Lib.strCells b):=xQ _;rw[← hes] at r;obtain⟨G',O',E,F,I⟩:=zN hS (by omega) hpos y d A B C r D x;exact⟨_,w',G',O',p,E,F,I⟩
end Go.Eng
namespace Go.Eng
variable [fP]
open Go.RowKit
variable {P : Program} {w : World} {G : GM} {O : Nat → Prop} {H : Hp} {nx : Nat}
theorem c7s (hS:gP w G O H nx) {i off:Nat} {vs:List AV} {us:List Value} {H':Hp} (h:oJ H i off vs=some H') (hone:vs.all gY=true) (hv:dG G vs=some us) {x:GI} (hx:G i=some x) :
  ∃ w',(storeCells ⟨x.g,off,none⟩ us).run P w = .ok () w'∧gP w' G O H' nx∧oZ w G O w' G O:=by
 have l:=xO hone hv;unfold oJ at h;obtain⟨b,s,h⟩:=aA.1 h;obtain⟨K,a,rfl⟩:=aB.1 h;unfold cU.put at a;obtain⟨A,a⟩:=bU a;have j:off+vs.length≤b.cs.length:=aN A;have v:=dM hv;cases b with
 | dead=>cases a
 | mp es c=>cases a
 | fro e cs=>cases a
 | gho k az=>cases a
 | row e cs =>
  cases a;obtain⟨B,m,C,D,d,o,p⟩:=hS.bs i _ s trivial;rw[hx] at m;cases m;have t:=dM o;have j:off+vs.length≤cs.length:=j;have f:=run_storeCells_at (P:=P) x.g off e us 0 _ w p (by rw[List.size_toArray];omega) l;refine⟨_,f,hS.set s trivial hx ⟨rfl,rfl,rfl,by simp,fun k _ u=>setRow_other w x.g k _ u⟩ ⟨_,sI o hv off,?_⟩⟩;rw[setRow_heap w x.g d.toArray _ e (0,0) p];simp
 | gro e sz cs =>
  cases a;obtain⟨B,m,C,D,E,F,d,r,o,p,I,J⟩:=hS.bs i _ s trivial;rw[hx] at m;cases m;have t:=dM o;have j:off+vs.length≤cs.length:=j;have f:=run_storeCells_at (P:=P) x.g off e us 0 _ w p (by rw[List.size_toArray,aE];omega) l;refine⟨_,f,hS.set s trivial hx ⟨rfl,rfl,rfl,by simp,fun k _ u=>setRow_other w x.g k _ u⟩ ⟨E,F,_,r,sI o hv off,?_,?_,J⟩⟩
  ·rw[setRow_heap w x.g (d++r).toArray _ e (0,0) p];have y:(d++r).take (off+0)=d.take off:=by rw[Nat.add_zero,List.take_append_of_le_length (by omega)]
   have z:(d++r).drop (off+0+us.length)=d.drop (off+us.length)++r:=by rw[Nat.add_zero,List.drop_append_of_le_length (by omega)]
   simp only[y,z,bN]
  ·rw[← I];simp only[aE,aJ,aH];omega
structure d9n (P:Program) (b:Builtin) (ts:List TypeId) (us:List Value) (w:World) (G:GM) (O:Nat→Prop) (S':St) (v:AV):Prop where
 run:∃ u w' G' O',(∀ ty cs,(Go.builtin b ts.toArray ty cs us.toArray).run P w = .ok (.value u) w')∧dv G' v=some u∧gP w' G' O' S'.H S'.nx∧oZ w G O w' G' O'
def d5f (P:Program) (b:Builtin) (ts:List TypeId) (args:List AV) (S S':St) (v:AV):Prop :=
 S'=S∧∀ {w:World} {G:GM} {O:Nat→Prop} {us:List Value},uS G args us→Sat0 w G O S.H→∃ u,dv G v=some u∧∀ ty cs,(Go.builtin b ts.toArray ty cs us.toArray).run P w = .ok (.value u) w
def d5g (P:Program) (b:Builtin) (ts:List TypeId) (args:List AV) (S S':St) (v:AV):Prop :=
 (b = .append∨b = .copy∨b = .clear)∧S'.F=S.F∧(∃ pre,S'.H=pre++S.H)∧S.nx≤S'.nx∧S'.obs=S.obs∧∀ {w:World} {G:GM} {O:Nat→Prop} {us:List Value},uS G args us→gP w G O S.H S.nx→d9n P b ts us w G O S' v
def a0o (P:Program) (b:Builtin) (ts:List TypeId) (args:List AV) (S S':St) (v:AV):Prop:=d5f P b ts args S S' v∨d5g P b ts args S S' v
theorem a0o.val {b:Builtin} {ts:List TypeId} {args:List AV} {S:St} {v:AV} (k:∀ {w:World} {G:GM} {O:Nat→Prop} {us:List Value},uS G args us→Sat0 w G O S.H→∃ u,dv G v=some u∧∀ ty cs,(Go.builtin b ts.toArray ty cs us.toArray).run P w = .ok (.value u) w):a0o P b ts args S S v :=
 .inl ⟨rfl,fun a c=>k a c⟩
theorem a6w {x:AV} {us:List Value} (h:uS G [x] us):∃ u,us=[u]∧dv G x=some u:=by
 rcases us with _|⟨u,_|⟨v,l⟩⟩
 ·exact h.elim
 ·exact⟨u,rfl,h.1⟩
 ·exact h.2.elim
theorem a4d {x y:AV} {us:List Value} (h:uS G [x,y] us):∃ u v,us=[u,v]∧dv G x=some u∧dv G y=some v:=by
 rcases us with _|⟨u,l⟩
 ·exact h.elim
 ·obtain⟨v,rfl,a⟩:=a6w h.2;exact⟨u,v,rfl,h.1,a⟩
theorem pA {x:AV} {n:Nat} {u:Value} (h:mU x=some n) (hu:dv G x=some u):∃ a c,u = .slice a n c:=by
 unfold mU at h;split at h
 ·cases h;cases hu;exact⟨_,_,rfl⟩
 ·cases h;obtain⟨g,_,rfl⟩:=aB.1 (show Option.map _ _=_ from hu);exact⟨_,_,rfl⟩
 ·cases h;obtain⟨g,_,rfl⟩:=aB.1 (show Option.map _ _=_ from hu);exact⟨_,_,rfl⟩
 ·cases h
theorem b9z (hS:Sat0 w G O H) {es:Nat} {s:AV} {u:Value} (h:d4z H es s=true) (hu:dv G s=some u):∃ a n c,u = .slice a n c∧n≤c:=by
 unfold d4z at h;split at h
 ·cases hu;exact⟨_,_,_,rfl,aF _⟩
 ·obtain⟨g,_,rfl⟩:=aB.1 (show Option.map _ _=_ from hu);exact⟨_,_,_,rfl,aN h⟩
 ·rename_i i o n;obtain⟨x,d,f,j,l⟩:=hS.holds h;obtain⟨g,b,rfl⟩:=aB.1 (show Option.map _ (G i)=_ from hu);rw[d] at b;cases b;exact⟨_,_,_,rfl,by omega⟩
 ·cases h
theorem b0i (hS:Sat0 w G O H) {es i off n:Nat} {d:AV} {u:Value} (h:b9q H es d=some (i,off)) (hn:mU d=some n) (hu:dv G d=some u):∃ x c,G i=some x∧u = .slice (some ⟨x.g,off,none⟩) n c:=by
 unfold b9q at h;split at h
 ·cases h;cases hn;obtain⟨g,a,rfl⟩:=aB.1 (show Option.map _ _=_ from hu);exact⟨g,_,a,rfl⟩
 ·rename_i j o m;obtain⟨f,l⟩:=bU h;cases l;cases hn;obtain⟨x,b,p,r,s⟩:=hS.holds f;obtain⟨g,a,rfl⟩:=aB.1 (show Option.map _ (G _)=_ from hu);rw[b] at a;cases a;exact⟨x,_,b,by rw[p,r,aM]⟩
 ·cases h
theorem a4z {ti:TI} {s:AV} {r:Nat×List AV×Hp} (h:zI H ti s=some r):∃ pre,r.2.2=pre++H:=by
 unfold zI at h;split at h
 ·cases h;exact⟨[],rfl⟩
 ·split at h
  ·obtain⟨_,h⟩:=bU h;cases h;exact⟨[_],rfl⟩
  ·cases h
 ·split at h
  ·obtain⟨_,h⟩:=bU h;cases h;exact⟨[_],rfl⟩
  ·cases h
 ·cases h
theorem a1s {i off:Nat} {vs:List AV} {H':Hp} (h:oJ H i off vs=some H'):∃ pre,H'=pre++H:=by
 unfold oJ at h;obtain⟨b,_,h⟩:=aA.1 h;obtain⟨a,_,rfl⟩:=aB.1 h;exact⟨[_],rfl⟩
theorem b0j {E:iU} (hE:∀ t ti,E.tt t=some ti→vT P t ti) (hbd:BD E.bd) {b:Builtin} {ts:List TypeId} {args:List AV} {S S':St} {v:AV} (h:zJ E b ts args S=some (v,S')):a0o P b ts args S S' v:=by
 unfold zJ at h;split at h
 ·cases h
 ·rename_i t ts;obtain⟨ti,h1,j⟩:=aA.1 h;have F:=hE t ti h1;split at j
  ·
   rename_i x;split at j
   ·rename_i L;cases j;refine .val fun {w G O us} hu _=>⟨_,rfl,fun _ _=>?_⟩
    obtain⟨u,rfl,f⟩:=a6w hu;have hd:=F.ar (by rw[L];rfl);simp[Go.builtin,Builtin.len_,run_underlying hd,goInt]
   ·rename_i s L;cases j;refine .val fun {w G O us} hu _=>⟨_,rfl,fun _ _=>?_⟩
    obtain⟨u,rfl,f⟩:=a6w hu;cases f;have hd:=F.isS (by rw[L];rfl);simp[Go.builtin,Builtin.len_,run_underlying hd,goInt]
   ·rename_i i e L;cases j;refine .val fun {w G O us} hu _=>⟨_,rA _ _,fun _ _=>?_⟩
    obtain⟨u,rfl,f⟩:=a6w hu;obtain⟨x,_,f⟩:=aA.1 (show Option.bind (G i) _=_ from f);obtain⟨a,m,c,_,r,rfl⟩:=a0m f;have hd:=F.sli (by rw[L];rfl);simp[Go.builtin,Builtin.len_,run_underlying hd,goInt,r]
   ·rename_i L _;obtain⟨n,D,W⟩:=aB.1 j;cases W;refine .val fun {w G O us} hu _=>⟨_,rfl,fun _ _=>?_⟩
    obtain⟨u,rfl,f⟩:=a6w hu;obtain⟨a,c,rfl⟩:=pA D f;have hd:=F.sli (by rw[L];rfl);simp[Go.builtin,Builtin.len_,run_underlying hd,goInt]
   ·cases j
  ·
   split at j
   ·rename_i L;cases j;refine .val fun {w G O us} hu _=>⟨_,rfl,fun _ _=>?_⟩
    obtain⟨u,rfl,f⟩:=a6w hu;obtain⟨g,_,rfl⟩:=aB.1 (show Option.map _ _=_ from f);have hd:=F.sli (by rw[L];rfl);simp[Go.builtin,Builtin.cap_,run_underlying hd,goInt]
   ·rename_i L;cases j;refine .val fun {w G O us} hu _=>⟨_,rfl,fun _ _=>?_⟩
    obtain⟨u,rfl,f⟩:=a6w hu;cases f;have hd:=F.sli (by rw[L];rfl);simp[Go.builtin,Builtin.cap_,run_underlying hd,goInt]
   ·cases j
  ·
   split at j
   ·rename_i k a k' b ha hb;cases C:a.kn&&b.kn<;>rw[C] at j
    ·obtain⟨t,q1,X⟩:=aB.1 (show Option.map _ _=_ from j);cases X;refine .val fun {w G O us} hu _=>⟨_,rA _ _,fun _ _=>?_⟩
     obtain⟨u,v,rfl,f,y⟩:=a4d hu;have:=jG ha f;subst this;have:=jG hb y;subst this;have e:=eK.lt_ok hbd q1;subst e;simp[Go.builtin,Builtin.min_,Builtin.min2];split<;>rename_i hq<;>simp[hq]
    ·rw[aD] at C;cases j;refine .val fun {w G O us} hu _=>⟨_,rfl,fun _ _=>?_⟩
     obtain⟨u,v,rfl,f,y⟩:=a4d hu;have:=jG ha f;subst this;have:=jG hb y;subst this;rw[eK.val_kn C.1,eK.val_kn C.2];simp[Go.builtin,Builtin.min_,Builtin.min2]
   ·cases j
  ·
   split at j
   ·rename_i k a k' b ha hb;cases C:a.kn&&b.kn<;>rw[C] at j
    ·obtain⟨t,q1,X⟩:=aB.1 (show Option.map _ _=_ from j);cases X;refine .val fun {w G O us} hu _=>⟨_,rA _ _,fun _ _=>?_⟩
     obtain⟨u,v,rfl,f,y⟩:=a4d hu;have:=jG ha f;subst this;have:=jG hb y;subst this;have e:=eK.lt_ok hbd q1;subst e;simp[Go.builtin,Builtin.max_,Builtin.max2];split<;>rename_i hq<;>simp[hq]
    ·rw[aD] at C;cases j;refine .val fun {w G O us} hu _=>⟨_,rfl,fun _ _=>?_⟩
     obtain⟨u,v,rfl,f,y⟩:=a4d hu;have:=jG ha f;subst this;have:=jG hb y;subst this;rw[eK.val_kn C.1,eK.val_kn C.2];simp[Go.builtin,Builtin.max_,Builtin.max2]
   ·cases j
  ·
   rename_i s b;split at j
   ·rename_i M;obtain⟨xi,q1,X⟩:=aA.1 j;obtain⟨T,Y⟩:=bU X;rw[aD] at T;obtain⟨T,q5⟩:=T;have hd:=F.sli T;have a0:=(hE _ _ q1).isS q5;cases q6:Nat.beq b.size 0<;>rw[q6] at Y
    ·obtain⟨⟨n,cs,H'⟩,A,I⟩:=aA.1 Y;obtain⟨l,p⟩:=bU I;cases p;simp only[aD] at l;obtain⟨⟨⟨l,p⟩,B⟩,N⟩:=l;have J:0 < b.size:=by
      rcases Nat.eq_zero_or_pos b.size with q|q
      ·rw[q] at q6;cases q6
      ·exact q
     refine .inr ⟨by simp,rfl,?_,Nat.le_succ _,rfl,fun {w G O us} hu hS=>?_⟩
     ·obtain⟨Z,hp⟩:=a4z A;exact⟨_::Z,by rw[hp];rfl⟩
     obtain⟨u,v,rfl,f,y⟩:=a4d hu;cases y;obtain⟨v',w',G',O',g1,g2,g3,g4⟩:=a1r (P:=P) (ty:=0) hS F T a0 (aC p) (aC B) l J A (aN N) f;refine⟨v',w',G',O',fun ty cs=>?_,g2,g3,g4⟩;simp only[Go.builtin,List.toArray,Sem.run_bind];rw[show (Builtin.append_ [t,M].toArray ty [u,.string b].toArray)=Builtin.append_ #[t,M] 0 #[u,.string b] from rfl,g1];rfl
    obtain⟨q7,Y⟩:=bU Y;cases Y;have a2:=aC q6;refine .val fun {w G O us} hu hS=>?_
    obtain⟨u,v,rfl,f,y⟩:=a4d hu;obtain⟨a,n,c,rfl,hn⟩:=b9z hS q7 f;cases y;refine⟨_,f,fun ty cs=>?_⟩;obtain⟨i,z,k1,k2,_⟩:=F.el (.inr T);have h0:n+0≤c:=by omega
    have a3:b=⟨#[]⟩:=by
     obtain⟨d⟩:=b;congr 1;exact Array.eq_empty_of_size_eq_zero a2
    subst a3;have hz:(⟨#[]⟩:ByteArray).size=0:=rfl;cases a<;>simp[hz,Go.builtin,Builtin.append_,run_underlying hd,run_underlying a0,Builtin.lenOf,Builtin.firstCells,sizeOf,typeInfo,k1,storeCells,loadCells,loadCellsFrom,hn]
   ·cases j
  ·
   rename_i s x _;obtain⟨D,W⟩:=bU j;obtain⟨m,U,R⟩:=aA.1 W;simp only[aD] at D;obtain⟨⟨D,h7⟩,h8⟩:=D;have V:0 < ti.es:=by simpa [Nat.blt_eq] using h7
   split at h8
   ·rename_i M;have a4:=aC h8;subst a4;have hd:=F.sli D;cases r:Nat.beq m 0<;>rw[r] at R
    ·obtain⟨new,h9,Q⟩:=aA.1 R;obtain⟨⟨n,cs,H'⟩,A,I⟩:=aA.1 Q;obtain⟨l,p⟩:=bU I;cases p;simp only[aD] at l;obtain⟨⟨l,p⟩,B⟩:=l;have J:0 < m:=by
      rcases Nat.eq_zero_or_pos m with q|q
      ·subst q;cases r
      ·exact q
     refine .inr ⟨by simp,rfl,?_,Nat.le_succ _,rfl,fun {w G O us} hu hS=>?_⟩
     ·obtain⟨Z,hp⟩:=a4z A;exact⟨_::Z,by rw[hp];rfl⟩
     obtain⟨u,v,rfl,f,y⟩:=a4d hu;have hr:=fun ty=>b5h (P:=P) (ty:=ty) hS F D V U J h9 A l (aN p) (aN B) f y
     obtain⟨v',w',G',O',g1,g2,g3,g4⟩:=hr 0;refine⟨v',w',G',O',fun ty cs=>?_,g2,g3,g4⟩;have e:∀ ty,Builtin.append_ #[M,M] ty #[u,v]=Builtin.append_ #[M,M] 0 #[u,v]:=fun _=>rfl
     simp only[Go.builtin,List.toArray,Sem.run_bind];rw[show (Builtin.append_ [M,M].toArray ty [u,v].toArray)=Builtin.append_ #[M,M] 0 #[u,v] from rfl,g1];rfl
    ·obtain⟨h9,Q⟩:=bU R;cases Q;refine .val fun {w G O us} hu hS=>?_
     obtain⟨u,v,rfl,f,y⟩:=a4d hu;obtain⟨a,n,c,rfl,hn⟩:=b9z hS h9 f;obtain⟨a',c',rfl⟩:=pA U y;have r:=aC r;subst r;refine⟨_,f,fun ty cs=>?_⟩;obtain⟨i,z,k1,k2,_⟩:=F.el (.inr D);have h0:n+0≤c:=by omega
     cases a<;>cases a'<;>simp[Go.builtin,Builtin.append_,run_underlying hd,Builtin.lenOf,Builtin.firstCells,sizeOf,typeInfo,k1,storeCells,loadCells,loadCellsFrom,hn]
   ·cases h8
  ·
   rename_i d x;obtain⟨D,W⟩:=bU j;obtain⟨n,U,R⟩:=aA.1 W;obtain⟨m,h7,h8⟩:=aA.1 R;simp only[aD] at D;obtain⟨D,a8⟩:=D;have V:0 < ti.es:=by simpa [Nat.blt_eq] using a8
   have hd:=F.sli D;have a1:=fun w=>gS (P:=P) (w:=w) (F.esize (.inr D))
   cases r:Nat.beq (min m n) 0<;>rw[r] at h8
   ·have J:0 < min m n:=by
     rcases Nat.eq_zero_or_pos (min m n) with q|q
     ·rw[q] at r;cases r
     ·exact q
    obtain⟨new,h9,Q⟩:=aA.1 h8;obtain⟨A,I⟩:=bU Q;obtain⟨⟨i,a9⟩,l,p⟩:=aA.1 I;obtain⟨H',B,N⟩:=aB.1 p;cases N;refine .inr ⟨by simp,rfl,a1s B,aF _,rfl,fun {w G O us} hu hS=>?_⟩;obtain⟨u,v,rfl,f,y⟩:=a4d hu;have a5:0 < m:=by omega
    obtain⟨g,o,c,ns,rfl,X,T,Y⟩:=rC hS.toSat0 h9 h7 y (Nat.mul_pos a5 V);obtain⟨xg,c',k1,rfl⟩:=b0i hS.toSat0 l U f;obtain⟨w',g1,g2,g3⟩:=c7s (P:=P) hS B A (lP X _) k1;refine⟨_,w',G,O,fun ty cs=>?_,rfl,g2,g3⟩;have a6:min m n*ti.es≤ns.length:=by rw[T];exact bO _ (Nat.min_le_left _ _)
    have hf:=c3j (P:=P) (m:=m) (c:=c) Y (min m n) a6;have K:Nat.min m n=min m n:=rfl;simp only[Go.builtin,Builtin.copy_];simp[run_underlying hd,a1,Builtin.lenOf,hf,g1,goInt,K]
   ·cases h8;refine .val fun {w G O us} hu hS=>⟨_,rfl,fun _ _=>?_⟩
    obtain⟨u,v,rfl,f,y⟩:=a4d hu;obtain⟨a,c,rfl⟩:=pA U f;obtain⟨a',c',rfl⟩:=pA h7 y;have r:=aC r;have K:Nat.min m n=0:=r;cases a<;>cases a'<;>simp[Go.builtin,Builtin.copy_,run_underlying hd,a1,Builtin.lenOf,goInt,K,Builtin.firstCells,storeCells,loadCells,loadCellsFrom]
  ·
   rename_i d;obtain⟨D,W⟩:=bU j;obtain⟨n,U,R⟩:=aA.1 W;have hd:=F.sli D;cases r:Nat.beq n 0<;>rw[r] at R
   ·obtain⟨A,I⟩:=bU R;obtain⟨⟨i,a9⟩,l,p⟩:=aA.1 I;obtain⟨H',B,N⟩:=aB.1 p;cases N;refine .inr ⟨by simp,rfl,a1s B,aF _,rfl,fun {w G O us} hu hS=>?_⟩;obtain⟨u,rfl,f⟩:=a6w hu;obtain⟨xg,c',k1,rfl⟩:=b0i hS.toSat0 l U f;obtain⟨i',z,e1,e2,e3,e4,e5,e6⟩:=F.el (.inr D);obtain⟨w',g1,g2,g3⟩:=c7s (P:=P) hS B A (a0n (cT (a4u G) e5) n) k1;refine⟨_,w',G,O,fun ty cs=>?_,rfl,g2,g3⟩;have hz:(zeroValue ti.el).run P w = .ok z w:=by simp[zeroValue,typeInfo,e1,e3]
    have a7:(Builtin.zeroCells z.cells n).toList=(List.replicate n z.cells.toList).flatten:=by
     show ((Array.range (n*z.cells.size)).map fun i=>z.cells[i % z.cells.size]!).toList=_;rw[a1m]
    obtain⟨k,rfl⟩:∃ k,n=k+1:=⟨n-1,by
     rcases Nat.eq_zero_or_pos n with q|q
     ·subst q;cases r
     ·omega⟩
    simp only[Go.builtin,Builtin.clear_];simp[run_underlying hd,hz,a7,g1]
   ·cases R;refine .val fun {w G O us} hu hS=>⟨_,rfl,fun _ _=>?_⟩
    obtain⟨u,rfl,f⟩:=a6w hu;obtain⟨a,c,rfl⟩:=pA U f;have r:=aC r;subst r;cases a<;>simp[Go.builtin,Builtin.clear_,run_underlying hd]
  ·cases j
end Go.Eng
namespace Go.Eng
variable [fP]
open Go.RowKit
def mV (N:Nat) (F:Fr):Option Nat→AV→Option Fr
 | none,_=>some F
 | some d,v=>bif Nat.blt d N then some ((d,v)::F) else none
def b0k:Nat→List AV→Fr
 | _,[]=>[]
 | k,v::l=>(k,v)::b0k (k+1) l
def gG (F:Fr) (ops:Array Oper):Option (Nat×Bool)→Option Bool
 | none=>some true
 | some (j,w)=>match (ops[j]?).bind (·.dst) with
  | none=>some false
  | some d=>match mJ F d with
   | .bool b=>some (b==w)
   | .ext _=>none
   | .opq _=>none
   | _=>some false
def rD (F:Fr):Op→Option Nat
 | .load _ x=>match ev F x with
  | .ptr i _=>some i
  | _=>none
 | .slice _ x _ _ _=>match ev F x with
  | .slc i _ _=>some i
  | _=>none
 | .indexAddr _ x _=>match ev F x with
  | .slc i _ _=>some i
  | _=>none
 | _=>none
abbrev Stp:=Oper→St→Option (AV×St)
def a6x (step:Stp) (N:Nat):List Oper→St→Option St
 | [],S=>some S
 | o::l,S=>(step o S).bind fun r=>(mV N r.2.F o.dst r.1).bind fun F=>a6x step N l { r.2 with F:=F }
structure PE where
 i:Nat
 m:Nat
def dK (ops:Array Oper) (i:Nat):Oper:=(ops[i]?).getD default
def vY (o:Oper):List Nat:=(o.after.toList.filter (Region.binds .any)).map (·.on)
def mOf:List PE→Nat→Nat
 | [],_=>0
 | x::l,p=>bif Nat.beq x.i p then x.m else mOf l p
def xS (D:List PE):List Nat→Nat
 | []=>0
 | p::ps=>(2 ^ p ||| mOf D p) ||| xS D ps
def has:List PE→Nat→Bool
 | [],_=>false
 | x::l,p=>Nat.beq x.i p||has l p
def b0l (ops:Array Oper) (o:Oper) (d:Option Tmp):Bool :=
 match d with
 | none=>false
 | some d=>(o.looksAt ops).contains d
def d9o (a b:Option Tmp):Bool :=
 match a,b with
 | some a,some b => !(Nat.beq a b)
 | _,_=>true
def lB (ops:Array Oper) (x y:PE):Bool :=
 !(Nat.beq x.i y.i)&&d9o (dK ops x.i).dst (dK ops y.i).dst&&(x.m.testBit y.i||(!(b0l ops (dK ops x.i) (dK ops y.i).dst) && !(b0l ops (dK ops y.i) (dK ops x.i).dst)))
def gZ (E:iU) (ops:Array Oper):List PE→List PE→Bool
 | [],D=>Nat.beq D.length ops.size
 | x::l,D=>Nat.blt x.i ops.size&&(vY (dK ops x.i)).all (has D)&&D.all (lB ops x)&&Nat.beq x.m (xS D (vY (dK ops x.i))) &&
   (dC E (dK ops x.i).op||D.all (fun y=>x.m.testBit y.i))&&gZ E ops l (x::D)
def c0a (ops:Array Oper):Nat→List Oper→List PE→List PE
 | _,[],D=>D
 | i,o::l,D=>c0a ops (i+1) l (⟨i,xS D (vY o)⟩::D)
def b5i (D:List PE) (m:Nat):List PE→List PE→List PE
 | [],P=>P
 | x::l,P=>bif m.testBit x.i && !(has P x.i) then b5i D m l (x::P) else b5i D m l P
def b5j (E:iU) (ops:Array Oper) (D:List PE):List PE→List PE→List PE
 | [],P=>P
 | x::l,P=>bif dC E (dK ops x.i).op then b5j E ops D l P else b5j E ops D l (bif has P x.i then P else x::b5i D x.m D P)
def c7t:List PE→List PE→List PE
 | [],P=>P
 | x::l,P=>c7t l (bif has P x.i then P else x::P)
def plan (E:iU) (ops:Array Oper):List PE :=
 let D:=(c0a ops 0 ops.toList []).reverse
 (c7t D (b5j E ops D D [])).reverse
def mW:Hp→List Nat
 | []=>[]
 | (k,_)::l=>k::mW l
def pQ:List Nat→Nat→Bool
 | [],_=>false
 | k::l,i=>Nat.beq k i||pQ l i
def eqA:AV→AV→Bool
 | .int k n,.int k' n'=>(k==k')&&decide (n=n')
 | .sym k e,.sym k' e'=>(k==k')&&decide (e=e')
 | .bool b,.bool c=>b==c
 | .str s,.str t=>decide (s.data.toList=t.data.toList)
 | .ptr i o,.ptr j o'=>Nat.beq i j&&Nat.beq o o'
 | .nilp,.nilp=>true
 | .slk i o n c,.slk j o' n' c'=>Nat.beq i j&&Nat.beq o o'&&Nat.beq n n'&&Nat.beq c c'
 | .slc i o n,.slc j o' n'=>Nat.beq i j&&Nat.beq o o'&&Nat.beq n n'
 | .nils,.nils=>true
 | .opq i,.opq j=>Nat.beq i j
 | .opl i e,.opl j e'=>Nat.beq i j&&decide (e=e')
 | .fn f,.fn g=>Nat.beq f g
 | .mp i,.mp j=>Nat.beq i j
 | .clo f i o,.clo g j o'=>Nat.beq f g&&Nat.beq i j&&Nat.beq o o'
 | .ext .nilIface,.ext .nilIface=>true
 | .ext .nilFunc,.ext .nilFunc=>true
 | .ext (.map none),.ext (.map none)=>true
 | .ext (.chan none),.ext (.chan none)=>true
 | _,_=>false
def a0e:List AV→List AV→Bool
 | [],[]=>true
 | a::l,b::m=>eqA a b&&a0e l m
 | _,_=>false
omit [fP] in
theorem xT {a b : AV} (h : eqA a b = true) : a = b := by
  unfold eqA at h
  split at h <;> first
    | (cases h; done)
    | rfl
    | (simp only [aD, beq_iff_eq, decide_eq_true_eq] at h; obtain ⟨rfl, rfl⟩ := h; rfl)
    | (simp only [beq_iff_eq] at h; subst h; rfl)
    | (have h := aC h; subst h; rfl)
    | (simp only [aD, decide_eq_true_eq] at h
       obtain ⟨h1, rfl⟩ := h
       have h1 := aC h1; subst h1; rfl)
    | (simp only [aD] at h
       obtain ⟨h1, h2⟩ := h
       have h1 := aC h1; have h2 := aC h2; subst h1; subst h2; rfl)
    | (simp only [aD] at h
       obtain ⟨⟨h1, h2⟩, h3⟩ := h
       have h1 := aC h1; have h2 := aC h2; have h3 := aC h3; subst h1; subst h2; subst h3; rfl)
    | (simp only [aD] at h
       obtain ⟨⟨⟨h1, h2⟩, h3⟩, h4⟩ := h
       have h1 := aC h1; have h2 := aC h2; have h3 := aC h3; have h4 := aC h4; subst h1; subst h2; subst h3; subst h4; rfl)
    | (rename_i s t
       have := bI h
       obtain ⟨⟨s⟩⟩ := s; obtain ⟨⟨t⟩⟩ := t
       simp only at this; subst this; rfl)
omit [fP] in
theorem mK:∀ {l m:List AV},a0e l m=true→l=m
 | [],[],_=>rfl
 | [],_::_,h=>by cases h
 | _::_,[],h=>by cases h
 | a::l,b::m,h=>by
  simp only[a0e,aD] at h;rw[xT h.1,mK h.2]
def a0p:Option cU→Option cU→Bool
 | some (.row e cs),some (.row e' cs')=>Nat.beq e e'&&a0e cs cs'
 | some (.gro e s cs),some (.gro e' s' cs')=>Nat.beq e e'&&Nat.beq s s'&&a0e cs cs'
 | _,_=>false
omit [fP] in
theorem b5k {a b:Option cU} (h:a0p a b=true):a=b:=by
 unfold a0p at h;split at h
 ·rw[aD] at h;rw[aC h.1,mK h.2]
 ·simp only[aD] at h;rw[aC h.1.1,aC h.1.2,mK h.2]
 ·cases h
def nV (H' H:Hp):List Nat→List Nat
 | []=>[]
 | k::l=>bif a0p (cK H' k) (cK H k) then nV H' H l else k::nV H' H l
omit [fP] in
theorem uT {H' H:Hp} {b:Nat}:∀ {l:List Nat},pQ (nV H' H l) b=false→pQ l b=true→cK H' b=cK H b
 | [],_,h=>by cases h
 | k::l,h,h2=>by
  simp only[nV] at h;simp only[pQ,Bool.or_eq_true] at h2;cases hs:a0p (cK H' k) (cK H k)<;>rw[hs] at h
  ·simp only[cond_false,pQ,Bool.or_eq_false_iff] at h;rcases h2 with q|q
   ·rw[q] at h;cases h.1
   ·exact uT h.2 q
  ·rcases h2 with q|q
   ·have:=aC q;subst this;exact b5k hs
   ·exact uT h q
def c0b (nx0:Nat) (m:Nat) (d:Option Nat) (W:List (Nat×List Nat)):Bool :=
 match d with
 | none=>true
 | some b=>Nat.blt b nx0&&W.all fun j=>m.testBit j.1 || !(pQ j.2 b)
abbrev Ws:=List (Nat×List Nat)
def pB (E:iU) (step:Stp) (N:Nat) (ops:Array Oper) (nx0:Nat):List PE→Ws→St→Option (Ws×St)
 | [],W,S=>some (W,S)
 | x::l,W,S =>
  bif !(dC E (dK ops x.i).op)||c0b nx0 x.m (rD S.F (dK ops x.i).op) W then
   (step (dK ops x.i) S).bind fun r=>bif !(dC E (dK ops x.i).op)||a1i (dK ops x.i).op||Nat.beq r.2.nx S.nx then (mV N r.2.F (dK ops x.i).dst r.1).bind fun F =>
    pB E step N ops nx0 l (bif dC E (dK ops x.i).op then W else (x.i,nV r.2.H S.H (mW (r.2.H.take (r.2.H.length-S.H.length))))::W) { r.2 with F:=F } else none
  else none
def e5n:Op→Bool
 | .select _ _=>true
 | _=>false
def d9p:AV→Bool
 | .tup _=>false
 | _=>true
def b0m (E:iU) (F:Fr) (H:Hp):List ResultVar→Option (List AV)
 | []=>some []
 | .tmp t::l=>(b0m E F H l).map (mJ F t::·)
 | .cell a ty::l=>match mJ F a with
  | .ptr i off=>(E.tt ty).bind fun ti=>(a1h H ti i off).bind fun v=>(b0m E F H l).map (v::·)
  | _=>none
def b0n:List AV→Option AV
 | [v]=>some v
 | vs=>bif vs.all d9p then some (.tup vs) else none
def a6y:AV→Option Nat
 | .opq i=>some i
 | .opl i _=>some i
 | _=>none
theorem c3l {G:GM} {a c:AV} {i:Nat} {u v:Value} (h1:a6y a=some i) (h2:a6y c=some i) (h3:dv G a=some u) (h4:dv G c=some v):u=v:=by
 have key:∀ {a u},a6y a=some i→dv G a=some u→∃ x,G i=some x∧u=x.v:=by
  intro a u h k;cases a<;>cases h
  ·obtain⟨x,d,b⟩:=aA.1 (show (G i).bind GI.ov=some u from k);refine⟨x,d,?_⟩;unfold GI.ov at b;cases o:x.v.oneCell'<;>rw[o] at b<;>cases b;rfl
  ·obtain⟨x,d,b⟩:=aA.1 (show (G i).bind _=some u from k);obtain⟨a,m,c,g,p,j⟩:=a0m b;exact⟨x,d,by rw[g,j]⟩
 obtain⟨x,d,b⟩:=key h1 h3;obtain⟨y,f,l⟩:=key h2 h4;rw[d] at f;cases f;rw[b,l]
mutual
def run (E:iU):Nat→Nat→Code→St→Option (Ex×St)
 | 0,_,_,_=>none
 | n+1,N,c,S=>match c with
  | .skip=>some (.normal,S)
  | .region _ ops d =>
   (bif d then (bif gZ E ops (plan E ops) []&&ops.toList.all (fun o => !e5n o.op) then (pB E (a5a E n ops) N ops S.nx (plan E ops) [] S).map (·.2) else none)
    else a6x (a5a E n ops) N ops.toList S).map fun s=>(.normal,s)
  | .seq a b=>(run E n N a S).bind fun r=>match r.1 with
   | .normal=>run E n N b r.2
   | _=>some r
  | .cond c a b=>match ev S.F c with
   | .bool t=>bif t then run E n N a S else run E n N b S
   | _=>none
  | .block id b=>(run E n N b S).map fun r=>match r.1 with
   | .exit k=>bif Nat.beq k id then (.normal,r.2) else r
   | _=>r
  | .loop b=>(run E n N b S).bind fun r=>match r.1 with
   | .normal=>run E n N (.loop b) r.2
   | _=>some r
  | .exit id=>some (.exit id,S)
  | .ret=>some (.ret,S)
  | _=>none
def a5a (E:iU):Nat→Array Oper→Oper→St→Option (AV×St)
 | 0,_,_,_=>none
 | n+1,ops,o,S=>match gG S.F ops o.guard with
  | none=>none
  | some false=>some (.tup [],S)
  | some true=>match o.op with
   | .call c=>match c.callee with
     | .builtin b=>zJ E b c.argTypes.toList (evl S.F c.args.toList) S
     | .value f=>match ev S.F f with
      | .fn f=>call E n f (evl S.F c.args.toList) S
      | .clo f i off=>call E n f (evl S.F c.args.toList++[.ptr i off]) S
      | _=>none
     | _=>none
   | .convert s d x=>match ev S.F x with
     | .opq i=>bif dC E (.convert s d x) then none else E.cv s d i S
     | .opl i _=>bif dC E (.convert s d x) then none else E.cv s d i S
     | _=>qU E (.convert s d x) S
   | op=>qU E op S
def call (E:iU):Nat→FuncId→List AV→St→Option (AV×St)
 | 0,_,_,_=>none
 | n+1,f,args,S=>(E.body f).bind fun fn=>fn.body.bind fun c=>match E.hk f args S with
   | some r=>some r
   | none=>(run E n (args.length+(fn.ntmps-args.length)) c { S with F:=b0k 0 args }).bind fun r=>match r.1 with
     | .exit _=>none
     | _=>(b0m E r.2.F r.2.H fn.results.toList).bind fun vs=>(b0n vs).map fun v=>(v,{ r.2 with F:=S.F })
end
end Go.Eng
namespace Go.Eng
open Go.Proofs
inductive FT where
 | leaf
 | node (k:Nat) (f:Func) (l r:FT)
def FT.get:FT→Nat→Option Func
 | .leaf,_=>none
 | .node k f l r,t=>bif Nat.beq t k then some f else bif Nat.blt t k then l.get t else r.get t
def tV:Nat→AV
 | 0 => .int .i64 0
 | 1 => .nils
 | 2 => .nilp
 | 3 => .bool false
 | 4 => .str .empty
 | 5 => .int .u32 0
 | 6 => .int .i32 0
 | _ => .int .u8 0
def tZ (l:List Nat):List AV:=l.map tV
def tI:List AV:=[.int .i64 0]
def tS (n:Nat) (z:List AV) (f:List (Nat×Nat×Bool)):TI:=⟨.struct,n,z,0,0,[],0,false,false,false,0,f⟩
def tR (n:Nat) (z:List AV) (f:List (Nat×Nat×Bool)):TI:=⟨.struct,n,z,0,0,[],0,false,false,true,0,f⟩
def tL (e n:Nat) (z:List AV) (b:Nat):TI:=⟨.slice,1,[.nils],e,n,z,b,false,false,false,0,[]⟩
def tP:TI:=⟨.ptr,1,[.nilp],0,0,[],0,false,false,false,0,[]⟩
def tO:TI:=⟨.other,1,[.ext .nilFunc],0,0,[],0,false,false,false,0,[]⟩
def tF1:List (Nat×Nat×Bool):=[(0,1,false)]
def tF2:List (Nat×Nat×Bool):=[(0,1,false),(1,1,false)]
def tF3:List (Nat×Nat×Bool):=[(0,1,false),(1,1,false),(2,1,false)]
def tF4:List (Nat×Nat×Bool):=[(0,1,false),(1,1,false),(2,1,false),(3,1,false)]
def tF5:List (Nat×Nat×Bool):=[(0,1,false),(1,1,false),(2,1,false),(3,1,false),(4,1,false)]
def tF6:List (Nat×Nat×Bool):=[(0,1,false),(1,1,false),(2,1,false),(3,1,false),(4,1,false),(5,1,false)]
def tF7:List (Nat×Nat×Bool):=[(0,1,false),(1,1,false),(2,1,false),(3,1,false),(4,1,false),(5,1,false),(6,1,false)]
def tN (k:Nat) (i:TI):TT := .node k i .leaf .leaf
def tt:TT:=(.node 216 (tS 3 [.nilp,.nils,.ext (.map none)] tF3) (.node 92 tP (.node 44 (tS 4 (tZ [0,0,0,4]) tF4) (.node 29 (tS 2 (tZ [4,4]) tF2) (.node 21 ⟨(.int .i32),1,[.int .i32 0],0,0,[],0,false,false,false,0,[]⟩ (.node 5 ⟨(.int .u8),1,[.int .u8 0],0,0,[],0,false,false,false,0,[]⟩ (.node 4 ⟨.bool,1,[.bool false],0,0,[],0,false,false,false,0,[]⟩ (tN 3 ⟨(.int .i64),1,tI,0,0,[],0,false,false,false,0,[]⟩) .leaf) (tN 9 ⟨.str,1,[.str .empty],0,0,[],0,false,false,false,0,[]⟩))
 (.node 24 tP (.node 23 (tL 4 1 [.bool false] 1) (tN 22 ⟨.slice,1,[.nils],3,1,tI,8,true,false,false,0,[]⟩) .leaf) (tN 26 (tL 41 4 (tZ [0,0,1,1]) 64)))) (.node 36 (tL 48 15 (tZ [0,0,0,4,0,0,0,0,0,0,0,0,0,0,0]) 128) (.node 33 ⟨.slice,1,[.nils],5,1,[.int .u8 0],1,true,true,false,0,[]⟩ (.node 32 (tS 2 (tZ [1,4]) tF2) (tN 30 (tL 29 2 (tZ [4,4]) 32)) .leaf) (tN 35 (tS 7 (tZ [0,0,4,4,1,1,4]) [(0,1,false),(1,1,false),(2,1,false),(3,1,false),(4,1,false),(5,2,true)])))
 (.node 39 (tL 182 2 (tZ [0,0]) 16) (tN 38 ⟨(.int .i64),1,tI,0,0,[],0,false,false,false,0,[]⟩) (tN 41 (tS 4 (tZ [0,0,1,1]) tF4))))) (.node 75 (tL 88 20 (tZ [0,0,0,5,0,0,3,3,0,0,1,1,0,1,1,0,1,1,0,1]) 264) (.node 58 tP (.node 54 (tL 57 3 (tZ [0,0,0]) 24) (.node 48 (tS 15 (tZ [0,0,0,4,0,0,0,0,0,0,0,0,0,0,0]) [(0,4,true),(4,1,false),(5,10,true)]) (tN 46 ⟨.array,10,(tZ [0,0,0,0,0,0,0,0,0,0]),3,1,tI,8,true,false,false,10,[]⟩) .leaf) (tN 57 ⟨.array,3,(tZ [0,0,0]),3,1,tI,8,true,false,false,3,[]⟩))
 (.node 67 (tS 3 (tZ [2,2,2]) tF3) (.node 64 tP (tN 62 tP) .leaf) (tN 69 (tL 35 7 (tZ [0,0,4,4,1,1,4]) 112)))) (.node 84 (tS 3 (tZ [1,0,1]) [(0,1,false),(1,2,true)]) (.node 80 (tL 290 12 (tZ [3,0,0,0,0,0,0,0,0,0,0,1]) 112) (.node 79 (tR 2 (tZ [0,5]) tF2) (tN 77 ⟨(.int .u32),1,[.int .u32 0],0,0,[],0,false,false,false,0,[]⟩) .leaf) (tN 82 (tS 2 (tZ [0,1]) tF2))) (.node 88 (tS 20 (tZ [0,0,0,5,0,0,3,3,0,0,1,1,0,1,1,0,1,1,0,1]) [(0,1,false),(1,1,false),(2,2,true),(4,16,true)]) (tN 86 (tS 16 (tZ [0,0,3,3,0,0,1,1,0,1,1,0,1,1,0,1]) [(0,1,false),(1,1,false),(2,1,false),(3,1,false),(4,1,false),(5,1,false),(6,1,false),(7,3,true),(10,3,true),(13,3,true)])) (tN 90 (tS 21 (tZ [3,0,0,0,5,0,0,3,3,0,0,1,1,0,1,1,0,1,1,0,1]) [(0,1,false),(1,20,true)]))))))
 (.node 145 (tS 1 [.nils] tF1) (.node 108 tP (.node 98 (tS 6 (tZ [2,2,2,2,2,2]) tF6) (.node 95 tP (.node 94 tP (tN 93 tP) .leaf) (tN 96 tP)) (.node 104 tP (.node 103 (tS 2 (tZ [4,1]) tF2) (tN 100 tP) .leaf) (tN 107 (tS 2 (tZ [2,2]) tF2)))) (.node 139 (tS 22 (tZ [0,3,0,0,0,5,0,0,3,3,0,0,1,1,0,1,1,0,1,1,0,1]) [(0,1,false),(1,21,true)]) (.node 116 (tS 5 (tZ [0,4,4,1,0]) tF5) (.node 112 (tS 3 (tZ [2,2,1]) tF3) (tN 110 (tL 116 5 (tZ [0,4,4,1,0]) 72)) .leaf) (tN 132 tP))
 (.node 142 (tS 1 [.nils] tF1) (tN 140 (tL 139 22 (tZ [0,3,0,0,0,5,0,0,3,3,0,0,1,1,0,1,1,0,1,1,0,1]) 280)) (tN 143 (tL 171 3 (tZ [0,4,1]) 48))))) (.node 190 (tS 2 (tZ [0,4]) tF2) (.node 171 (tS 3 (tZ [0,4,1]) [(0,1,false),(1,2,true)]) (.node 149 (tL 242 2 (tZ [4,1]) 40) (.node 148 (tS 1 [.nils] tF1) (tN 146 (tL 389 2 (tZ [0,0]) 16)) .leaf) (tN 151 (tS 1 [.nils] tF1))) (.node 179 tO (.node 178 (tS 3 (tZ [0,4,0]) tF3) (tN 174 (tL 178 3 (tZ [0,4,0]) 32)) .leaf) (tN 182 (tR 2 (tZ [0,0]) tF2))))
 (.node 206 (tS 2 (tZ [1,1]) tF2) (.node 203 (tS 6 (tZ [0,0,3,3,0,0]) tF6) (.node 192 (tL 90 21 (tZ [3,0,0,0,5,0,0,3,3,0,0,1,1,0,1,1,0,1,1,0,1]) 272) (tN 191 (tL 190 2 (tZ [0,4]) 24)) .leaf) (tN 204 (tL 344 4 (tZ [0,0,0,1]) 48))) (.node 209 (tS 16 (tZ [2,1,1,1,1,3,0,0,3,3,0,0,1,2,2,2]) [(0,1,false),(1,2,true),(3,2,true),(5,1,false),(6,6,true),(12,1,false),(13,1,false),(14,1,false),(15,1,false)]) (tN 207 tP) (tN 214 ⟨.smap,1,[.ext (.map none)],3,1,tI,8,false,false,false,4,[]⟩))))))
 (.node 360 tO (.node 306 (tS 1 [.nils] tF1) (.node 262 (tS 7 (tZ [1,4,1,1,1,1,2]) [(0,2,true),(2,2,true),(4,2,true),(6,1,false)]) (.node 235 tP (.node 230 ⟨.chan,1,[.ext (.chan none)],32,2,[],40,false,false,false,0,[]⟩ (.node 226 (tS 2 (tZ [2,2]) tF2) (tN 223 tP) .leaf) (tN 232 (tS 2 [.ext (.chan none),.bool false] tF2))) (.node 256 (tL 263 1 [.nils] 24) (.node 254 (tL 321 13 (tZ [0,0,0,0,0,0,0,0,0,0,0,0,0]) 104) (tN 242 (tS 2 (tZ [4,1]) tF2)) .leaf) (tN 257 tP)))
 (.node 291 tP (.node 288 (tL 415 11 (tZ [0,0,0,0,0,0,0,0,0,0,0]) 88) (.node 272 tO (tN 263 (tL 346 7 (tZ [0,1,0,0,3,0,0]) 72)) .leaf) (tN 290 (tS 12 (tZ [3,0,0,0,0,0,0,0,0,0,0,1]) [(0,1,false),(1,10,true),(11,1,false)]))) (.node 298 (tS 2 (tZ [2,2]) tF2) (tN 294 tP) (tN 304 (tL 311 2 (tZ [0,4]) 24))))) (.node 336 tP (.node 321 (tS 13 (tZ [0,0,0,0,0,0,0,0,0,0,0,0,0]) [(0,1,false),(1,1,false),(2,1,false),(3,10,true)])
 (.node 313 (tS 3 (tZ [1,0,0]) tF3) (.node 311 (tS 2 (tZ [0,4]) tF2) (tN 308 tO) .leaf) (tN 315 tO)) (.node 331 (tS 7 (tZ [1,1,0,0,0,0,0]) tF7) (.node 328 (tL 333 2 (tZ [6,0]) 16) (tN 327 tP) .leaf) (tN 333 (tR 2 (tZ [6,0]) tF2)))) (.node 347 (tL 349 8 (tZ [0,1,0,0,3,0,0,1]) 96) (.node 344 (tS 4 (tZ [0,0,0,1]) tF4) (.node 342 (tL 482 2 (tZ [6,6]) 8) (tN 338 (tS 4 (tZ [1,1,1,1]) tF4)) .leaf) (tN 346 (tS 7 (tZ [0,1,0,0,3,0,0]) tF7)))
 (.node 354 ⟨(.int .u64),1,[.int .u64 0],0,0,[],0,false,false,false,0,[]⟩ (tN 349 (tS 8 (tZ [0,1,0,0,3,0,0,1]) [(0,7,true),(7,1,false)])) (tN 355 ⟨(.int .u64),1,[.int .u64 0],0,0,[],0,false,false,false,0,[]⟩))))) (.node 436 (tS 2 (tZ [0,3]) tF2) (.node 403 (tS 2 (tZ [4,0]) tF2) (.node 381 (tL 33 1 [.nils] 24) (.node 376 ⟨.array,4,(tZ [7,7,7,7]),5,1,[.int .u8 0],1,true,true,false,4,[]⟩ (.node 373 (tS 5 (tZ [1,1,0,1,2]) [(0,2,true),(2,1,false),(3,1,false),(4,1,false)]) (tN 371 tP) .leaf) (tN 378 (tS 5 (tZ [7,7,7,7,0]) [(0,4,true),(4,1,false)])))
 (.node 399 (tL 403 2 (tZ [4,0]) 24) (.node 392 tP (tN 389 (tR 2 (tZ [0,0]) tF2)) .leaf) (tN 401 (tS 1 [.nils] tF1)))) (.node 416 tO (.node 410 (tL 84 3 (tZ [1,0,1]) 56) (.node 409 (tS 3 (tZ [1,0,0]) tF3) (tN 407 tP) .leaf) (tN 415 (tS 11 (tZ [0,0,0,0,0,0,0,0,0,0,0]) [(0,1,false),(1,10,true)]))) (.node 430 tO (tN 417 tO) (tN 431 tO)))) (.node 490 tP (.node 467 tO (.node 456 (tS 2 (tZ [1,1]) tF2) (.node 454 (tL 505 2 (tZ [0,3]) 16) (tN 447 tO) .leaf) (tN 457 ⟨.map,1,[.ext (.map none)],3,1,tI,8,false,false,false,0,[]⟩))
 (.node 485 tO (tN 482 (tR 2 (tZ [6,6]) tF2)) (tN 489 tP))) (.node 506 tP (.node 497 (tS 2 (tZ [2,1]) tF2) (.node 495 tP (tN 492 (tS 3 (tZ [2,1,3]) tF3)) .leaf) (tN 505 (tS 2 (tZ [0,3]) tF2))) (.node 518 ⟨(.int .u64),1,[.int .u64 0],0,0,[],0,false,false,false,0,[]⟩ (tN 508 ⟨(.int .i64),1,tI,0,0,[],0,false,false,false,0,[]⟩) (tN 522 tP)))))))
noncomputable def tG (k:Nat) (f:Func):FT := .node k f .leaf .leaf
noncomputable def ft:FT:=(.node 177 Tryz.f177 (.node 88 Tryz.f88 (.node 45 Tryz.f45 (.node 23 Tryz.f23 (.node 12 Tryz.f12 (.node 7 Tryz.f7 (.node 4 Tryz.f4 (.node 3 Tryz.f3 (tG 2 Tryz.f2) .leaf) (.node 6 Tryz.f6 (tG 5 Tryz.f5) .leaf)) (.node 10 Tryz.f10 (.node 9 Tryz.f9 (tG 8 Tryz.f8) .leaf) (tG 11 Tryz.f11))) (.node 18 Tryz.f18 (.node 15 Tryz.f15 (.node 14 Tryz.f14 (tG 13 Tryz.f13) .leaf) (.node 17 Tryz.f17 (tG 16 Tryz.f16) .leaf)) (.node 21 Tryz.f21 (.node 20 Tryz.f20 (tG 19 Tryz.f19) .leaf) (tG 22 Tryz.f22)))) (.node 34 Tryz.f34 (.node 29 Tryz.f29 (.node 26 Tryz.f26 (.node 25 Tryz.f25 (tG 24 Tryz.f24) .leaf) (.node 28 Tryz.f28 (tG 27 Tryz.f27) .leaf)) (.node 32 Tryz.f32 (.node 31 Tryz.f31 (tG 30 Tryz.f30) .leaf) (tG 33 Tryz.f33))) (.node 40 Tryz.f40 (.node 37 Tryz.f37 (.node 36 Tryz.f36 (tG 35 Tryz.f35) .leaf) (.node 39 Tryz.f39 (tG 38 Tryz.f38) .leaf)) (.node 43 Tryz.f43 (.node 42 Tryz.f42 (tG 41 Tryz.f41) .leaf) (tG 44 Tryz.f44))))) (.node 67 Tryz.f67 (.node 56 Tryz.f56 (.node 51 Tryz.f51 (.node 48 Tryz.f48 (.node 47 Tryz.f47 (tG 46 Tryz.f46) .leaf) (.node 50 Tryz.f50 (tG 49 Tryz.f49) .leaf)) (.node 54 Tryz.f54 (.node 53 Tryz.f53 (tG 52 Tryz.f52) .leaf) (tG 55 Tryz.f55))) (.node 62 Tryz.f62 (.node 59 Tryz.f59 (.node 58 Tryz.f58 (tG 57 Tryz.f57) .leaf) (.node 61 Tryz.f61 (tG 60 Tryz.f60) .leaf)) (.node 65 Tryz.f65 (.node 64 Tryz.f64 (tG 63 Tryz.f63) .leaf) (tG 66 Tryz.f66)))) (.node 78 Tryz.f78 (.node 73 Tryz.f73 (.node 70 Tryz.f70 (.node 69 Tryz.f69 (tG 68 Tryz.f68) .leaf) (.node 72 Tryz.f72 (tG 71 Tryz.f71) .leaf)) (.node 76 Tryz.f76 (.node 75 Tryz.f75 (tG 74 Tryz.f74) .leaf) (tG 77 Tryz.f77))) (.node 83 Tryz.f83 (.node 81 Tryz.f81 (.node 80 Tryz.f80 (tG 79 Tryz.f79) .leaf) (tG 82 Tryz.f82)) (.node 86 Tryz.f86 (.node 85 Tryz.f85 (tG 84 Tryz.f84) .leaf) (tG 87 Tryz.f87)))))) (.node 133 Tryz.f133 (.node 111 Tryz.f111 (.node 99 Tryz.f99 (.node 94 Tryz.f94 (.node 91 Tryz.f91 (.node 90 Tryz.f90 (tG 89 Tryz.f89) .leaf) (.node 93 Tryz.f93 (tG 92 Tryz.f92) .leaf)) (.node 97 Tryz.f97 (.node 96 Tryz.f96 (tG 95 Tryz.f95) .leaf) (tG 98 Tryz.f98))) (.node 106 Tryz.f106 (.node 102 Tryz.f102 (.node 101 Tryz.f101 (tG 100 Tryz.f100) .leaf) (.node 105 Tryz.f105 (tG 103 Tryz.f103) .leaf)) (.node 109 Tryz.f109 (.node 108 Tryz.f108 (tG 107 Tryz.f107) .leaf) (tG 110 Tryz.f110)))) (.node 122 Tryz.f122 (.node 117 Tryz.f117 (.node 114 Tryz.f114 (.node 113 Tryz.f113 (tG 112 Tryz.f112) .leaf) (.node 116 Tryz.f116 (tG 115 Tryz.f115) .leaf)) (.node 120 Tryz.f120 (.node 119 Tryz.f119 (tG 118 Tryz.f118) .leaf) (tG 121 Tryz.f121))) (.node 128 Tryz.f128 (.node 125 Tryz.f125 (.node 124 Tryz.f124 (tG 123 Tryz.f123) .leaf) (.node 127 Tryz.f127 (tG 126 Tryz.f126) .leaf)) (.node 131 Tryz.f131 (.node 130 Tryz.f130 (tG 129 Tryz.f129) .leaf) (tG 132 Tryz.f132))))) (.node 155 Tryz.f155 (.node 144 Tryz.f144 (.node 139 Tryz.f139 (.node 136 Tryz.f136 (.node 135 Tryz.f135 (tG 134 Tryz.f134) .leaf) (.node 138 Tryz.f138 (tG 137 Tryz.f137) .leaf)) (.node 142 Tryz.f142 (.node 141 Tryz.f141 (tG 140 Tryz.f140) .leaf) (tG 143 Tryz.f143))) (.node 150 Tryz.f150 (.node 147 Tryz.f147 (.node 146 Tryz.f146 (tG 145 Tryz.f145) .leaf) (.node 149 Tryz.f149 (tG 148 Tryz.f148) .leaf)) (.node 153 Tryz.f153 (.node 152 Tryz.f152 (tG 151 Tryz.f151) .leaf) (tG 154 Tryz.f154)))) (.node 167 Tryz.f167 (.node 162 Tryz.f162 (.node 158 Tryz.f158 (.node 157 Tryz.f157 (tG 156 Tryz.f156) .leaf) (.node 161 Tryz.f161 (tG 159 Tryz.f159) .leaf)) (.node 165 Tryz.f165 (.node 164 Tryz.f164 (tG 163 Tryz.f163) .leaf) (tG 166 Tryz.f166))) (.node 172 Tryz.f172 (.node 170 Tryz.f170 (.node 169 Tryz.f169 (tG 168 Tryz.f168) .leaf) (tG 171 Tryz.f171)) (.node 175 Tryz.f175 (.node 174 Tryz.f174 (tG 173 Tryz.f173) .leaf) (tG 176 Tryz.f176))))))) (.node 268 Tryz.f268 (.node 222 Tryz.f222 (.node 200 Tryz.f200 (.node 188 Tryz.f188 (.node 183 Tryz.f183 (.node 180 Tryz.f180 (.node 179 Tryz.f179 (tG 178 Tryz.f178) .leaf) (.node 182 Tryz.f182 (tG 181 Tryz.f181) .leaf)) (.node 186 Tryz.f186 (.node 185 Tryz.f185 (tG 184 Tryz.f184) .leaf) (tG 187 Tryz.f187))) (.node 194 Tryz.f194 (.node 191 Tryz.f191 (.node 190 Tryz.f190 (tG 189 Tryz.f189) .leaf) (.node 193 Tryz.f193 (tG 192 Tryz.f192) .leaf)) (.node 198 Tryz.f198 (.node 197 Tryz.f197 (tG 196 Tryz.f196) .leaf) (tG 199 Tryz.f199)))) (.node 211 Tryz.f211 (.node 206 Tryz.f206 (.node 203 Tryz.f203 (.node 202 Tryz.f202 (tG 201 Tryz.f201) .leaf) (.node 205 Tryz.f205 (tG 204 Tryz.f204) .leaf)) (.node 209 Tryz.f209 (.node 208 Tryz.f208 (tG 207 Tryz.f207) .leaf) (tG 210 Tryz.f210))) (.node 217 Tryz.f217 (.node 214 Tryz.f214 (.node 213 Tryz.f213 (tG 212 Tryz.f212) .leaf) (.node 216 Tryz.f216 (tG 215 Tryz.f215) .leaf)) (.node 220 Tryz.f220 (.node 219 Tryz.f219 (tG 218 Tryz.f218) .leaf) (tG 221 Tryz.f221))))) (.node 244 Tryz.f244 (.node 233 Tryz.f233 (.node 228 Tryz.f228 (.node 225 Tryz.f225 (.node 224 Tryz.f224 (tG 223 Tryz.f223) .leaf) (.node 227 Tryz.f227 (tG 226 Tryz.f226) .leaf)) (.node 231 Tryz.f231 (.node 230 Tryz.f230 (tG 229 Tryz.f229) .leaf) (tG 232 Tryz.f232))) (.node 239 Tryz.f239 (.node 236 Tryz.f236 (.node 235 Tryz.f235 (tG 234 Tryz.f234) .leaf) (.node 238 Tryz.f238 (tG 237 Tryz.f237) .leaf)) (.node 242 Tryz.f242 (.node 241 Tryz.f241 (tG 240 Tryz.f240) .leaf) (tG 243 Tryz.f243)))) (.node 256 Tryz.f256 (.node 250 Tryz.f250 (.node 247 Tryz.f247 (.node 246 Tryz.f246 (tG 245 Tryz.f245) .leaf) (.node 249 Tryz.f249 (tG 248 Tryz.f248) .leaf)) (.node 254 Tryz.f254 (.node 253 Tryz.f253 (tG 252 Tryz.f252) .leaf) (tG 255 Tryz.f255))) (.node 262 Tryz.f262 (.node 260 Tryz.f260 (.node 258 Tryz.f258 (tG 257 Tryz.f257) .leaf) (tG 261 Tryz.f261)) (.node 265 Tryz.f265 (.node 264 Tryz.f264 (tG 263 Tryz.f263) .leaf) (tG 266 Tryz.f266)))))) (.node 311 Tryz.f311 (.node 290 Tryz.f290 (.node 279 Tryz.f279 (.node 274 Tryz.f274 (.node 271 Tryz.f271 (.node 270 Tryz.f270 (tG 269 Tryz.f269) .leaf) (.node 273 Tryz.f273 (tG 272 Tryz.f272) .leaf)) (.node 277 Tryz.f277 (.node 276 Tryz.f276 (tG 275 Tryz.f275) .leaf) (tG 278 Tryz.f278))) (.node 285 Tryz.f285 (.node 282 Tryz.f282 (.node 281 Tryz.f281 (tG 280 Tryz.f280) .leaf) (.node 284 Tryz.f284 (tG 283 Tryz.f283) .leaf)) (.node 288 Tryz.f288 (.node 287 Tryz.f287 (tG 286 Tryz.f286) .leaf) (tG 289 Tryz.f289)))) (.node 301 Tryz.f301 (.node 296 Tryz.f296 (.node 293 Tryz.f293 (.node 292 Tryz.f292 (tG 291 Tryz.f291) .leaf) (.node 295 Tryz.f295 (tG 294 Tryz.f294) .leaf)) (.node 299 Tryz.f299 (.node 298 Tryz.f298 (tG 297 Tryz.f297) .leaf) (tG 300 Tryz.f300))) (.node 306 Tryz.f306 (.node 304 Tryz.f304 (.node 303 Tryz.f303 (tG 302 Tryz.f302) .leaf) (tG 305 Tryz.f305)) (.node 309 Tryz.f309 (.node 308 Tryz.f308 (tG 307 Tryz.f307) .leaf) (tG 310 Tryz.f310))))) (.node 333 Tryz.f333 (.node 322 Tryz.f322 (.node 317 Tryz.f317 (.node 314 Tryz.f314 (.node 313 Tryz.f313 (tG 312 Tryz.f312) .leaf) (.node 316 Tryz.f316 (tG 315 Tryz.f315) .leaf)) (.node 320 Tryz.f320 (.node 319 Tryz.f319 (tG 318 Tryz.f318) .leaf) (tG 321 Tryz.f321))) (.node 328 Tryz.f328 (.node 325 Tryz.f325 (.node 324 Tryz.f324 (tG 323 Tryz.f323) .leaf) (.node 327 Tryz.f327 (tG 326 Tryz.f326) .leaf)) (.node 331 Tryz.f331 (.node 330 Tryz.f330 (tG 329 Tryz.f329) .leaf) (tG 332 Tryz.f332)))) (.node 344 Tryz.f344 (.node 339 Tryz.f339 (.node 336 Tryz.f336 (.node 335 Tryz.f335 (tG 334 Tryz.f334) .leaf) (.node 338 Tryz.f338 (tG 337 Tryz.f337) .leaf)) (.node 342 Tryz.f342 (.node 341 Tryz.f341 (tG 340 Tryz.f340) .leaf) (tG 343 Tryz.f343))) (.node 350 Tryz.f350 (.node 347 Tryz.f347 (.node 346 Tryz.f346 (tG 345 Tryz.f345) .leaf) (tG 349 Tryz.f349)) (.node 353 Tryz.f353 (.node 352 Tryz.f352 (tG 351 Tryz.f351) .leaf) (tG 354 Tryz.f354))))))))
abbrev HK:=FuncId→List AV→St→Option (AV×St)
noncomputable def EBc (bd:Bd) (hk:HK) (cv:TypeId→TypeId→Nat→St→Option (AV×St)):iU:=⟨tt.get,ft.get,bd,hk,cv⟩
noncomputable def oL (bd:Bd) (hk:HK):iU:=EBc bd hk fun _ _ _ _=>none
noncomputable def EB (bd:Bd):iU:=oL bd fun _ _ _=>none
end Go.Eng
namespace Go.Eng
variable [fP]
open Go.RowKit
variable {P : Program} {w : World} {G G' : GM} {O : Nat → Prop}
structure FR (G:GM) (N:Nat) (F:Fr) (a:Act):Prop where
 df:a.defers=[]
 sz:a.tmps.size=N
 sl:∀ t,dv G (mJ F t)=some (a.tmps.getD t undef)
theorem FR.mono {N F a} (h:FR G N F a) (hg:lK G G'):FR G' N F a:=⟨h.df,h.sz,fun t=>vS hg (h.sl t)⟩
theorem FR.ev {N F a} (h:FR G N F a) (x:Operand):dv G (Go.Eng.ev F x)=some (a.eval x):=by
 cases x with
 | tmp t=>exact h.sl t
 | const v=>exact b0a v
 | global g=>rfl
 | func f=>rfl
theorem sK (F:Fr) (d:Nat) (v:AV) (t:Nat):mJ ((d,v)::F) t=if t=d then v else mJ F t:=by
 unfold mJ;rw[cH];split<;>rfl
theorem b0o (a:Array Value) (d t:Nat) (v u:Value) (h:d < a.size):(a.setIfInBounds d v).getD t u=if t=d then v else a.getD t u:=by
 by_cases e:t=d
 ·subst e;simp[h]
 ·rw[if_neg e];simp[Array.getElem?_setIfInBounds_ne (Ne.symm e)]
theorem FR.put {N F F' a} (h:FR G N F a) {dst:Option Nat} {v:AV} {u:Value} (hp:mV N F dst v=some F') (hv:dv G v=some u):FR G N F' (a.put dst u):=by
 cases dst with
 | none=>cases hp;exact h
 | some d =>
  obtain⟨b,c⟩:=bU hp;cases c;have hd:d < N:=by simpa [Nat.blt_eq] using b
  refine⟨h.df,by simp[Act.put,h.sz],fun t=>?_⟩;rw[sK];show _=some ((a.tmps.setIfInBounds d u).getD t undef);rw[b0o _ _ _ _ _ (by rw[h.sz];exact hd)];by_cases e:t=d
  ·rw[if_pos e,if_pos e];exact hv
  ·rw[if_neg e,if_neg e];exact h.sl t
theorem d5h {v:AV} {b:Bool} (h:dv G v=some (.bool b)):v = .bool b∨(∃ u,v = .ext u)∨∃ i,v = .opq i:=by
 cases v with
 | bool c=>cases h;exact .inl rfl
 | ext u=>exact .inr (.inl ⟨u,rfl⟩)
 | opq i=>exact .inr (.inr ⟨i,rfl⟩)
 | opl i e =>
  obtain⟨x,_,h⟩:=aA.1 (show Option.bind (G i) _=_ from h);obtain⟨_,_,_,_,_,h⟩:=a0m h;cases h
 | agg cs=>obtain⟨a,_,h⟩:=aB.1 (show Option.map _ (dG G cs)=_ from h);cases h
 | tup cs=>obtain⟨a,_,h⟩:=aB.1 (show Option.map _ (uQ G cs)=_ from h);cases h
 | ptr i o=>obtain⟨a,_,h⟩:=aB.1 (show Option.map _ (G i)=_ from h);cases h
 | clo f i o=>obtain⟨a,_,h⟩:=aB.1 (show Option.map _ (G i)=_ from h);cases h
 | slk i o n c=>obtain⟨a,_,h⟩:=aB.1 (show Option.map _ (G i)=_ from h);cases h
 | slc i o n=>obtain⟨a,_,h⟩:=aB.1 (show Option.map _ (G i)=_ from h);cases h
 | mp i=>obtain⟨a,_,h⟩:=aB.1 (show Option.map _ (G i)=_ from h);cases h
 | _=>cases h
theorem mP {N F a} (h:FR G N F a) {ops:Array Oper} {o:Oper} {b:Bool} (hw:gG F ops o.guard=some b):Region.wanted o (yielded ops a.tmps)=b:=by
 unfold gG at hw;unfold Region.wanted;split at hw
 ·rename_i g;cases hw;rw[g]
 ·rename_i j i g;rw[g];dsimp only;split at hw
  ·rename_i hd;cases hw;simp[yielded,hd]
  ·rename_i d hd;have r:yielded ops a.tmps j=match a.tmps[d]? with
     | some (.bool b)=>some b
     | _=>none:=by simp[yielded,hd];rfl
   have hs:=h.sl d;split at hw
   ·rename_i c s;cases hw;rw[s] at hs;have:a.tmps[d]?=some (.bool c):=by
     have e:a.tmps.getD d undef = .bool c:=(aK hs).symm;rw[Array.getD_eq_getD_getElem?] at e;cases f:a.tmps[d]? with
     | none=>rw[f] at e;cases e
     | some v=>rw[f] at e;exact congrArg some e
    rw[r,this];cases c<;>cases i<;>rfl
   ·cases hw
   ·cases hw
   ·rename_i l m p;cases hw;have:∀ c,a.tmps[d]?≠some (.bool c):=fun c f=>by
     have e:a.tmps.getD d undef = .bool c:=by rw[Array.getD_eq_getD_getElem?,f];rfl
     rw[e] at hs;rcases d5h hs with q|⟨u,q⟩|⟨u,q⟩
     ·exact l _ q
     ·exact m _ q
     ·exact p _ q
    rw[r];split
    ·rename_i c f;exact absurd f (this c)
    ·rfl
theorem a1t {N F a} (h:FR G N F a):∀ l:List Operand,uS G (evl F l) (l.map a.eval)
 | []=>trivial
 | x::l=>⟨h.ev x,a1t h l⟩
def Frm (S S':St):Prop:=(∃ pre,S'.H=pre++S.H)∧S.nx≤S'.nx∧∀ p∈S.obs,p∈S'.obs
theorem Frm.refl (S:St):Frm S S:=⟨⟨[],rfl⟩,aF _,fun _ h=>h⟩
theorem Frm.trans {A B C:St} (h:Frm A B) (k:Frm B C):Frm A C:=by
 obtain⟨⟨p,a⟩,b,c⟩:=h;obtain⟨⟨q,d⟩,f,g⟩:=k;exact⟨⟨q++p,by rw[d,a,bN]⟩,aL b f,fun x i=>g x (c x i)⟩
def iC (P:Program) (f:FuncId) (args:List AV) (S S':St) (v:AV):Prop :=
 S'.F=S.F∧Frm S S'∧((∀ p∈S'.obs,p)→∀ {w:World} {G:GM} {O:Nat→Prop} {us:List Value},uS G args us→gP w G O S.H S.nx →
  Calls P f us.toArray w fun e w'=>∃ u G' O',e = .returned u∧dv G' v=some u∧gP w' G' O' S'.H S'.nx∧oZ w G O w' G' O')
structure sL (P:Program) (E:iU):Prop where
 tt:∀ t ti,E.tt t=some ti→vT P t ti
 body:∀ f fn,E.body f=some fn→P.funcs[f]?=some fn∧(fn.name == "runtime.NumGoroutine")=false
 mixed:P.follows .mixedOrders=true
 bd:BD E.bd
 hk:∀ f args S v S',E.hk f args S=some (v,S')→iC P f args S S' v
 cv:∀ s d i S v S',E.cv s d i S=some (v,S')→∀ x,a6y (ev S.F x)=some i→dC E (.convert s d x)=false→kZ P E (.convert s d x) S S' v
def fK (P:Program) (ops:Array Oper) (o:Oper) (a:Act) (w:World) (K:Act→World→Prop) (Q:Exit→Act→World→Prop):Prop :=
 if Region.wanted o (yielded ops a.tmps)=true then o.wp P a w K Q else K (a.put o.dst undef) w
def lQ (P:Program) (N:Nat) (ops:Array Oper) (o:Oper) (S S':St) (v:AV):Prop :=
 S'.F=S.F∧Frm S S'∧((∀ p∈S'.obs,p)→∀ {w:World} {G:GM} {O:Nat→Prop} {a:Act},FR G N S.F a→gP w G O S.H S.nx→∀ {K:Act→World→Prop} {Q:Exit→Act→World→Prop},
  (∀ u w' G' O',dv G' v=some u→gP w' G' O' S'.H S'.nx→oZ w G O w' G' O'→K (a.put o.dst u) w')→fK P ops o a w K Q)
theorem kZ.seq {E:iU} {o:Op} {S S':St} {v:AV} (h:kZ P E o S S' v):S'.F=S.F∧Frm S S'∧((∀ p∈S'.obs,p)→∀ {w:World} {G:GM} {O:Nat→Prop} {a:Act},(∀ x,dv G (Go.Eng.ev S.F x)=some (a.eval x))→gP w G O S.H S.nx→e5m P o a w G O S' v):=by
 rcases h with⟨d,c,g,r,s⟩|⟨e,cs,D,rfl,d,c⟩|⟨-,d,c,g,r,s⟩
 ·refine⟨d,⟨⟨[],c⟩,Nat.le_of_eq g.symm,r⟩,fun I w G O a f b=>?_⟩;obtain⟨u,l,m⟩:=s I f b.toSat0;exact⟨_,u,w,G,O,m,.inl rfl,l,by rw[c,g];exact b,oZ.refl w G O⟩
 ·refine⟨rfl,⟨⟨[_],rfl⟩,Nat.le_succ _,fun _ h=>h⟩,fun _ w G O a f b=>?_⟩;obtain⟨t,l,m⟩:=c f;have A:lK G (fun j=>if j=S.nx then some ⟨w.heap.size,0,0,0,undef⟩ else G j):=fun i y z=>by
   have:=b.lt z;show (if i=S.nx then _ else _)=_;rw[if_neg (by omega)];exact z
  obtain⟨B,C⟩:=b.new (.cells t.toArray e) ⟨w.heap.size,0,0,0,undef⟩ (.row e cs) rfl ⟨t,cT A l,heap_alloc_new w _⟩;exact⟨_,D w.heap.size,_,_,_,m,.inl rfl,by rw[d];simp,B,C⟩
 ·exact⟨d,⟨c,g,fun p J=>by rw[r];exact J⟩,fun _ w G O a f b=>s f b⟩
theorem c0c {E:iU} {N:Nat} {ops:Array Oper} {o:Oper} {S S':St} {v:AV} (hw:gG S.F ops o.guard=some true) (h:kZ P E o.op S S' v):lQ P N ops o S S' v:=by
 obtain⟨m,p,r⟩:=h.seq;refine⟨m,p,fun z w G O a j A K Q l=>?_⟩;obtain⟨n,u,b,c,d,s,t,f,g,i⟩:=(r z (fun x=>j.ev x) A).run;unfold fK;rw[if_pos (mP j hw)];unfold Oper.wp;obtain⟨y,op,B,C,af,D⟩:=o;rw[s];rcases t with rfl|⟨rfl,rfl⟩
 ·exact l u b c d f g i
 ·exact l undef b c d f g i
theorem c7u {N:Nat} {ops:Array Oper} {o:Oper} {S S':St} {v:AV} {c:Call} {b:Builtin} (hop:o.op = .call c) (hc:c.callee = .builtin b) (hw:gG S.F ops o.guard=some true) (h:a0o P b c.argTypes.toList (evl S.F c.args.toList) S S' v):lQ P N ops o S S' v:=by
 have key:S'.F=S.F∧Frm S S'∧∀ {w:World} {G:GM} {O:Nat→Prop} {us:List Value},uS G (evl S.F c.args.toList) us→gP w G O S.H S.nx→d9n P b c.argTypes.toList us w G O S' v:=by
  rcases h with⟨rfl,h⟩|⟨-,i,j,l,D,E⟩
  ·exact⟨rfl,Frm.refl _,fun I g=>by obtain⟨u,f,x⟩:=h I g.toSat0;exact⟨u,_,_,_,x,f,g,oZ.refl _ _ _⟩⟩
  ·exact⟨i,⟨j,l,fun p J=>by rw[D];exact J⟩,E⟩
 obtain⟨i,j,l⟩:=key;refine⟨i,j,fun _ w G O a r g K Q L=>?_⟩;obtain⟨u,m,y,z,f,A,B,C⟩:=(l (a1t r _) g).run;unfold fK;rw[if_pos (mP r hw)];have d:(execOp a.eval o).run P w = .ok (.value u) m:=by
  unfold execOp;simp only[hop,resolve,hc,Sem.run_bind,Sem.run_pure,Result.andThen_ok,invoke];have s:(List.map a.eval c.args.toList).toArray=c.args.map a.eval:=by apply Array.toList_inj.1;simp
  have t:c.argTypes.toList.toArray=c.argTypes:=rfl;simp only[s,t] at f;exact f _ _
 unfold Oper.wp;rw[d];exact L u m y z A B C
theorem c3m {E:iU} (hE:sL P E) {N:Nat} {ops:Array Oper} {o:Oper} {S S':St} {v:AV} {c:Call} {fo:Operand} {f:FuncId} {fn:Func} (hop:o.op = .call c) (hc:c.callee = .value fo) (hf:Go.Eng.ev S.F fo = .fn f) (hb:E.body f=some fn) (hfb:fn.body.isSome=true) (hw:gG S.F ops o.guard=some true)
  (h:iC P f (evl S.F c.args.toList) S S' v):lQ P N ops o S S' v:=by
 obtain⟨p,r,s⟩:=h;refine⟨p,r,fun D w G O a l I K Q J=>?_⟩;obtain⟨t,j⟩:=hE.body f fn hb;unfold fK;rw[if_pos (mP l hw)];have g:a.eval fo = .func (.func f) #[] #[]:=by have:=l.ev fo;rw[hf] at this;exact(aK this).symm
 have d:(execOp a.eval o).run P w = .ok (.enter f (c.args.map a.eval)) w:=by
  unfold execOp;have i:fn.body≠none:=fun q=>by rw[q] at hfb;cases hfb
  have j:¬ fn.name = "runtime.NumGoroutine" := by simpa using j
  simp[hop,resolve,hc,invoke,g,Deferred.ofValue,callFunc,t,j,i]
 unfold Oper.wp;rw[d];have b:=s D (a1t l c.args.toList) I;have m:(List.map a.eval c.args.toList).toArray=c.args.map a.eval:=by apply Array.toList_inj.1;simp
 rw[m] at b;refine b.mono ?_;rintro e x ⟨u,y,z,rfl,A,B,C⟩;exact J u x y z A B C
theorem c0d {G:GM}:∀ {l m:List AV} {us vs:List Value},uS G l us→uS G m vs→uS G (l++m) (us++vs)
 | [],m,[],vs,_,h=>h
 | [],m,_::_,vs,h,_=>h.elim
 | _::_,m,[],vs,h,_=>h.elim
 | a::l,m,u::us,vs,h,k=>⟨h.1,c0d h.2 k⟩
theorem c7v {E:iU} (hE:sL P E) {N:Nat} {ops:Array Oper} {o:Oper} {S S':St} {v:AV} {c:Call} {fo:Operand} {f:FuncId} {i off:Nat} {fn:Func} (hop:o.op = .call c) (hc:c.callee = .value fo) (hf:Go.Eng.ev S.F fo = .clo f i off) (hb:E.body f=some fn) (hfb:fn.body.isSome=true) (hw:gG S.F ops o.guard=some true)
  (h:iC P f (evl S.F c.args.toList++[.ptr i off]) S S' v):lQ P N ops o S S' v:=by
 obtain⟨s,t,y⟩:=h;refine⟨s,t,fun M w G O a p R K Q T=>?_⟩;obtain⟨z,m⟩:=hE.body f fn hb;unfold fK;rw[if_pos (mP p hw)];have d:=p.ev fo;rw[hf] at d;obtain⟨x,A,d⟩:=aB.1 (show Option.map _ (G i)=_ from d);have j:(execOp a.eval o).run P w = .ok (.enter f (c.args.map a.eval++#[.pointer (some ⟨x.g,off,none⟩)])) w:=by
  unfold execOp;have l:fn.body≠none:=fun q=>by rw[q] at hfb;cases hfb
  have m:¬ fn.name = "runtime.NumGoroutine" := by simpa using m
  simp[hop,resolve,hc,invoke,← d,Deferred.ofValue,callFunc,z,m,l]
 unfold Oper.wp;rw[j];have b:=y M (c0d (a1t p c.args.toList) (show uS G [.ptr i off] [.pointer (some ⟨x.g,off,none⟩)] from⟨by show (G i).map _=_;rw[A];rfl,trivial⟩)) R;have r:(List.map a.eval c.args.toList++[Value.pointer (some ⟨x.g,off,none⟩)]).toArray=c.args.map a.eval++#[Value.pointer (some ⟨x.g,off,none⟩)]:=by apply Array.toList_inj.1;simp
 rw[r] at b;refine b.mono ?_;rintro e B ⟨u,C,D,rfl,I,J,L⟩;exact T u B C D I J L
theorem c3n {N:Nat} {ops:Array Oper} {o:Oper} {S:St} (hw:gG S.F ops o.guard=some false):lQ P N ops o S S (.tup []):=by
 refine⟨rfl,Frm.refl S,fun f w G O a b c K Q d=>?_⟩;unfold fK;rw[if_neg (by rw[mP b hw];simp)];exact d undef w G O rfl c (oZ.refl _ _ _)
end Go.Eng
