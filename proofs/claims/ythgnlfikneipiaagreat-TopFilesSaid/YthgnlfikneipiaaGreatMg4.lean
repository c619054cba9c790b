/- Texts of the proof, joined. -/
import Derived.Test.YthgnlfikneipiaaGreatMg3
import Derived.Test.YthgnlfikneipiaaGreatMg1
import Derived.Laws.BitsAllLaws
import Derived.Test.YthgnlfikneipiaaGreatRows
import Derived.Lib.AppendStr
import Derived.Test.YthgnlfikneipiaaGreatProg
import Derived.Lib.Hide
import Derived.Deep.RegionHeld3
import Derived.RegionTactic
import Derived.Deep.CutBlock
import Derived.Deep.DeepCutAuto
set_option linter.unusedSimpArgs false
set_option linter.unusedVariables false
set_option linter.unusedSectionVars false
set_option maxRecDepth 100000
set_option maxHeartbeats 4000000
namespace Go.Eng
variable [fP]
open Go.RowKit
def eq2:AV→AV→Bool
 | .agg l,.agg m=>a0e l m
 | a,b=>eqA a b
def c3y:List AV→List AV→Bool
 | [],[]=>true
 | a::l,b::m=>eq2 a b&&c3y l m
 | _,_=>false
def eqV:AV→AV→Bool
 | .tup l,.tup m=>c3y l m
 | a,b=>eq2 a b
omit [fP] in
theorem c8t {a b:AV} (h:eq2 a b=true):a=b:=by
 unfold eq2 at h;split at h
 ·rw[mK h]
 ·exact xT h
omit [fP] in
theorem a7h:∀ {l m:List AV},c3y l m=true→l=m
 | [],[],_=>rfl
 | [],_::_,h=>by cases h
 | _::_,[],h=>by cases h
 | a::l,b::m,h=>by
  simp only[c3y,aD] at h;rw[c8t h.1,a7h h.2]
omit [fP] in
theorem a7i {a b:AV} (h:eqV a b=true):a=b:=by
 unfold eqV at h;split at h
 ·rw[a7h h]
 ·exact c8t h
structure HE where
 f:Nat
 k:Nat
 ok:List AV→List AV→Hp→Bool
 out:List AV→List AV→Nat→AV×List AV
 n:Nat
 nb:List AV→List AV→Nat→Option cU
 k':Nat
def nbH:Option cU→Nat→Hp
 | some b,i=>[(i,b)]
 | none,_=>[]
def nbN:Option cU→Nat
 | some _=>1
 | none=>0
def d5t:List HE→FuncId→List AV→St→Option (AV×St)
 | [],_,_,_=>none
 | h::l,f,args,S=>match cK S.H 0 with
  | some (.gho k az)=>bif Nat.beq f h.f&&Nat.beq k h.k&&h.ok az args S.H then some ((h.out az args S.nx).1,{ S with H:=(0,.gho h.k' (h.out az args S.nx).2)::(nbH (h.nb az args S.nx) (S.nx+h.n)++S.H),nx:=S.nx+h.n+nbN (h.nb az args S.nx) }) else d5t l f args S
  | _=>none
def binds (G:GM) (nx:Nat) (xs:List GI):GM:=fun i=>if i < nx then G i else bT xs (i-nx)
def b1b (Fo:Nat→Prop) (w w':World) (G:GM) (F':Nat→Prop) (xs:List GI) (n:Nat):Option cU→Prop
 | none=>xs.length=n
 | some b=>xs.length=n+1∧b.live∧∃ x,bT xs n=some x∧(Fo x.g∨w.heap.size≤x.g)∧x.g < w'.heap.size∧¬ F' x.g∧BS w' G x b
def e1e (P:Program) (h:HE):Prop:=∀ {az args:List AV} {H:Hp} {nx:Nat} {w:World} {G:GM} {O F:Nat→Prop} {us gs:List Value},
 h.ok az args H=true→dG G az=some gs→uS G args us→gP w G O H nx→fP.gx h.k w gs F→(∀ x,F x→O x)→(∀ i b x,cK H i=some b→b.live→G i=some x→¬ F x.g) →
 Calls P h.f us.toArray w fun e w'=>∃ u F' xs gs',b1b F w w' (binds G nx xs) F' xs h.n (h.nb az args nx)∧e = .returned u∧dv (binds G nx xs) (h.out az args nx).1=some u∧dG (binds G nx xs) (h.out az args nx).2=some gs'∧fP.gx h.k' w' gs' F'∧cJ F w w'∧(∀ x,F' x→F x∨w.heap.size≤x)∧∀ x,F' x→x < w'.heap.size
theorem b1c {w:World} {G:GM} {O:Nat→Prop} {H:Hp} {nx:Nat} (h:gP w G O H nx) (xs:List GI):lK G (binds G nx xs):=fun i x a=>by
 unfold binds;rw[if_pos (h.lt a)];exact a
omit [fP] in
theorem a0s {α}:∀ {l:List α} {i:Nat} {x:α},bT l i=some x→i < l.length
 | [],i,x,h=>by cases h
 | _::_,0,x,h=>by simp
 | _::l,i+1,x,h=>by simp;exact a0s (l:=l) h
theorem b1b.len {Fo:Nat→Prop} {w w':World} {G:GM} {F':Nat→Prop} {xs:List GI} {n:Nat} {b:Option cU} (h:b1b Fo w w' G F' xs n b):xs.length=n+nbN b:=by
 cases b with
 | none=>exact h
 | some b=>exact h.1
theorem e5u {P:Program} {h:HE} (hh:e1e P h) {args az:List AV} {S:St} (hk:cK S.H 0=some (.gho h.k az)) (ho:h.ok az args S.H=true) :
  iC P h.f args S { S with H:=(0,.gho h.k' (h.out az args S.nx).2)::(nbH (h.nb az args S.nx) (S.nx+h.n)++S.H),nx:=S.nx+h.n+nbN (h.nb az args S.nx) } (h.out az args S.nx).1:=by
 refine⟨rfl,⟨⟨(0,.gho h.k' (h.out az args S.nx).2)::nbH (h.nb az args S.nx) (S.nx+h.n),by simp⟩,by dsimp only;omega,fun _ q=>q⟩,fun _ w G O us hu t=>?_⟩;obtain⟨gs,F,k1,k2,R,X⟩:=t.gh _ _ hk;refine(hh ho k1 hu t k2 (fun x m=>(R x m).1) X).mono ?_;rintro e w' ⟨u,F',K,a0,v,rfl,q2,q3,q4,B,q6,q7⟩;have Q:=b1c t K;have a1:=v.len;have o:∀ n x,bT K n=some x→binds G S.nx K (S.nx+n)=some x:=fun n x m=>by
  unfold binds;rw[if_neg (by omega),Nat.add_sub_cancel_left];exact m
 have z:∀ i c,cK ((0,cU.gho h.k' (h.out az args S.nx).2)::(nbH (h.nb az args S.nx) (S.nx+h.n)++S.H)) i=some c→c.live→cK S.H i=some c∨(i=S.nx+h.n∧∃ x,bT K h.n=some x∧(F x.g∨w.heap.size≤x.g)∧x.g < w'.heap.size∧¬ F' x.g∧BS w' (binds G S.nx K) x c):=fun i c a I=>by
  rw[cH] at a;split at a
  ·cases a;exact I.elim
  ·cases l:h.nb az args S.nx with
   | none=>rw[l] at a;exact .inl a
   | some b =>
    rw[l] at a v;obtain⟨T,C,x,d,s,D,L,M⟩:=v
    replace a:cK ((S.nx+h.n,b)::S.H) i=some c:=a
    rw[cH] at a;split at a
    ·rename_i e;cases a;exact .inr ⟨e,x,d,s,D,L,M⟩
    ·exact .inl a
 refine⟨u,binds G S.nx K,fun y=>(O y∨F' y)∨∃ x,bT K h.n=some x∧y=x.g∧nbN (h.nb az args S.nx)=1,rfl,q2,⟨⟨fun i b a I=>?_,fun i j b c x y a l hj W m hy he=>?_⟩,fun i a=>?_,fun x m=>?_,fun k a2 Z=>?_,fun x m=>?_,aL t.bw B.size⟩,Q,⟨B.os,B.tape,B.output,B.size,fun k hk hn=>B.block k hk fun q=>hn (R k q).1⟩,fun x m=>?_⟩
 ·rcases z i b a I with q|⟨rfl,x,d,s,D,L,M⟩
  ·obtain⟨x,E,N,Y,g4⟩:=t.bs i b q I;exact⟨x,Q i x E,.inl (.inl N),aX Y B.size,g4.mono Q (B.block _ Y (X i b x q I E))⟩
  ·refine⟨x,o _ x d,.inr ⟨x,d,rfl,?_⟩,D,M⟩;cases l:h.nb az args S.nx with
   | none =>
    rw[l] at v;have:=a0s d;have v:K.length=h.n:=v;omega
   | some b=>rfl
 ·rcases z i b a l with q|⟨rfl,x1,d,s,D,L,M⟩
  ·obtain⟨U,E,_,Y,_⟩:=t.bs i b q l;have A:=Q i U E;rw[m] at A;cases A;rcases z j c hj W with p|⟨rfl,x2,s3,V,s5,s6,s7⟩
   ·obtain⟨y',N,_⟩:=t.bs j c p W;have J:=Q j y' N;rw[hy] at J;cases J;exact t.inj i j b c x y q l p W E N he
   ·have J:=o _ _ s3;rw[hy] at J;cases J;rcases V with V|V
    ·rw[← he] at V;exact absurd V (X i b _ q l E)
    ·omega
  ·have A:=o _ _ d;rw[m] at A;cases A;rcases z j c hj W with p|⟨rfl,x2,s3,V,s5,s6,s7⟩
   ·obtain⟨y',N,_,Y,_⟩:=t.bs j c p W;have J:=Q j y' N;rw[hy] at J;cases J;rcases s with s|s
    ·rw[he] at s;exact absurd s (X j c _ p W N)
    ·omega
   ·rfl
 ·unfold binds;dsimp only at a;rw[if_neg (by omega),lX];exact List.getElem?_eq_none (by omega)
 ·rcases m with(q|q)|⟨U,T,rfl,C⟩
  ·exact aX (t.olt x q) B.size
  ·exact q7 x q
  ·cases l:h.nb az args S.nx with
   | none=>rw[l] at C;cases C
   | some b =>
    rw[l] at v;obtain⟨_,_,x2,d,s,D,L,M⟩:=v;rw[T] at d;cases d;exact D
 ·rw[cH,if_pos rfl] at Z;cases Z;refine⟨a0,F',q3,q4,fun x m=>⟨.inl (.inr m),fun q=>q⟩,fun i b x a I m hF=>?_⟩;rcases z i b a I with q|⟨rfl,x1,d,s,D,L,M⟩
  ·obtain⟨U,E,N,Y,_⟩:=t.bs i b q I;have A:=Q i U E;rw[m] at A;cases A;rcases q6 _ hF with p|p
   ·exact X i b x q I E p
   ·omega
  ·have A:=o _ _ d;rw[m] at A;cases A;exact L hF
 ·have key:O x∨w.heap.size≤x:=by
   rcases m with(q|q)|⟨U,T,rfl,C⟩
   ·exact .inl q
   ·exact(q6 x q).imp (fun r=>(R x r).1) id
   ·cases l:h.nb az args S.nx with
    | none=>rw[l] at C;cases C
    | some b =>
     rw[l] at v;obtain⟨_,_,x2,d,s,D,L,M⟩:=v;rw[T] at d;cases d;exact s.imp (fun r=>(R _ r).1) id
  exact key.elim (t.ob x) (aL t.bw)
 ·rcases m with(q|q)|⟨U,T,rfl,C⟩
  ·exact .inl q
  ·exact(q6 x q).imp (fun r=>(R x r).1) id
  ·cases l:h.nb az args S.nx with
   | none=>rw[l] at C;cases C
   | some b =>
    rw[l] at v;obtain⟨_,_,x2,d,s,D,L,M⟩:=v;rw[T] at d;cases d;exact s.imp (fun r=>(R _ r).1) id
theorem c0k {P:Program}:∀ {l:List HE},(∀ h∈l,e1e P h)→∀ f args S v S',d5t l f args S=some (v,S')→iC P f args S S' v
 | [],_,f,args,S,v,S',e=>by cases e
 | h::l,hl,f,args,S,v,S',e=>by
  simp only[d5t] at e;split at e
  ·rename_i k az hk;cases hc:Nat.beq f h.f&&Nat.beq k h.k&&h.ok az args S.H<;>rw[hc] at e
   ·exact c0k (fun x hx=>hl x (aT _ hx)) f args S v S' e
   ·cases e;simp only[aD] at hc;obtain⟨⟨h1,h2⟩,h3⟩:=hc;have h1:=aC h1;have h2:=aC h2;subst h1;subst h2;exact e5u (hl h (aR ..)) hk h3
  ·cases e
end Go.Eng
namespace Go.Eng
open Go.RowKit
structure cR (b:Nat) where
 P:World→(Nat→Prop)→Prop
 up:∀ {w w':World} {F S:Nat→Prop},P w F→cJ S w w'→(∀ x,F x→¬ S x)→(∀ x,S x→b≤x)→P w' F
 lt:∀ {w:World} {F:Nat→Prop},P w F→∀ x,F x→b≤x∧x < w.heap.size
section
variable {b : Nat}
def dZ:cR b:=⟨fun _ F=>∀ x,¬ F x,fun h _ _ _=>h,fun h x q=>absurd q (h x)⟩
def dQ (p:Prop):cR b:=⟨fun _ F=>p∧∀ x,¬ F x,fun h _ _ _=>h,fun h x q=>absurd q (h.2 x)⟩
structure dN (l:List (cR b)) (w:World) (fs:Nat→Nat→Prop):Prop where
 at_:∀ i A,bT l i=some A→A.P w (fs i)
 ap:∀ i j x,fs i x→fs j x→i=j
 no:∀ i,bT l i=none→∀ x,¬ fs i x
def cW (l:List (cR b)) (w:World) (F:Nat→Prop):Prop:=∃ fs,dN l w fs∧∀ x,F x↔∃ i,fs i x
theorem dN.lt {l:List (cR b)} {w:World} {fs:Nat→Nat→Prop} (h:dN l w fs) (i x:Nat) (hx:fs i x):b≤x∧x < w.heap.size:=by
 cases a:bT l i with
 | none=>exact absurd hx (h.no i a x)
 | some A=>exact A.lt (h.at_ i A a) x hx
theorem dN.up {l:List (cR b)} {w w':World} {fs:Nat→Nat→Prop} {S:Nat→Prop} (h:dN l w fs) (hu:cJ S w w') (hs:∀ i x,fs i x→¬ S x) (hb:∀ x,S x→b≤x):dN l w' fs :=
 ⟨fun i A a=>A.up (h.at_ i A a) hu (hs i) hb,h.ap,h.no⟩
theorem cW.up {l:List (cR b)} {w w':World} {F S:Nat→Prop} (h:cW l w F) (hu:cJ S w w') (hs:∀ x,F x→¬ S x) (hb:∀ x,S x→b≤x):cW l w' F:=by
 obtain⟨c,d,a⟩:=h;exact⟨c,d.up hu (fun i x f=>hs x ((a x).2 ⟨i,f⟩)) hb,a⟩
theorem cW.lt {l:List (cR b)} {w:World} {F:Nat→Prop} (h:cW l w F) (x:Nat) (hx:F x):b≤x∧x < w.heap.size:=by
 obtain⟨f,a,c⟩:=h;obtain⟨i,d⟩:=(c x).1 hx;exact a.lt i x d
def Ret (l':List (cR b)) (w:World) (F:Nat→Prop) (w':World):Prop:=∃ F',cW l' w' F'∧cJ F w w'∧∀ x,F' x→F x∨w.heap.size≤x
def put:List (cR b)→Nat→cR b→List (cR b)
 | [],_,A=>[A]
 | _::l,0,A=>A::l
 | B::l,n+1,A=>B::put l n A
theorem a0t:∀ (l:List (cR b)) (i:Nat) (A:cR b),i≤l.length→∀ j,bT (put l i A) j=if j=i then some A else bT l j
 | [],i,A,h,j=>by
  have:i=0:=by simpa using h
  subst this;cases j<;>rfl
 | B::l,0,A,h,j=>by cases j<;>rfl
 | B::l,i+1,A,h,0=>by simp[put,bT]
 | B::l,i+1,A,h,j+1=>by
  simp only[put,bT];rw[a0t l i A (by simpa using h) j];simp
theorem c0l:∀ (l:List (cR b)) (i:Nat) (A:cR b),l.length≤(put l i A).length
 | [],i,A=>by simp[put]
 | B::l,0,A=>by simp[put]
 | B::l,i+1,A=>by simp[put,c0l l i A]
theorem dN.step0 {l:List (cR b)} {w w':World} {fs:Nat→Nat→Prop} {F:Nat→Prop} (h:dN l w fs) (hF:∀ x,F x↔∃ i,fs i x) (hu:cJ (fun _=>False) w w'):Ret l w F w' :=
 ⟨F,⟨fs,h.up hu (fun _ _ _ q=>q) (fun _ q=>q.elim),hF⟩,⟨hu.os,hu.tape,hu.output,hu.size,fun k a _=>hu.block k a fun q=>q⟩,fun x c => .inl c⟩
theorem dN.step1 {l:List (cR b)} {w w':World} {fs:Nat→Nat→Prop} {F:Nat→Prop} (h:dN l w fs) (hF:∀ x,F x↔∃ i,fs i x) (i:Nat) (hi:i≤l.length) {A:cR b} {f:Nat→Prop} (hA:A.P w' f) (hu:cJ (fs i) w w') (hf:∀ x,f x→fs i x∨w.heap.size≤x):Ret (put l i A) w F w':=by
 have m:∀ j x,fs j x→x < w.heap.size:=fun j x c=>(h.lt j x c).2
 refine⟨fun x=>∃ j,(if j=i then f else fs j) x,⟨fun j=>if j=i then f else fs j,⟨fun j B a=>?_,fun j k x a d=>?_,fun j a x c=>?_⟩,fun x=>Iff.rfl⟩,⟨hu.os,hu.tape,hu.output,hu.size,fun k d o=>hu.block k d fun q=>o ((hF k).2 ⟨i,q⟩)⟩,fun x c=>?_⟩
 ·rw[a0t l i A hi] at a
  try dsimp only
  by_cases e:j=i
  ·rw[if_pos e] at a ⊢;cases a;exact hA
  ·rw[if_neg e] at a ⊢;exact B.up (h.at_ j B a) hu (fun x c q=>e (h.ap j i x c q)) fun x q=>(h.lt i x q).1
 ·try dsimp only at a d
  by_cases e:j=i<;>by_cases g:k=i
  ·omega
  ·rw[if_pos e] at a;rw[if_neg g] at d;rcases hf x a with q|q
   ·exact absurd (h.ap k i x d q) g
   ·have:=m k x d;omega
  ·rw[if_neg e] at a;rw[if_pos g] at d;rcases hf x d with q|q
   ·exact absurd (h.ap j i x a q) e
   ·have:=m j x a;omega
  ·rw[if_neg e] at a;rw[if_neg g] at d;exact h.ap j k x a d
 ·rw[a0t l i A hi] at a
  try dsimp only at c
  by_cases e:j=i
  ·rw[if_pos e] at a;cases a
  ·rw[if_neg e] at a c;exact h.no j a x c
 ·obtain⟨j,c⟩:=c;by_cases e:j=i
  ·rw[if_pos e] at c;exact(hf x c).imp (fun q=>(hF x).2 ⟨i,q⟩) id
  ·rw[if_neg e] at c;exact .inl ((hF x).2 ⟨j,c⟩)
def kW:List (Nat×cR b×(Nat→Prop))→Nat→Option (cR b×(Nat→Prop))
 | [],_=>none
 | (i,p)::l,j=>if j=i then some p else kW l j
theorem lE:∀ {c:List (Nat×cR b×(Nat→Prop))} {j:Nat} {p:cR b×(Nat→Prop)},kW c j=some p→(j,p)∈c
 | [],j,p,h=>by cases h
 | (i,q)::l,j,p,h=>by
  simp only[kW] at h;split at h
  ·rename_i e;cases h;rw[e];exact aR ..
  ·exact aT _ (lE h)
theorem dN.stepN {l:List (cR b)} {w w':World} {fs:Nat→Nat→Prop} {F:Nat→Prop} (h:dN l w fs) (hF:∀ x,F x↔∃ i,fs i x) (c:List (Nat×cR b×(Nat→Prop))) {l':List (cR b)} (S:Nat→Prop)
  (hl':∀ j,bT l' j=match kW c j with
   | some p=>some p.1
   | none=>bT l j)
  (hA:∀ p∈c,p.2.1.P w' p.2.2) (hu:cJ S w w') (hS:∀ x,S x→∃ p∈c,fs p.1 x) (hn:∀ p∈c,∀ x,p.2.2 x→S x∨w.heap.size≤x) (hd:∀ p∈c,∀ q∈c,∀ x,p.2.2 x→q.2.2 x→p.1=q.1):Ret l' w F w':=by
 have u:∀ x,S x→∃ i,fs i x:=fun x r=>by obtain⟨p,_,y⟩:=hS x r;exact⟨_,y⟩
 have z:∀ x,S x→b≤x:=fun x r=>by obtain⟨i,d⟩:=u x r;exact(h.lt i x d).1
 have v:∀ i,kW c i=none→∀ x,fs i x→¬ S x:=fun i d x r hs=>by
  obtain⟨p,y,f⟩:=hS x hs;have:=h.ap i p.1 x r f;subst this;clear hl' hA hS hn hd f r
  induction c with
  | nil=>cases y
  | cons a c ih =>
   obtain⟨j,a⟩:=a;simp only[kW] at d;split at d
   ·cases d
   ·rename_i e;rcases aG.1 y with rfl|y
    ·exact e rfl
    ·exact ih y d
 let g:Nat→Nat→Prop:=fun i=>match kW c i with
  | some p=>p.2
  | none=>fs i
 have o:∀ {i p},kW c i=some p→g i=p.2:=fun {i p} d=>by show (match kW c i with|some p=>p.2|none=>fs i)=_;rw[d]
 have m:∀ {i},kW c i=none→g i=fs i:=fun {i} d=>by show (match kW c i with|some p=>p.2|none=>fs i)=_;rw[d]
 refine⟨fun x=>∃ i,g i x,⟨g,⟨fun i A d=>?_,fun i j x d s=>?_,fun i d x r=>?_⟩,fun x=>Iff.rfl⟩,⟨hu.os,hu.tape,hu.output,hu.size,fun k B hn=>hu.block k B fun q=>hn ((hF k).2 (u k q))⟩,fun x r=>?_⟩
 ·rw[hl'] at d;cases f:kW c i with
  | none=>rw[f] at d;rw[m f];exact A.up (h.at_ i A d) hu (v i f) z
  | some p =>
   rw[f] at d;cases d;rw[o f];exact hA _ (lE f)
 ·cases f:kW c i with
  | none =>
   rw[m f] at d;cases t:kW c j with
   | none=>rw[m t] at s;exact h.ap i j x d s
   | some p =>
    rw[o t] at s;rcases hn _ (lE t) x s with q|q
    ·exact absurd q (v i f x d)
    ·have:=(h.lt i x d).2;omega
  | some p =>
   rw[o f] at d;cases t:kW c j with
   | none =>
    rw[m t] at s;rcases hn _ (lE f) x d with q|q
    ·exact absurd q (v j t x s)
    ·have:=(h.lt j x s).2;omega
   | some p' =>
    rw[o t] at s;exact hd _ (lE f) _ (lE t) x d s
 ·rw[hl'] at d;cases f:kW c i with
  | none=>rw[f] at d;rw[m f] at r;exact h.no i d x r
  | some p=>rw[f] at d;cases d
 ·obtain⟨i,d⟩:=r;cases f:kW c i with
  | none=>rw[m f] at d;exact .inl ((hF x).2 ⟨i,d⟩)
  | some p =>
   rw[o f] at d;exact(hn _ (lE f) x d).imp (fun q=>(hF x).2 (u x q)) id
abbrev cA (b:Nat) (ν:Nat→Int) (st:Nat→List Value→List (cR b)):fP where
 ν:=ν
 gx k w us F:=cW (st k us) w F
 b:=b
 gm h hu hs hb:=h.up hu hs hb
end
structure f0y where
 i:Nat
 e:TypeId
 sz:Nat
 cs:List AV
def f2e (H:Hp) (r:f0y):Bool:=match cK H r.i,r.sz with
 | some (.row e cs),0=>Nat.beq e r.e&&a0e r.cs cs
 | some (.gro e sz cs),s+1=>Nat.beq e r.e&&Nat.beq sz (s+1)&&a0e r.cs cs
 | _,_=>false
def c8u (H:Hp) (k:Nat) (az:List AV):Bool:=match cK H 0 with
 | some (.gho k' az')=>Nat.beq k k'&&a0e az az'
 | _=>false
section
variable {b : Nat} {ν : Nat → Int} {st : Nat → List Value → List (cR b)}
theorem mL {α}:∀ (l m:List α) (i:Nat),bT (l++m) i=if i < l.length then bT l i else bT m (i-l.length)
 | [],m,i=>by simp
 | a::l,m,0=>by simp[bT]
 | a::l,m,i+1=>by
  simp only[List.cons_append,bT,mL l m i,aW];split<;>split<;>first|rfl|omega|(congr 1;omega)
end
abbrev bQ (b:Nat) (ν:Nat→Int):fP where
 ν:=ν
 gx _ _ _ _:=False
 b:=b
 gm h _ _ _:=h
def rH (H:Hp):Bool:=match cK H 0 with
 | some (.gho _ _)=>false
 | _=>true
theorem b1d {H:Hp} (h:rH H=true) (k:Nat) (az:List AV):cK H 0≠some (.gho k az):=fun e=>by
 unfold rH at h;rw[e] at h;cases h
def cY (b:Nat) (ν:Nat→Int) (H:Hp) (n:Nat) (rt:List AV) (vals:List Value):cR b where
 P w F:=∃ G,@Sat0 (bQ b ν) w G F H∧(∀ i,n≤i→G i=none)∧@dG (bQ b ν) G rt=some vals∧∀ x,F x→b≤x∧x < w.heap.size
 up:=by
  letI:fP:=bQ b ν
  rintro w w' F S ⟨G,h1,h2,h3,h4⟩ hu hs hb;refine⟨G,⟨fun i c hi hl=>?_,h1.inj⟩,h2,h3,fun x hx=>⟨(h4 x hx).1,aX (h4 x hx).2 hu.size⟩⟩;obtain⟨x,k1,k2,k3,k4⟩:=h1.bs i c hi hl;exact⟨x,k1,k2,aX k3 hu.size,k4.mono (lK.refl G) (hu.block _ k3 (hs _ k2))⟩
 lt:=by
  rintro w F ⟨G,h1,h2,h3,h4⟩ x hx;exact h4 x hx
theorem wC {b:Nat} {ν:Nat→Int} {H:Hp} {n:Nat} {rt:List AV} {vals:List Value} {w:World} {F:Nat→Prop} (h:(cY b ν H n rt vals).P w F) (hg:rH H=true) (hb:b≤w.heap.size) :
  ∃ G,@gP (bQ b ν) w G F H n∧@dG (bQ b ν) G rt=some vals:=by
 obtain⟨G,d,f,g,c⟩:=h;exact⟨G,@gP.mk (bQ b ν) _ _ _ _ _ d f (fun x a=>(c x a).2) (fun k i j=>absurd j (b1d hg k i)) (fun x a=>(c x a).1) hb,g⟩
/-! Two things in one heap. -/
def shA (o:Nat):AV→AV
 | .ptr i a => .ptr (o+i) a
 | .slk i a n c => .slk (o+i) a n c
 | .slc i a n => .slc (o+i) a n
 | .mp i => .mp (o+i)
 | .clo f i a => .clo f (o+i) a
 | .opq i => .opq (o+i)
 | .opl i e => .opl (o+i) e
 | a=>a
def b1e (o:Nat):List AV→List AV
 | []=>[]
 | a::l=>shA o a::b1e o l
def shM (o:Nat):List (Int×AV)→List (Int×AV)
 | []=>[]
 | (k,a)::l=>(k,shA o a)::shM o l
def shB (o:Nat):cU→cU
 | .dead => .dead
 | .row e cs => .row e (b1e o cs)
 | .gro e s cs => .gro e s (b1e o cs)
 | .fro e cs => .fro e (b1e o cs)
 | .mp es c => .mp (shM o es) c
 | .gho k az => .gho k (b1e o az)
def shH (o:Nat):Hp→Hp
 | []=>[]
 | (k,b)::l=>(o+k,shB o b)::shH o l
def nX (G1:GM) (n:Nat) (G2:GM):GM:=fun i=>if i < n then G1 i else G2 (i-n)
section
variable [fP] {G1 G2 : GM} {n : Nat}
theorem c0m (i:Nat):nX G1 n G2 (n+i)=G2 i:=by
 unfold nX;rw[if_neg (by omega),Nat.add_sub_cancel_left]
theorem d9q (a:AV):dn (nX G1 n G2) (shA n a)=dn G2 a:=by
 cases a<;>first|rfl|simp only[shA,dn,c0m]
theorem a2b:∀ l:List AV,dG (nX G1 n G2) (b1e n l)=dG G2 l
 | []=>rfl
 | a::l=>by simp only[b1e,dG,d9q,a2b l]
theorem a5k:∀ l:List (Int×AV),gL (nX G1 n G2) (shM n l)=gL G2 l
 | []=>rfl
 | (k,a)::l=>by simp only[shM,gL,d9q,a5k l]
theorem c0n:∀ l:List (Int×AV),(shM n l).length=l.length
 | []=>rfl
 | (k,a)::l=>by simp[shM,c0n l]
theorem BS.sh {w:World} {x:GI} {b:cU} (h:BS w G2 x b):BS w (nX G1 n G2) x (shB n b):=by
 cases b with
 | dead=>trivial
 | row e cs=>obtain⟨a,f,d⟩:=h;exact⟨a,by rw[a2b];exact f,d⟩
 | gro e s cs=>obtain⟨i,f,a,j,d,g⟩:=h;exact⟨i,f,a,j,by rw[a2b];exact d,g⟩
 | fro e cs=>obtain⟨i,a,j,l,d,g⟩:=h;exact⟨i,a,j,l,by rw[a2b];exact d,g⟩
 | mp es c=>obtain⟨a,f,d,g⟩:=h;exact⟨a,by rw[a5k];exact f,by rw[c0n];exact d,g⟩
 | gho k az=>exact h.elim
theorem c8v {b:cU}:(shB n b).live↔b.live:=by cases b<;>exact Iff.rfl
theorem c0o:∀ {H:Hp} {i:Nat} {c:cU},cK (shH n H) i=some c→∃ j d,i=n+j∧cK H j=some d∧c=shB n d
 | [],i,c,h=>by cases h
 | (k,b)::l,i,c,h=>by
  rw[shH,cH] at h;split at h
  ·rename_i e;cases h;exact⟨k,b,e,by rw[cH,if_pos rfl],rfl⟩
  ·rename_i e;obtain⟨j,d,rfl,h2,h3⟩:=c0o h;exact⟨j,d,rfl,by rw[cH,if_neg (by omega)];exact h2,h3⟩
theorem b1f {α}:∀ {l m:List (Nat×α)} {i:Nat} {x:α},cK (l++m) i=some x→cK l i=some x∨(cK l i=none∧cK m i=some x)
 | [],m,i,x,h => .inr ⟨rfl,h⟩
 | (k,y)::l,m,i,x,h=>by
  rw[List.cons_append,cH] at h;rw[cH];split at h
  ·rename_i e;rw[if_pos e];exact .inl h
  ·rename_i e;rw[if_neg e];exact b1f h
theorem gP.join {w:World} {F1 F2:Nat→Prop} {H1 H2:Hp} {n2:Nat} (h1:gP w G1 F1 H1 n) (h2:gP w G2 F2 H2 n2) (hd:∀ x,F1 x→¬ F2 x) (hg:rH (H1++shH n H2)=true):gP w (nX G1 n G2) (fun x=>F1 x∨F2 x) (H1++shH n H2) (n+n2):=by
 have s:lK G1 (nX G1 n G2):=fun i x h=>by
  unfold nX;rw[if_pos (h1.lt h)];exact h
 have a:∀ i c,cK (H1++shH n H2) i=some c→c.live→(∃ x,nX G1 n G2 i=some x∧G1 i=some x∧cK H1 i=some c)∨∃ j d x,i=n+j∧cK H2 j=some d∧d.live∧c=shB n d∧nX G1 n G2 i=some x∧G2 j=some x:=fun i c h A=>by
  rcases b1f h with q|⟨_,q⟩
  ·obtain⟨x,m,_⟩:=h1.bs i c q A;exact .inl ⟨x,s i x m,m,q⟩
  ·obtain⟨j,d,rfl,b,rfl⟩:=c0o q;have t:=c8v.1 A;obtain⟨x,p,_⟩:=h2.bs j d b t;exact .inr ⟨j,d,x,rfl,b,t,rfl,by rw[c0m];exact p,p⟩
 refine⟨⟨fun i c h A=>?_,fun i j c d x y h O R l r F he=>?_⟩,fun i h=>?_,fun x r=>r.elim (h1.olt x) (h2.olt x),fun k S T=>absurd T (b1d hg k S),fun x r=>r.elim (h1.ob x) (h2.ob x),h1.bw⟩
 ·rcases a i c h A with⟨x,f,g,C⟩|⟨j,d,x,rfl,f,g,rfl,D,E⟩
  ·obtain⟨G,m,b,p,I⟩:=h1.bs i c C A;rw[g] at m;cases m;exact⟨x,f,.inl b,p,I.mono s rfl⟩
  ·obtain⟨G,m,b,p,I⟩:=h2.bs j d f g;rw[E] at m;cases m;exact⟨x,D,.inr b,p,I.sh⟩
 ·rcases a i c h O with⟨G,f,g,C⟩|⟨P,Q,G,rfl,f,g,rfl,D,E⟩
  ·rw[r] at f;cases f;obtain⟨_,u,b,_⟩:=h1.bs i c C O;rw[g] at u;cases u;rcases a j d R l with⟨J,p1,o,K⟩|⟨L,M,J,rfl,p1,o,rfl,z,N⟩
   ·rw[F] at p1;cases p1;exact h1.inj i j c d x y C O K l g o he
   ·rw[F] at z;cases z;obtain⟨_,v,B,_⟩:=h2.bs L M p1 o;rw[N] at v;cases v;rw[he] at b;exact absurd B (hd _ b)
  ·rw[r] at D;cases D;obtain⟨_,u,b,_⟩:=h2.bs P Q f g;rw[E] at u;cases u;rcases a j d R l with⟨J,p1,o,K⟩|⟨L,M,J,rfl,p1,o,rfl,z,N⟩
   ·rw[F] at p1;cases p1;obtain⟨_,v,B,_⟩:=h1.bs j d K l;rw[o] at v;cases v;rw[← he] at B;exact absurd b (hd _ B)
   ·rw[F] at z;cases z;rw[h2.inj P L Q M x y f g p1 o E N he]
 ·unfold nX;rw[if_neg (by omega)];exact h2.fresh _ (by omega)
end
structure mM where
 ρ:Ren
 B:Hp
 n:Nat
 rt:List AV
 rg:List AV
def uF (ρ:Ren):Hp→List Nat
 | []=>[]
 | (k,_)::l=>(bT ρ k).getD 0::uF ρ l
def jR:List mM→List Nat
 | []=>[]
 | p::l=>uF p.ρ p.B++jR l
def mM.ok (p:mM) (H:Hp) (nx:Nat):Bool:=c8p p.ρ p.n H nx p.B&&uX p.ρ p.rt p.rg
theorem xY {ρ:Ren}:∀ {B:Hp} {k i:Nat} {b:cU},cK B k=some b→bT ρ k=some i→i∈uF ρ B
 | [],k,i,b,h,_=>by cases h
 | (j,c)::l,k,i,b,h,hi=>by
  simp only[cK] at h;cases hq:Nat.beq k j<;>rw[hq] at h
  ·exact aT _ (xY h hi)
  ·have:=aC hq;subst this;rw[uF,hi];exact aR ..
theorem uY:∀ {l m:List Nat},lD (l++m)=true→lD m=true∧∀ x∈l,x∉m
 | [],m,h=>⟨h,fun x q=>by cases q⟩
 | a::l,m,h=>by
  simp only[List.cons_append,lD,aD,Bool.not_eq_true'] at h;have hm:∀ {l:List Nat} {i:Nat},pQ l i=false→i∉l:=by
   intro l i b
   induction l with
   | nil=>simp
   | cons x l ih =>
    simp only[pQ,Bool.or_eq_false_iff] at b;intro q;rcases aG.1 q with rfl|q
    ·simp at b
    ·exact ih b.2 q
  have d:=hm h.1;obtain⟨f,g⟩:=uY h.2;refine⟨f,fun x c=>?_⟩;rcases aG.1 c with rfl|c
  ·exact fun q=>d (List.mem_append_right _ q)
  ·exact g x c
section
variable {b : Nat} {ν : Nat → Int}
def wD (G:GM) (p:mM) (y:Nat):Prop:=∃ k c x,cK p.B k=some c∧c.live∧GM.ren p.ρ G k=some x∧y=x.g
theorem xZ {w:World} {G:GM} {O:Nat→Prop} {H:Hp} {nx:Nat} (h:@gP (bQ b ν) w G O H nx) {p:mM} (hp:p.ok H nx=true) {vals:List Value} (hv:@dG (bQ b ν) G p.rg=some vals) :
  (cY b ν p.B p.n p.rt vals).P w (wD G p)∧∀ y,wD G p y→O y:=by
 letI:fP:=bQ b ν
 unfold mM.ok at hp;rw[aD] at hp;have hs:=h.gc hp.1;have d:∀ y,wD G p y→O y:=fun y ⟨k,c,x,h1,h2,h3,h4⟩=>by
  obtain⟨r,a,f,_⟩:=hs.bs k c h1 h2;rw[h3] at a;cases a;rw[h4];exact f
 refine⟨⟨GM.ren p.ρ G,⟨fun i c g j=>?_,hs.inj⟩,hs.fresh,by rw[mR hp.2];exact hv,fun y l=>⟨h.ob y (d y l),h.olt y (d y l)⟩⟩,d⟩;obtain⟨x,a,f,m,o⟩:=hs.bs i c g j;exact⟨x,a,⟨i,c,x,g,j,a,rfl⟩,m,o⟩
theorem a5l {w:World} {G:GM} {O:Nat→Prop} {H:Hp} {nx:Nat} (h:@gP (bQ b ν) w G O H nx) {p:mM} (hp:p.ok H nx=true) {y:Nat} (hy:wD G p y):∃ i c x,i∈uF p.ρ p.B∧cK H i=some c∧c.live∧G i=some x∧x.g=y:=by
 letI:fP:=bQ b ν
 unfold mM.ok at hp;simp only[aD] at hp;obtain⟨k,c,x,d,u,m,o⟩:=hy;have a:=hp.1;simp only[c8p,aD] at a;obtain⟨i,r,f,s,t⟩:=nA a.1.1.1 k c d;have j:=(pC (w:=w) (x:=x) (G:=G) t).1.2;have l:G i=some x:=by have:(bT p.ρ k).bind G=some x:=m;rw[f] at this;exact this
 exact⟨i,r,x,xY d f,s,j,l,o.symm⟩
theorem b1g {w:World} {G:GM} {O:Nat→Prop} {H:Hp} {nx:Nat} (h:@gP (bQ b ν) w G O H nx) {p q:mM} (hp:p.ok H nx=true) (hq:q.ok H nx=true) (hd:∀ x∈uF p.ρ p.B,x∉uF q.ρ q.B) (y:Nat) (h1:wD G p y):¬ wD G q y:=fun v=>by
 letI:fP:=bQ b ν
 obtain⟨i,c,x,a,f,g,l,m⟩:=a5l h hp h1;obtain⟨j,d,z,o,r,s,t,u⟩:=a5l h hq v;have:=h.inj i j c d x z f g r s l t (by rw[m,u]);subst this;exact hd i a o
def fG (E:iU) (fuel:Nat) (f:FuncId) (args:List AV) (H:Hp) (nx:Nat) (v:AV) (ps:List mM):Bool :=
 match call E fuel f args ⟨[],H,nx,[],[]⟩ with
 | some (v',S)=>eqV v v'&&ps.all (fun p=>p.ok S.H S.nx)&&lD (jR ps)&&S.obs.isEmpty
 | none=>false
theorem a2c {P:Program} {E:iU} (hE:@sL (bQ b ν) P E) {fuel:Nat} {f:FuncId} {args:List AV} {H:Hp} {nx:Nat} {v:AV} {ps:List mM} (h:fG E fuel f args H nx v ps=true)
  {w:World} {G:GM} {O:Nat→Prop} {us:List Value} (hu:@uS (bQ b ν) G args us) (hS:@gP (bQ b ν) w G O H nx) :
  Calls P f us.toArray w fun e w'=>∃ u G' O' H' nx',e = .returned u∧@dv (bQ b ν) G' v=some u∧lK G G'∧@gP (bQ b ν) w' G' O' H' nx'∧(∀ p∈ps,p.ok H' nx'=true)∧lD (jR ps)=true∧cJ O w w'∧∀ x,O' x→O x∨w.heap.size≤x:=by
 letI:fP:=bQ b ν
 unfold fG at h;split at h
 ·rename_i y S i;simp only[aD] at h;obtain⟨⟨⟨j,l⟩,m⟩,r⟩:=h;have d:S.obs=[]:=by simpa using r
  refine((a0r hE i).2.2 (by rw[d];intro p a;cases a) hu hS).mono ?_;rintro e w' ⟨u,G',O',rfl,s,t,c⟩;exact⟨u,G',O',S.H,S.nx,rfl,by rw[a7i j];exact s,c.g,t,fun p a=>bB.1 l p a,m,c.u,c.o⟩
 ·cases h
end
abbrev Sb:=List eK
def sbT (σ:Sb):List (Nat×Int)→eK
 | []=>⟨0,[]⟩
 | (i,a)::l=>match bT σ i with
  | some e=>⟨a*e.c+(sbT σ l).c,b5d a e.ts (sbT σ l).ts⟩
  | none=>⟨(sbT σ l).c,c3c i a (sbT σ l).ts⟩
def sbL (σ:Sb) (e:eK):eK:=⟨e.c+(sbT σ e.ts).c,(sbT σ e.ts).ts⟩
def sbA (σ:Sb):AV→AV
 | .sym k e=>uE k (sbL σ e)
 | a=>a
def b1h (σ:Sb):List AV→List AV
 | []=>[]
 | a::l=>sbA σ a::b1h σ l
def sbB (σ:Sb):cU→cU
 | .row e cs => .row e (b1h σ cs)
 | .gro e s cs => .gro e s (b1h σ cs)
 | .fro e cs => .fro e (b1h σ cs)
 | _ => .dead
def gJ (σ:Sb):Hp→Hp
 | []=>[]
 | (k,b)::l=>(k,sbB σ b)::gJ σ l
def uZ:AV→Bool
 | .opl _ _=>false
 | _=>true
def a7j:cU→Bool
 | .row _ cs=>cs.all uZ
 | .gro _ _ cs=>cs.all uZ
 | .fro _ cs=>cs.all uZ
 | _=>false
def rI:Hp→Bool
 | []=>true
 | (_,b)::l=>a7j b&&rI l
section
variable {b : Nat} {ν ν' : Nat → Int} {σ : Sb}
def tX (σ:Sb) (ν ν':Nat→Int):Prop:=∀ i,ν' i=match bT σ i with
 | some e=>@eK.val (bQ 0 ν) e
 | none=>ν i
theorem c0p (e:eK):@eK.val (bQ b ν) e=@eK.val (bQ 0 ν) e:=by
 have:∀ l,@gX (bQ b ν) l=@gX (bQ 0 ν) l:=by
  intro l;induction l with
  | nil=>rfl
  | cons p l ih =>
   obtain⟨i,a⟩:=p;show a*ν i+@gX (bQ b ν) l=a*ν i+@gX (bQ 0 ν) l;rw[ih]
 simp only[eK.val,this]
theorem c8w (h:tX σ ν ν'):∀ l,@eK.val (bQ 0 ν) (sbT σ l)=@gX (bQ 0 ν') l
 | []=>rfl
 | (i,a)::l=>by
  have ih:=c8w h l;have b:=h i;simp only[sbT,gX];cases d:bT σ i with
  | none =>
   simp only[d] at b;simp only[eK.val,@a1f (bQ 0 ν)] at ih ⊢;show _=a*ν' i+_;rw[b,← ih];show (sbT σ l).c+(a*ν i+_)=_;omega
  | some e =>
   rw[d] at b;simp only[eK.val,@vQ (bQ 0 ν)] at ih b ⊢;show _=a*ν' i+_;rw[b,← ih,Int.mul_add];omega
theorem e1f (h:tX σ ν ν') (e:eK):@eK.val (bQ b ν) (sbL σ e)=@eK.val (bQ b ν') e:=by
 rw[c0p (b:=b) (ν:=ν),c0p (b:=b) (ν:=ν')];have a:(sbT σ e.ts).c+@gX (bQ 0 ν) (sbT σ e.ts).ts=@gX (bQ 0 ν') e.ts:=c8w h e.ts;show (e.c+(sbT σ e.ts).c)+@gX (bQ 0 ν) (sbT σ e.ts).ts=e.c+@gX (bQ 0 ν') e.ts;omega
theorem c8x (G:GM) (k:IntKind) (e:eK):@dn (bQ b ν) G (uE k e)=some (.int k (@eK.val (bQ b ν) e)):=by
 letI:fP:=bQ b ν
 unfold uE;split
 ·rename_i q;rw[eK.val_kn (by simp[eK.kn,q])];rfl
 ·rfl
theorem e1g (h:tX σ ν ν') {a:AV} (hp:uZ a=true) (G:GM):@dn (bQ b ν) G (sbA σ a)=@dn (bQ b ν') G a:=by
 cases a<;>first
  | rfl
  | (simp only[sbA];rw[c8x,e1f h];rfl)
  | cases hp
theorem a0u (h:tX σ ν ν') (G:GM):∀ {l:List AV},l.all uZ=true→@dG (bQ b ν) G (b1h σ l)=@dG (bQ b ν') G l
 | [],_=>rfl
 | a::l,hp=>by
  rw[List.all_cons,aD] at hp;simp only[b1h,dG,e1g h hp.1 G,a0u h G hp.2]
theorem pD {b:cU} (hp:a7j b=true):(sbB σ b).live∧b.live:=by
 cases b<;>first|exact⟨trivial,trivial⟩|cases hp
theorem c8y (h:tX σ ν ν') {c:cU} (hp:a7j c=true) {w:World} {G:GM} {x:GI}:@BS (bQ b ν) w G x (sbB σ c)↔@BS (bQ b ν') w G x c:=by
 cases c<;>first
  | (cases hp;done)
  | (simp only[sbB,BS,a0u h G hp])
theorem wE:∀ {H:Hp} {i:Nat},cK (gJ σ H) i=(cK H i).map (sbB σ)
 | [],i=>rfl
 | (k,c)::l,i=>by
  simp only[gJ,cK];cases Nat.beq i k
  ·exact wE (H:=l)
  ·rfl
theorem hJ:∀ {H:Hp} {i:Nat} {c:cU},rI H=true→cK H i=some c→a7j c=true
 | [],i,c,_,h=>by cases h
 | (k,d)::l,i,c,hp,h=>by
  simp only[rI,aD] at hp;simp only[cK] at h;cases hq:Nat.beq i k<;>rw[hq] at h
  ·exact hJ hp.2 h
  ·cases h;exact hp.1
theorem fH (h:tX σ ν ν') {H:Hp} {n:Nat} {rt:List AV} {vals:List Value} (hp:rI H=true) (hr:rt.all uZ=true) {w:World} {F:Nat→Prop} (hA:(cY b ν (gJ σ H) n (b1h σ rt) vals).P w F):(cY b ν' H n rt vals).P w F:=by
 letI:fP:=bQ b ν
 obtain⟨G,f,l,m,o⟩:=hA;refine⟨G,@Sat0.mk (bQ b ν') _ _ _ _ (fun i c a z=>?_) (fun i j c d x y a A g hd u v he=>?_),l,by rw[← a0u h G hr];exact m,o⟩
 ·obtain⟨x,p,r,s,t⟩:=f.bs i (sbB σ c) (by rw[wE,a];rfl) (pD (hJ hp a)).1;exact⟨x,p,r,s,(c8y h (hJ hp a)).1 t⟩
 ·exact f.inj i j (sbB σ c) (sbB σ d) x y (by rw[wE,a];rfl) (pD (hJ hp a)).1 (by rw[wE,g];rfl) (pD (hJ hp g)).1 u v he
end
end Go.Eng
namespace Go.Eng
def n6 (n:Int):AV := .int .i64 n
def n6s:List Int→List AV
 | []=>[]
 | n::l => .int .i64 n::n6s l
def l6 (c:Int) (l:List (Nat×Int)):AV := .sym .i64 ⟨c,l⟩
def cdX (k:Nat):cU := .gro 344 4 [n6 4,n6 0,n6 0,.nils,n6 1,n6 0,n6 0,.slc k 0 1,n6 4,n6 1,n6 0,.nils,n6 7,n6 0,n6 0,.nils]
def rgX:cU := .gro 482 2 [.int .i32 120,.int .i32 120]
def mm9:List AV:=n6s [-1,-1,-1,-1,-1,-1,-1,-1,-1]
def c8z:List AV:=n6 (-1)::mm9
def thS:List AV:=n6 0::c8z
def thH:List AV:=n6 2::l6 0 [(1,1)]::mm9
inductive Xk where
 | S0|S1|S2|H|H2|D|D2|D3
def Xk.best:Xk→List AV
 | .D | .D2 | .D3 => .bool true::l6 0 [(1,1)]::l6 0 [(2,1)]::n6s [-1,-1,-1,-1,-1,-1,-1,-1]
 | _ => .bool false::c8z
def Xk.thr:Xk→AV×Hp
 | .S0=>(.slk 6 0 1 1,[(6,.row 415 thS)])
 | .S1 | .S2=>(.slc 6 0 1,[(6,.gro 415 11 thS)])
 | .H | .H2=>(.slc 6 0 2,[(6,.gro 415 11 (thH++thS))])
 | _=>(.nils,[])
def Xk.seen:Xk→List Int×AV×Hp
 | .S1=>([0,1,0,0],.slc 9 0 1,[(9,.gro 505 2 [n6 0,.bool true])])
 | .H=>([1,1,0,0],.slc 9 0 2,[(9,.gro 505 2 [n6 2,.bool true,n6 0,.bool true])])
 | .D=>([1,1,0,1],.slc 9 0 0,[(9,.gro 505 2 [n6 0,.bool false,n6 0,.bool false])])
 | .D3=>([0,0,0,1],.slc 9 0 0,[(9,.gro 505 2 [n6 0,.bool false,n6 0,.bool false])])
 | _=>([0,0,0,0],.nils,[])
def vmX (pl:AV) (k:Xk):Hp :=
 [(1,.row 373 [.slc 2 0 4,.slc 4 0 1,pl,.slc 5 0 1,.ptr 7 0]),(2,cdX 3),(3,rgX),(4,.gro 3 1 [n6 0]),(5,.gro 290 12 (k.best++[k.thr.1])),
  (7,.row 456 [.slk 8 0 4 4,k.seen.2.1]),(8,.row 3 (n6s k.seen.1))]++k.thr.2++k.seen.2.2
def kx (c:Int) (l:List (Nat×Int)):eK:=⟨c,l⟩
def xs5:Sb:=[kx 0 [(0,1)],kx 0 [(1,1)],kx 0 [(2,1)],kx 0 [],kx 0 []]
def vX (k:Xk):Hp:=vmX (l6 0 [(0,1)]) k
def fF (k:Xk):Hp:=(1,.row 298 [.ptr 2 0,.ptr 4 0])::shH 3 (vX k)
def rX:List AV:=[.ptr 1 0,.ptr 2 0,.ptr 4 0]
theorem c9a:fG (EB [(0,200),(0,200),(0,200),(-2147483648,119),(1,4)]) 300 287 [.ptr 4 0,.sym .i32 ⟨0,[(3,1)]⟩,.sym .i64 ⟨0,[(4,1)]⟩] (gJ xs5 (fF .S0)) 13 (.tup []) [⟨[0,1,2,3,4,5,6,7,8,39,10,11,35],gJ [kx 0 [(0,1),(4,1)],kx 0 [(1,1)],kx 0 [(2,1)],kx 0 [],kx 0 []] (fF .S1),13,rX,rX⟩]=true:=by kernel_rfl
theorem c9b:fG (EB [(0,200),(0,200),(0,200),(121,2147483647),(1,4)]) 300 287 [.ptr 4 0,.sym .i32 ⟨0,[(3,1)]⟩,.sym .i64 ⟨0,[(4,1)]⟩] (gJ xs5 (fF .S0)) 13 (.tup []) [⟨[0,1,2,3,4,5,6,7,8,39,10,11,35],gJ [kx 0 [(0,1),(4,1)],kx 0 [(1,1)],kx 0 [(2,1)],kx 0 [],kx 0 []] (fF .S1),13,rX,rX⟩]=true:=by kernel_rfl
theorem d5u:fG (EB [(0,200),(0,200),(0,200),(0,0),(1,4)]) 300 287 [.ptr 4 0,.int .i32 120,.sym .i64 ⟨0,[(4,1)]⟩] (gJ xs5 (fF .S0)) 13 (.tup []) [⟨[0,1,2,3,4,5,6,7,8,43,10,11,39],gJ [kx 0 [(0,1),(4,1)],kx 0 [(0,1)],kx 0 [(2,1)],kx 0 [],kx 0 []] (fF .H),13,rX,rX⟩]=true:=by kernel_rfl
theorem c9c:fG (EB [(0,200),(0,200),(0,200),(-2147483648,119),(1,4)]) 300 287 [.ptr 4 0,.sym .i32 ⟨0,[(3,1)]⟩,.sym .i64 ⟨0,[(4,1)]⟩] (gJ xs5 (fF .S1)) 13 (.tup []) [⟨[0,1,2,3,4,5,6,7,8,39,10,11,35],gJ [kx 0 [(0,1),(4,1)],kx 0 [(1,1)],kx 0 [(2,1)],kx 0 [],kx 0 []] (fF .S1),13,rX,rX⟩]=true:=by kernel_rfl
theorem c9d:fG (EB [(0,200),(0,200),(0,200),(121,2147483647),(1,4)]) 300 287 [.ptr 4 0,.sym .i32 ⟨0,[(3,1)]⟩,.sym .i64 ⟨0,[(4,1)]⟩] (gJ xs5 (fF .S1)) 13 (.tup []) [⟨[0,1,2,3,4,5,6,7,8,39,10,11,35],gJ [kx 0 [(0,1),(4,1)],kx 0 [(1,1)],kx 0 [(2,1)],kx 0 [],kx 0 []] (fF .S1),13,rX,rX⟩]=true:=by kernel_rfl
theorem d5v:fG (EB [(0,200),(0,200),(0,200),(0,0),(1,4)]) 300 287 [.ptr 4 0,.int .i32 120,.sym .i64 ⟨0,[(4,1)]⟩] (gJ xs5 (fF .S1)) 13 (.tup []) [⟨[0,1,2,3,4,5,6,7,8,43,10,11,39],gJ [kx 0 [(0,1),(4,1)],kx 0 [(0,1)],kx 0 [(2,1)],kx 0 [],kx 0 []] (fF .H),13,rX,rX⟩]=true:=by kernel_rfl
theorem c9e:fG (EB [(0,200),(0,200),(0,200),(-2147483648,119),(1,4)]) 300 287 [.ptr 4 0,.sym .i32 ⟨0,[(3,1)]⟩,.sym .i64 ⟨0,[(4,1)]⟩] (gJ xs5 (fF .S2)) 13 (.tup []) [⟨[0,1,2,3,4,5,6,7,8,39,10,11,35],gJ [kx 0 [(0,1),(4,1)],kx 0 [(1,1)],kx 0 [(2,1)],kx 0 [],kx 0 []] (fF .S1),13,rX,rX⟩]=true:=by kernel_rfl
theorem c9f:fG (EB [(0,200),(0,200),(0,200),(121,2147483647),(1,4)]) 300 287 [.ptr 4 0,.sym .i32 ⟨0,[(3,1)]⟩,.sym .i64 ⟨0,[(4,1)]⟩] (gJ xs5 (fF .S2)) 13 (.tup []) [⟨[0,1,2,3,4,5,6,7,8,39,10,11,35],gJ [kx 0 [(0,1),(4,1)],kx 0 [(1,1)],kx 0 [(2,1)],kx 0 [],kx 0 []] (fF .S1),13,rX,rX⟩]=true:=by kernel_rfl
theorem d5w:fG (EB [(0,200),(0,200),(0,200),(0,0),(1,4)]) 300 287 [.ptr 4 0,.int .i32 120,.sym .i64 ⟨0,[(4,1)]⟩] (gJ xs5 (fF .S2)) 13 (.tup []) [⟨[0,1,2,3,4,5,6,7,8,43,10,11,39],gJ [kx 0 [(0,1),(4,1)],kx 0 [(0,1)],kx 0 [(2,1)],kx 0 [],kx 0 []] (fF .H),13,rX,rX⟩]=true:=by kernel_rfl
theorem e1h:fG (EB [(0,200),(0,200),(0,200),(-2147483648,2147483647),(1,4)]) 300 287 [.ptr 4 0,.sym .i32 ⟨0,[(3,1)]⟩,.sym .i64 ⟨0,[(4,1)]⟩] (gJ xs5 (fF .H)) 13 (.tup []) [⟨[0,1,2,3,4,5,6,7,8,9,10,11,26],gJ [kx 0 [(0,1),(4,1)],kx 0 [(1,1)],kx 0 [(0,1)],kx 0 [],kx 0 []] (fF .D),13,rX,rX⟩]=true:=by kernel_rfl
theorem d5x:fG (EB [(0,200),(0,200),(0,200),(-2147483648,2147483647),(1,4)]) 300 287 [.ptr 4 0,.sym .i32 ⟨0,[(3,1)]⟩,.sym .i64 ⟨0,[(4,1)]⟩] (gJ xs5 (fF .H2)) 13 (.tup []) [⟨[0,1,2,3,4,5,6,7,8,9,10,11,26],gJ [kx 0 [(0,1),(4,1)],kx 0 [(1,1)],kx 0 [(0,1)],kx 0 [],kx 0 []] (fF .D3),13,rX,rX⟩]=true:=by kernel_rfl
theorem e1i:fG (EB [(0,200),(0,200),(0,200),(-2147483648,2147483647),(1,4)]) 300 287 [.ptr 4 0,.sym .i32 ⟨0,[(3,1)]⟩,.sym .i64 ⟨0,[(4,1)]⟩] (gJ xs5 (fF .D)) 13 (.tup []) [⟨[0,1,2,3,4,5,6,7,8,9,10,11,12],gJ [kx 0 [(0,1),(4,1)],kx 0 [(1,1)],kx 0 [(2,1)],kx 0 [],kx 0 []] (fF .D),13,rX,rX⟩]=true:=by kernel_rfl
theorem d5y:fG (EB [(0,200),(0,200),(0,200),(-2147483648,2147483647),(1,4)]) 300 287 [.ptr 4 0,.sym .i32 ⟨0,[(3,1)]⟩,.sym .i64 ⟨0,[(4,1)]⟩] (gJ xs5 (fF .D2)) 13 (.tup []) [⟨[0,1,2,3,4,5,6,7,8,9,10,11,12],gJ [kx 0 [(0,1),(4,1)],kx 0 [(1,1)],kx 0 [(2,1)],kx 0 [],kx 0 []] (fF .D2),13,rX,rX⟩]=true:=by kernel_rfl
theorem d5z:fG (EB [(0,200),(0,200),(0,200),(-2147483648,2147483647),(1,4)]) 300 287 [.ptr 4 0,.sym .i32 ⟨0,[(3,1)]⟩,.sym .i64 ⟨0,[(4,1)]⟩] (gJ xs5 (fF .D3)) 13 (.tup []) [⟨[0,1,2,3,4,5,6,7,8,9,10,11,12],gJ [kx 0 [(0,1),(4,1)],kx 0 [(1,1)],kx 0 [(2,1)],kx 0 [],kx 0 []] (fF .D3),13,rX,rX⟩]=true:=by kernel_rfl
open Go.RowKit
inductive oW where
 | any
 | at (i:Nat)
 | c (a:AV)
 | num (lo hi:Int)
inductive Arg where
 | s (x:oW)
 | g (l:List oW)
 | sl (e:TypeId) (n:Nat) (l:List oW)
 | pt (e:TypeId) (l:List oW)
inductive Out where
 | s (x:oW)
 | g (l:List oW)
 | t (l:List oW)
 | ta (l r:List oW)
 | row (e sz n:Nat) (l:List oW)
inductive Nw where
 | ptr|opq
 | opl (e:eK)
structure TS where
 f:Nat
 k:Nat
 args:List Arg
 nw:List Nw
 out:Out
 az':List oW
 k':Nat
def news:Nat→List Nw→List AV
 | _,[]=>[]
 | i,.ptr::l => .ptr i 0::news (i+1) l
 | i,.opq::l => .opq i::news (i+1) l
 | i,.opl e::l => .opl i e::news (i+1) l
def e1j (az:List AV):oW→AV
 | .any => .nilp
 | .at i=>(bT az i).getD .nilp
 | .c a=>a
 | .num _ _ => .nilp
def nY (az:List AV):List oW→List AV
 | []=>[]
 | x::l=>e1j az x::nY az l
def clo:AV→Bool
 | .int _ _ | .sym _ _ | .bool _ | .str _ | .nilp | .nils | .fn _ | .ext _=>true
 | _=>false
def mt (bd:Bd) (az:List AV):oW→AV→Bool
 | .any,_=>true
 | .at i,a=>match bT az i with
  | some b=>eqA b a
  | none=>false
 | .c b,a=>clo b&&eqA b a
 | .num lo hi,a=>match a.num with
  | some (.i64,e)=>match e.bnd bd with
   | some p=>decide (lo≤p.1)&&decide (p.2≤hi)
   | none=>false
  | _=>false
def mts (bd:Bd) (az:List AV):List oW→List AV→Bool
 | [],[]=>true
 | x::l,a::m=>mt bd az x a&&mts bd az l m
 | _,_=>false
def d6a (bd:Bd) (az:List AV) (H:Hp):Arg→AV→Bool
 | .s x,a=>mt bd az x a
 | .g l,.agg cs=>mts bd az l cs
 | .sl e n l,.slk i off m c=>Nat.beq off 0&&Nat.beq m n&&Nat.beq c n&&(match cK H i with
  | some (.row e' cs)=>Nat.beq e e'&&mts bd az l cs
  | _=>false)
 | .pt e l,.ptr i off=>Nat.beq off 0&&(match cK H i with
  | some (.row e' cs)=>Nat.beq e e'&&mts bd az l cs
  | _=>false)
 | _,_=>false
def c0q (bd:Bd) (az:List AV) (H:Hp):List Arg→List AV→Bool
 | [],[]=>true
 | x::l,a::m=>d6a bd az H x a&&c0q bd az H l m
 | _,_=>false
def c3z (az:List AV) (nx:Nat):Out→AV
 | .s x=>e1j az x
 | .g l => .agg (nY az l)
 | .t l => .tup (nY az l)
 | .ta l r => .tup (.agg (nY az l)::nY az r)
 | .row _ _ n _ => .slc nx 0 n
def c4a (az:List AV):Out→Option cU
 | .row e sz _ l=>some (.gro e sz (nY az l))
 | _=>none
def TS.he (bd:Bd) (T:TS):HE where
 f:=T.f
 k:=T.k
 ok az args H:=c0q bd az H T.args args
 out az _ nx:=(c3z (az++news nx T.nw) (nx+T.nw.length) T.out,nY (az++news nx T.nw) T.az')
 n:=T.nw.length
 nb az _ nx:=c4a (az++news nx T.nw) T.out
 k':=T.k'
section
variable [fP]
def mv (gs:List Value):oW→Value→Prop
 | .any,_=>True
 | .at i,v=>bT gs i=some v
 | .c a,v=>dn G0 a=some v
 | .num lo hi,v=>∃ n:Int,v = .int .i64 n∧lo≤n∧n≤hi
def mvs (gs:List Value):List oW→List Value→Prop
 | [],[]=>True
 | x::l,v::m=>mv gs x v∧mvs gs l m
 | _,_=>False
def mo (gs:List Value):oW→Value→Prop
 | .any,v=>v = .pointer none
 | .at i,v=>bT gs i=some v
 | .c a,v=>dn G0 a=some v
 | .num _ _,v=>v = .pointer none
def mos (gs:List Value):List oW→List Value→Prop
 | [],[]=>True
 | x::l,v::m=>mo gs x v∧mos gs l m
 | _,_=>False
def a7k (w:World) (F:Nat→Prop) (g:Nat) (e:TypeId) (us:List Value):Prop:=w.heap[g]?=some (.cells us.toArray e (0,0))∧¬ F g∧fP.b≤g∧g < w.heap.size
def a0f (gs:List Value) (w:World) (F:Nat→Prop):Arg→Value→Prop
 | .s x,v=>mv gs x v
 | .g l,v=>∃ us:List Value,v = .agg us.toArray∧mvs gs l us
 | .sl e n l,v=>∃ g us,v = .slice (some ⟨g,0,none⟩) n n∧mvs gs l us∧a7k w F g e us
 | .pt e l,v=>∃ g us,v = .pointer (some ⟨g,0,none⟩)∧mvs gs l us∧a7k w F g e us
def zP (gs:List Value) (w:World) (F:Nat→Prop):List Arg→List Value→Prop
 | [],[]=>True
 | x::l,v::m=>a0f gs w F x v∧zP gs w F l m
 | _,_=>False
def e5v:Nw→Value→Prop
 | .ptr,v=>∃ g,v = .pointer (some ⟨g,0,none⟩)
 | .opq,v=>v.oneCell'=true
 | .opl e,v=>∃ a m c,v = .slice a m c∧(m:Int)=e.val
def a5m:List Nw→List Value→Prop
 | [],[]=>True
 | x::l,v::m=>e5v x v∧a5m l m
 | _,_=>False
def a7l (gs:List Value) (Fo:Nat→Prop) (w w':World) (F':Nat→Prop):Out→Value→Prop
 | .s x,u=>mo gs x u
 | .g l,u=>∃ us:List Value,u = .agg us.toArray∧mos gs l us
 | .t l,u=>∃ us:List Value,u = .tuple us.toArray∧mos gs l us
 | .ta l r,u=>∃ us vs:List Value,u = .tuple (.agg us.toArray::vs).toArray∧mos gs l us∧mos gs r vs
 | .row e sz n l,u=>∃ g us ys cap,u = .slice (some ⟨g,0,none⟩) n cap∧(Fo g∨w.heap.size≤g)∧g < w'.heap.size∧¬ F' g∧mos gs l us∧w'.heap[g]?=some (.cells (us++ys).toArray e (0,0))∧us.length+ys.length=cap*sz∧cap≤maxLen∧0 < sz
def TS.Ok (P:Program) {b:Nat} (ν:Nat→Int) (st:Nat→List Value→List (cR b)) (T:TS):Prop:=∀ {w:World} {gs us:List Value} {fs:Nat→Nat→Prop} {F:Nat→Prop},
 @zP (cA b ν st) gs w F T.args us→dN (st T.k gs) w fs→(∀ x,F x↔∃ i,fs i x)→b≤w.heap.size →
 Calls P T.f us.toArray w fun e w'=>∃ u vs gs' F',e = .returned u∧@a5m (cA b ν st) T.nw vs∧@a7l (cA b ν st) (gs++vs) F w w' F' T.out u∧@mos (cA b ν st) (gs++vs) T.az' gs'∧cW (st T.k' gs') w' F'∧cJ F w w'∧∀ x,F' x→F x∨w.heap.size≤x
theorem e1k {a:AV} (h:clo a=true) (G:GM):dn G a=dn G0 a:=by
 cases a<;>first|rfl|cases h
theorem c0r {bd:Bd} (hbd:BD bd) {G:GM} {az:List AV} {gs:List Value} (hg:dG G az=some gs) {x:oW} {a:AV} (h:mt bd az x a=true) {v:Value} (hv:d2 G a=some v):mv gs x v:=by
 rcases x with _|i|b|⟨j,l⟩
 ·trivial
 ·simp only[mt] at h;split at h
  ·rename_i b f;obtain⟨u,c,d⟩:=vV hg f;rw[← xT h,oY d] at hv;cases hv;show bT gs i=_;rw[lX];exact c
  ·cases h
 ·simp only[mt,aD] at h;have:=xT h.2;subst this;show dn G0 b=some v;rw[← e1k h.1 G,← hv,a0l (fun cs q=>by rw[q] at h;cases h.1)]
 ·simp only[mt] at h;split at h
  ·rename_i e he;split at h
   ·rename_i p g;rw[aD] at h;have c:=bI h.1;have d:=bI h.2;have f:=eK.bnd_ok hbd g;exact⟨e.val,jG he (a1j hv),by omega,by omega⟩
   ·cases h
  ·cases h
theorem a7m {bd:Bd} (hbd:BD bd) {G:GM} {az:List AV} {gs:List Value} (hg:dG G az=some gs):∀ {l:List oW} {m:List AV} {us:List Value},mts bd az l m=true→dG G m=some us→mvs gs l us
 | [],[],us,_,h=>by cases h;trivial
 | [],_::_,us,h,_=>by cases h
 | _::_,[],us,h,_=>by cases h
 | x::l,a::m,us,h,hu=>by
  simp only[mts,aD] at h;obtain⟨u,r,h1,h2,rfl⟩:=bS.1 hu;exact⟨c0r hbd hg h.1 (oY h1),a7m hbd hg h.2 h2⟩
theorem d6b {bd:Bd} (hbd:BD bd) {G:GM} {az:List AV} {gs:List Value} {H:Hp} {w:World} {O F:Nat→Prop} {nx:Nat} (hg:dG G az=some gs) (hS:gP w G O H nx) (hF:∀ i b x,cK H i=some b→b.live→G i=some x→¬ F x.g) {x:Arg} {a:AV} (h:d6a bd az H x a=true) {v:Value} (hv:dv G a=some v):a0f gs w F x v:=by
 have row:∀ {i e cs},cK H i=some (.row e cs)→∃ y f,G i=some y∧dG G cs=some f∧a7k w F y.g e f:=fun {i e cs} o=>by
  obtain⟨y,j,r,t,f,d,E⟩:=hS.bs i _ o trivial;exact⟨y,f,j,d,E,hF i _ y o trivial j,hS.ob _ r,t⟩
 cases x with
 | s x =>
  have h:mt bd az x a=true:=h;rcases x with _|i|b|⟨K,o⟩
  ·trivial
  ·have D:=h;simp only[mt] at h;split at h
   ·rename_i b J;refine c0r hbd hg D ?_;rw[← hv,pO (fun cs q=>by rw[q] at h;unfold eqA at h;split at h<;>first|(cases h;done)|simp_all)]
   ·cases h
  ·refine c0r hbd hg h ?_;simp only[mt,aD] at h;rw[← hv,pO (fun cs q=>by have:=xT h.2;rw[this,q] at h;cases h.1)]
  ·refine c0r hbd hg h ?_;rw[← hv,pO (fun cs q=>by rw[q] at h;cases h)]
 | g l =>
  cases a<;>first|(cases h;done)|skip
  rename_i cs;obtain⟨f,j,rfl⟩:=aB.1 (show (dG G cs).map _=_ from hv);exact⟨f,rfl,a7m hbd hg h j⟩
 | sl e n l =>
  cases a<;>first|(cases h;done)|skip
  rename_i i u m c;simp only[d6a,aD] at h;obtain⟨⟨⟨j,r⟩,t⟩,d⟩:=h;have:=aC j;subst this;have:=aC r;subst this;have:=aC t;subst this;split at d
  ·rename_i I cs o;rw[aD] at d;have:=aC d.1;subst this;obtain⟨y,f,A,B,C⟩:=row o;obtain⟨z,p,rfl⟩:=aB.1 (show (G i).map _=_ from hv);rw[A] at p;cases p;exact⟨y.g,f,rfl,a7m hbd hg d.2 B,C⟩
  ·cases d
 | pt e l =>
  cases a<;>first|(cases h;done)|skip
  rename_i i u;simp only[d6a,aD] at h;obtain⟨j,d⟩:=h;have:=aC j;subst this;split at d
  ·rename_i I cs o;rw[aD] at d;have:=aC d.1;subst this;obtain⟨y,f,A,B,C⟩:=row o;obtain⟨z,p,rfl⟩:=aB.1 (show (G i).map _=_ from hv);rw[A] at p;cases p;exact⟨y.g,f,rfl,a7m hbd hg d.2 B,C⟩
  ·cases d
theorem b1i {bd:Bd} (hbd:BD bd) {G:GM} {az:List AV} {gs:List Value} {H:Hp} {w:World} {O F:Nat→Prop} {nx:Nat} (hg:dG G az=some gs) (hS:gP w G O H nx) (hF:∀ i b x,cK H i=some b→b.live→G i=some x→¬ F x.g):∀ {l:List Arg} {m:List AV} {us:List Value},c0q bd az H l m=true→uS G m us→zP gs w F l us
 | [],[],[],_,_=>trivial
 | [],[],_::_,_,h=>h.elim
 | [],_::_,us,h,_=>by cases h
 | _::_,[],us,h,_=>by cases h
 | _::_,_::_,[],_,h=>h.elim
 | x::l,a::m,u::us,h,hu=>by
  simp only[c0q,aD] at h;exact⟨d6b hbd hg hS hF h.1 hu.1,b1i hbd hg hS hF h.2 hu.2⟩
def d6c:Nw→Value→GI
 | .ptr,.pointer (some a)=>⟨a.block,0,0,0,undef⟩
 | .ptr,v=>⟨0,0,0,0,v⟩
 | .opq,v=>⟨0,0,0,0,v⟩
 | .opl _,v=>⟨0,0,0,0,v⟩
def kF:List Nw→List Value→List GI
 | x::l,v::m=>d6c x v::kF l m
 | _,_=>[]
theorem a5n:∀ {l:List Nw} {vs:List Value},a5m l vs→(kF l vs).length=l.length
 | [],[],_=>rfl
 | [],_::_,h=>h.elim
 | _::_,[],h=>h.elim
 | x::l,v::m,h=>by simp[kF,a5n h.2]
theorem e5w {G:GM} {i:Nat} {x:Nw} {v:Value} (h:e5v x v) (hG:G i=some (d6c x v)) (l:List Nw) (r:List AV) (hr:news i (x::l)=r):∃ a,r=a::news (i+1) l∧dn G a=some v:=by
 subst hr;cases x with
 | ptr =>
  obtain⟨g,rfl⟩:=h;exact⟨_,rfl,by show (G i).map _=_;rw[hG];rfl⟩
 | opq=>exact⟨_,rfl,by show (G i).bind _=_;rw[hG];simp[d6c,GI.ov,show v.oneCell'=true from h]⟩
 | opl e =>
  obtain⟨a,m,c,rfl,b⟩:=h;exact⟨_,rfl,by show (G i).bind _=_;rw[hG];simp[d6c,GI.os,b]⟩
theorem b1j {G:GM}:∀ {l:List Nw} {vs:List Value} {i:Nat},a5m l vs→(∀ j x,bT (kF l vs) j=some x→G (i+j)=some x)→dG G (news i l)=some vs
 | [],[],i,_,_=>rfl
 | [],_::_,i,h,_=>h.elim
 | _::_,[],i,h,_=>h.elim
 | x::l,v::m,i,h,hG=>by
  obtain⟨a,h1,h2⟩:=e5w (G:=G) (i:=i) h.1 (hG 0 _ rfl) l _ rfl;rw[h1];exact bS.2 ⟨v,m,h2,b1j h.2 (fun j y b=>by have:=hG (j+1) y b;rwa[show i+1+j=i+(j+1) by omega]),rfl⟩
theorem d9r {G:GM} {az:List AV} {gs:List Value} (hg:dG G az=some gs) {x:oW} {v:Value} (h:mo gs x v):dn G (e1j az x)=some v:=by
 rcases x with _|i|a|⟨j,b⟩
 ·cases h;rfl
 ·have h:bT gs i=some v:=h;rw[lX] at h;have g:=dM hg;show dn G ((bT az i).getD .nilp)=_;have b:i < az.length:=by
   have:=(aU.1 h).1;omega
  have c:bT az i=some az[i]:=by rw[lX];exact aO b
  obtain⟨u,d,f⟩:=vV hg c;rw[c];rw[d] at h;cases h;exact f
 ·exact vR (a4u G) h
 ·cases h;rfl
theorem kG {G:GM} {az:List AV} {gs:List Value} (hg:dG G az=some gs):∀ {l:List oW} {us:List Value},mos gs l us→dG G (nY az l)=some us
 | [],[],_=>rfl
 | [],_::_,h=>h.elim
 | _::_,[],h=>h.elim
 | x::l,v::m,h=>bS.2 ⟨v,m,d9r hg h.1,kG hg h.2,rfl⟩
theorem vA {G:GM}:∀ {l:List AV} {us:List Value},dG G l=some us→uQ G l=some us
 | [],us,h=>h
 | a::l,us,h=>by
  obtain⟨u,r,h1,h2,rfl⟩:=bS.1 h;simp only[uQ,oY h1,vA h2];rfl
end
section
variable {b : Nat} {ν : Nat → Int} {st : Nat → List Value → List (cR b)}
theorem TS.Ok.he {P:Program} {T:TS} {bd:Bd} (hbd:@BD (cA b ν st) bd) (hT:T.Ok P ν st):@e1e (cA b ν st) P (T.he bd):=by
 letI:fP:=cA b ν st
 intro Q R H y w G O F us S X U Y K L Z hF;obtain⟨fs,k1,k2⟩:=L;refine(hT (b1i hbd U K hF X Y) k1 k2 K.bw).mono ?_;rintro e w' ⟨u,f,m,C,rfl,V,i,D,p,E,I⟩;have d:=a5n V;have B:∀ (v:List GI),(∀ j x,bT (kF T.nw f) j=some x→bT (kF T.nw f++v) j=some x):=fun v j x h=>by
  rw[mL,if_pos (a0s h)];exact h
 have J:∀ v,lK G (binds G y (kF T.nw f++v)):=fun v=>b1c K _
 have c:∀ v,dG (binds G y (kF T.nw f++v)) (Q++news y T.nw)=some (S++f):=fun v =>
  eL.2 ⟨S,f,cT (J v) U,b1j V (fun j x hj=>by
   unfold binds;rw[if_neg (by omega),Nat.add_sub_cancel_left];exact B v j x hj),rfl⟩
 cases a:T.out with
 | row e sz n l =>
  rw[a] at i;obtain⟨g,o,M,z,rfl,g1,g2,g3,g4,g5,g6,g7,g8⟩:=i;refine⟨_,C,kF T.nw f++[⟨g,z,sz,0,undef⟩],m,?_,rfl,?_,?_,p,E,I,fun x A=>(p.lt x A).2⟩
  ·show b1b _ _ _ _ _ _ _ (c4a _ T.out);rw[a];refine⟨by simp[d,TS.he],trivial,⟨g,z,sz,0,undef⟩,?_,g1,g2,g3,⟨rfl,rfl⟩,g8,o,M,kG (c _) g4,g5,g6,g7⟩;rw[mL,if_neg (by show ¬ T.nw.length < _;omega)];show bT _ (T.nw.length-_)=_;rw[d,Nat.sub_self];rfl
  ·show dv _ (c3z _ _ T.out)=_;rw[a];show (binds G y _ (y+T.nw.length)).map _=_;have:binds G y (kF T.nw f++[⟨g,z,sz,0,undef⟩]) (y+T.nw.length)=some ⟨g,z,sz,0,undef⟩:=by
    unfold binds;rw[if_neg (by omega),Nat.add_sub_cancel_left,mL,if_neg (by omega),d,Nat.sub_self];rfl
   rw[this];simp
  ·exact kG (c _) D
 | s x =>
  rw[a] at i;refine⟨u,C,kF T.nw f++[],m,?_,rfl,?_,kG (c _) D,p,E,I,fun x A=>(p.lt x A).2⟩
  ·show b1b _ _ _ _ _ _ _ (c4a _ T.out);rw[a];show (kF T.nw f++[]).length=T.nw.length;simp[d]
  ·show dv _ (c3z _ _ T.out)=_;rw[a];exact cZ (d9r (c _) i)
 | g l =>
  rw[a] at i;obtain⟨o,rfl,i⟩:=i;refine⟨_,C,kF T.nw f++[],m,?_,rfl,?_,kG (c _) D,p,E,I,fun x A=>(p.lt x A).2⟩
  ·show b1b _ _ _ _ _ _ _ (c4a _ T.out);rw[a];show (kF T.nw f++[]).length=T.nw.length;simp[d]
  ·show dv _ (c3z _ _ T.out)=_;rw[a];show (dG _ (nY _ l)).map _=_;rw[kG (c _) i];rfl
 | ta l r =>
  rw[a] at i;obtain⟨o,a0,rfl,i,N⟩:=i;refine⟨_,C,kF T.nw f++[],m,?_,rfl,?_,kG (c _) D,p,E,I,fun x A=>(p.lt x A).2⟩
  ·show b1b _ _ _ _ _ _ _ (c4a _ T.out);rw[a];show (kF T.nw f++[]).length=T.nw.length;simp[d]
  ·show dv _ (c3z _ _ T.out)=_;rw[a];show (uQ _ (.agg (nY _ l)::nY _ r)).map _=_;have W:d2 (binds G y (kF T.nw f++[])) (.agg (nY (Q++news y T.nw) l))=some (.agg o.toArray):=by
    show (dG _ (nY _ l)).map _=_;rw[kG (c _) i];rfl
   simp only[uQ,W,vA (kG (c _) N)];rfl
 | t l =>
  rw[a] at i;obtain⟨o,rfl,i⟩:=i;refine⟨_,C,kF T.nw f++[],m,?_,rfl,?_,kG (c _) D,p,E,I,fun x A=>(p.lt x A).2⟩
  ·show b1b _ _ _ _ _ _ _ (c4a _ T.out);rw[a];show (kF T.nw f++[]).length=T.nw.length;simp[d]
  ·show dv _ (c3z _ _ T.out)=_;rw[a];show (uQ _ (nY _ l)).map _=_;rw[vA (kG (c _) i)];rfl
end
section
variable {b : Nat} {ν : Nat → Int} {st : Nat → List Value → List (cR b)}
theorem c0s:∀ l,@gX (cA b ν st) l=@gX (bQ b ν) l
 | []=>rfl
 | (i,a)::l=>by
  show a*ν i+@gX (cA b ν st) l=a*ν i+@gX (bQ b ν) l;rw[c0s l]
theorem c9g (e:eK):@eK.val (cA b ν st) e=@eK.val (bQ b ν) e:=by
 simp only[eK.val,c0s]
theorem c9h (G:GM) (a:AV):@dn (cA b ν st) G a=@dn (bQ b ν) G a:=by
 cases a
 case sym k e=>show some (Value.int k _)=some (Value.int k _);rw[c9g]
 case opl i e=>show Option.bind (G i) _=Option.bind (G i) _;rw[c9g]
 all_goals rfl
theorem yA (G:GM):∀ l,@dG (cA b ν st) G l=@dG (bQ b ν) G l
 | []=>rfl
 | a::l=>by simp only[dG,c9h,yA G l]
theorem d9s (G:GM) (a:AV):@d2 (cA b ν st) G a=@d2 (bQ b ν) G a:=by
 cases a<;>simp only[d2,yA,c9h]
theorem c9i (G:GM):∀ l,@uQ (cA b ν st) G l=@uQ (bQ b ν) G l
 | []=>rfl
 | a::l=>by simp only[uQ,d9s,c9i G l]
theorem c9j (G:GM) (a:AV):@dv (cA b ν st) G a=@dv (bQ b ν) G a:=by
 cases a<;>simp only[dv,c9i,d9s]
theorem b5t (G:GM):∀ (l:List AV) (us:List Value),@uS (bQ b ν) G l us→@uS (cA b ν st) G l us
 | [],[],_=>trivial
 | [],_::_,h=>h.elim
 | _::_,[],h=>h.elim
 | a::l,u::us,h=>⟨by rw[c9j];exact h.1,b5t G l us h.2⟩
theorem a5o (G:GM):∀ l,@gL (cA b ν st) G l=@gL (bQ b ν) G l
 | []=>rfl
 | (k,a)::l=>by simp only[gL,c9h,a5o G l]
theorem d9t {w:World} {G:GM} {x:GI} {c:cU}:@BS (cA b ν st) w G x c↔@BS (bQ b ν) w G x c:=by
 cases c<;>simp only[BS,yA,a5o]
theorem cW.split {l m:List (cR b)} {w:World} {F:Nat→Prop} (h:cW (l++m) w F):∃ F1 F2,cW l w F1∧cW m w F2∧(∀ x,F1 x→¬ F2 x)∧∀ x,F x↔F1 x∨F2 x:=by
 letI:fP:=bQ b fun _=>0
 obtain⟨o,f,r⟩:=h;refine⟨fun x=>∃ i,i < l.length∧o i x,fun x=>∃ i,o (l.length+i) x,⟨fun i=>if i < l.length then o i else fun _=>False,⟨fun i A a=>?_,fun i j x a g=>?_,fun i a x c=>?_⟩,fun x=>?_⟩,⟨fun i=>o (l.length+i),⟨fun i A a=>?_,fun i j x a g=>?_,fun i a x c=>?_⟩,fun x=>Iff.rfl⟩,fun x c p=>?_,fun x=>?_⟩
 ·have d:=a0s a
  try dsimp only
  rw[if_pos d];exact f.at_ i A (by rw[mL,if_pos d];exact a)
 ·try dsimp only at a g
  split at a
  ·split at g
   ·exact f.ap i j x a g
   ·exact g.elim
  ·exact a.elim
 ·try dsimp only at c
  split at c
  ·rename_i d;rw[lX,aO d] at a;cases a
  ·exact c
 ·constructor
  ·rintro⟨i,a,c⟩;exact⟨i,by show (if i < l.length then o i else fun _=>False) x;rw[if_pos a];exact c⟩
  ·rintro⟨i,c⟩
   try dsimp only at c
   split at c
   ·rename_i a;exact⟨i,a,c⟩
   ·exact c.elim
 ·exact f.at_ _ A (by rw[mL,if_neg (by omega),Nat.add_sub_cancel_left];exact a)
 ·have:=f.ap _ _ x a g;omega
 ·exact f.no _ (by rw[mL,if_neg (by omega),Nat.add_sub_cancel_left];exact a) x c
 ·obtain⟨i,a,c⟩:=c;obtain⟨j,p⟩:=p;have:=f.ap _ _ x c p;omega
 ·rw[r];constructor
  ·rintro⟨i,a⟩;by_cases d:i < l.length
   ·exact .inl ⟨i,d,a⟩
   ·exact .inr ⟨i-l.length,by rw[show l.length+(i-l.length)=i by omega];exact a⟩
  ·rintro(⟨i,_,a⟩|⟨i,a⟩)
   ·exact⟨_,a⟩
   ·exact⟨_,a⟩
theorem cW.join {l m:List (cR b)} {w:World} {F1 F2 F:Nat→Prop} (h1:cW l w F1) (h2:cW m w F2) (hd:∀ x,F1 x→¬ F2 x) (hF:∀ x,F x↔F1 x∨F2 x):cW (l++m) w F:=by
 letI:fP:=bQ b fun _=>0
 obtain⟨f,g,h⟩:=h1;obtain⟨p,r,o⟩:=h2;have s:∀ i x,f i x→i < l.length:=fun i x c=>by
  rcases Nat.lt_or_ge i l.length with q|q
  ·exact q
  ·exact absurd c (g.no i (by rw[lX];exact List.getElem?_eq_none q) x)
 refine⟨fun i=>if i < l.length then f i else p (i-l.length),⟨fun i A a=>?_,fun i j x a d=>?_,fun i a x c=>?_⟩,fun x=>?_⟩
 ·rw[mL] at a
  try dsimp only
  split at a
  ·rename_i q;rw[if_pos q];exact g.at_ i A a
  ·rename_i q;rw[if_neg q];exact r.at_ _ A a
 ·try dsimp only at a d
  split at a<;>split at d
  ·exact g.ap i j x a d
  ·exact absurd ((o x).2 ⟨_,d⟩) (hd x ((h x).2 ⟨_,a⟩))
  ·exact absurd ((o x).2 ⟨_,a⟩) (hd x ((h x).2 ⟨_,d⟩))
  ·have:=r.ap _ _ x a d;omega
 ·rw[mL] at a
  try dsimp only at c
  split at a
  ·rename_i q;rw[if_pos q] at c;exact g.no i a x c
  ·rename_i q;rw[if_neg q] at c;exact r.no _ a x c
 ·rw[hF];constructor
  ·rintro(q|q)
   ·obtain⟨i,a⟩:=(h x).1 q;exact⟨i,by show (if i < l.length then f i else p (i-l.length)) x;rw[if_pos (s i x a)];exact a⟩
   ·obtain⟨i,a⟩:=(o x).1 q;exact⟨l.length+i,by show (if l.length+i < l.length then f (l.length+i) else p (l.length+i-l.length)) x;rw[if_neg (by omega),Nat.add_sub_cancel_left];exact a⟩
  ·rintro⟨i,c⟩
   try dsimp only at c
   split at c
   ·exact .inl ((h x).2 ⟨_,c⟩)
   ·exact .inr ((o x).2 ⟨_,c⟩)
theorem cW.one {A:cR b} {w:World} {F:Nat→Prop}:cW [A] w F↔A.P w F:=by
 constructor
 ·rintro⟨l,f,m⟩;have g:=f.at_ 0 A rfl;have:F=l 0:=by
   funext x;apply propext;rw[m];constructor
   ·rintro⟨i,a⟩;cases i with
    | zero=>exact a
    | succ i=>exact absurd a (f.no (i+1) (by cases i<;>rfl) x)
   ·exact fun c=>⟨0,c⟩
  rw[this];exact g
 ·intro h;refine⟨fun i=>if i=0 then F else fun _=>False,⟨fun i B a=>?_,fun i j x a d=>?_,fun i a x c=>?_⟩,fun x=>?_⟩
  ·cases i with
   | zero=>cases a;exact h
   | succ i=>cases i<;>cases a
  ·try dsimp only at a d
   split at a<;>split at d<;>first|omega|exact a.elim|exact d.elim
  ·try dsimp only at c
   split at c
   ·rename_i e;rw[e] at a;cases a
   ·exact c
  ·constructor
   ·exact fun c=>⟨0,c⟩
   ·rintro⟨i,c⟩
    try dsimp only at c
    split at c
    ·exact c
    ·exact c.elim
theorem a2d {w:World} {F:Nat→Prop} {H:Hp} {n k:Nat} {az rt:List AV} {gs vals:List Value} (hn:0 < n) (hb:b≤w.heap.size) (h0:cK H 0=none)
  (h:cW (st k gs++[cY b ν H n rt vals]) w F) (hg:∀ G:GM,@dG (bQ b ν) G rt=some vals→@dG (bQ b ν) G az=some gs) :
  ∃ G,@gP (cA b ν st) w G F ((0,.gho k az)::H) n∧@dG (bQ b ν) G rt=some vals:=by
 letI:fP:=bQ b ν
 obtain⟨C,N,u,D,E,r⟩:=h.split;obtain⟨G,s,I,v,J⟩:=cW.one.1 D;have a:∀ i c,cK ((0,cU.gho k az)::H) i=some c→c.live→cK H i=some c:=fun i c g l=>by
  rw[cH] at g;split at g
  ·cases g;exact l.elim
  ·exact g
 have o:∀ x,F x→b≤x∧x < w.heap.size:=fun x f=>by
  rcases (r x).1 f with q|q
  ·exact u.lt x q
  ·exact J x q
 refine⟨G,@gP.mk (cA b ν st) _ _ _ _ _ (@Sat0.mk (cA b ν st) _ _ _ _ (fun i c g l=>?_) (fun i j c d x y g B K hd f L he=>s.inj i j c d x y (a i c g B) B (a j d K hd) hd f L he)) I (fun x f=>(o x f).2) (fun O M m=>?_) (fun x f=>(o x f).1) hb,v⟩
 ·obtain⟨x,p,t,z,A⟩:=s.bs i c (a i c g l) l;exact⟨x,p,(r _).2 (.inr t),z,d9t.2 A⟩
 ·rw[cH,if_pos rfl] at m;cases m;refine⟨gs,C,by rw[yA];exact hg G v,u,fun x f=>⟨(r x).2 (.inl f),fun q=>q⟩,fun i c x g l f o=>?_⟩;obtain⟨y,p,t,z,A⟩:=s.bs i c (a i c g l) l;rw[f] at p;cases p;exact E _ o t
end
end Go.Eng
namespace Go.Eng
def i6 (n:Int):AV := .int .i64 n
def lin (c:Int) (l:List (Nat×Int)):AV := .sym .i64 ⟨c,l⟩
open Go.RowKit
section
variable {b : Nat} {ν ν' : Nat → Int} {σ : Sb}
theorem iY (h:tX σ ν ν') {H:Hp} {n:Nat} {rt:List AV} {vals:List Value} (hp:rI H=true) (hr:rt.all uZ=true) {w:World} {F:Nat→Prop} (hA:(cY b ν' H n rt vals).P w F):(cY b ν (gJ σ H) n (b1h σ rt) vals).P w F:=by
 letI:fP:=bQ b ν
 obtain⟨G,o,p,r,s⟩:=hA;have a:∀ i c,cK (gJ σ H) i=some c→∃ d,cK H i=some d∧c=sbB σ d:=fun i c l=>by
  rw[wE] at l;obtain⟨d,f,g⟩:=aB.1 l;exact⟨d,f,g.symm⟩
 refine⟨G,@Sat0.mk (bQ b ν) _ _ _ _ (fun i c m I=>?_) (fun i j c d x y m l C hd D E he=>?_),p,by rw[a0u h G hr];exact r,s⟩
 ·obtain⟨d,f,rfl⟩:=a i c m;obtain⟨x,t,u,v,z⟩:=@Sat0.bs (bQ b ν') _ _ _ _ o i d f (pD (σ:=σ) (hJ hp f)).2;exact⟨x,t,u,v,(c8y h (hJ hp f)).2 z⟩
 ·obtain⟨A,f,rfl⟩:=a i c m;obtain⟨B,g,rfl⟩:=a j d C;exact @Sat0.inj (bQ b ν') _ _ _ _ o i j A B x y f (pD (σ:=σ) (hJ hp f)).2 g (pD (σ:=σ) (hJ hp g)).2 D E he
theorem b5u {p:mM} {l:List mM} (h:lD (jR (p::l))=true):lD (jR l)=true∧∀ q∈l,∀ x∈uF p.ρ p.B,x∉uF q.ρ q.B:=by
 obtain⟨c,d⟩:=uY h;refine⟨c,fun q b x f g=>d x f ?_⟩;clear h c d f
 induction l with
 | nil=>cases b
 | cons a l ih =>
  rcases aG.1 b with rfl|b
  ·exact List.mem_append_left _ g
  ·exact List.mem_append_right _ (ih b)
theorem a0v {P:Program} {E:iU} (hE:@sL (bQ b ν) P E) {fuel:Nat} {f:FuncId} {args:List AV} {H:Hp} {n:Nat} {v:AV} {p:mM} (h:fG E fuel f args H n v [p]=true)
  {w:World} {F:Nat→Prop} {rt:List AV} {us vals:List Value} (hA:(cY b ν H n rt vals).P w F) (hg:rH H=true) (hb:b≤w.heap.size) (hu:∀ G:GM,@dG (bQ b ν) G rt=some vals→@uS (bQ b ν) G args us) :
  Calls P f us.toArray w fun e w'=>∃ u G G0,e = .returned u∧@dv (bQ b ν) G v=some u∧lK G0 G∧@dG (bQ b ν) G0 rt=some vals∧(∀ vp,@dG (bQ b ν) G p.rg=some vp→∃ F',(cY b ν p.B p.n p.rt vp).P w' F'∧∀ x,F' x→F x∨w.heap.size≤x)∧cJ F w w':=by
 letI:fP:=bQ b ν
 obtain⟨G0,c,a⟩:=wC hA hg hb;refine(a2c hE h (hu G0 a) c).mono ?_;rintro e w' ⟨u,G,O,z,d,rfl,g,i,j,l,A,m,o⟩;refine⟨u,G,G0,rfl,g,i,a,fun vp t=>?_,m⟩;obtain⟨r,s⟩:=xZ j (l p (by simp)) t;exact⟨_,r,fun x y=>o x (s x y)⟩
end
end Go.Eng
namespace Go.Proofs.YthgnlfikneipiaaGreat
open Go.RowKit
def mN (n:Nat):List UInt8:=[UInt8.ofNat (n / 16777216),UInt8.ofNat (n / 65536),UInt8.ofNat (n / 256),UInt8.ofNat n]
theorem c9k (n:Nat):(mN n).length=4:=rfl
end Go.Proofs.YthgnlfikneipiaaGreat
namespace Go.Proofs.YthgnlfikneipiaaGreat
def nb (n:Nat):Nat:=if h:n=0 then 0 else nb (n / 256)+1
decreasing_by omega
theorem a7n:nb 0=0:=by unfold nb;simp
theorem c9l (n:Nat) (h:n≠0):nb n=nb (n / 256)+1:=by rw[nb];simp[h]
theorem c0t:∀ (k n:Nat),k < nb n↔0 < n / 256 ^ k
 | 0,n=>by
  by_cases h:n=0
  ·subst h;simp[a7n]
  ·rw[c9l n h];simp;omega
 | k+1,n=>by
  have e:n / 256 ^ (k+1)=n / 256 / 256 ^ k:=by rw[Nat.pow_succ',Nat.div_div_eq_div_mul]
  by_cases h:n=0
  ·subst h;simp[a7n]
  ·rw[c9l n h,e,← c0t k (n / 256)];omega
theorem lZ (n:Nat) (h:n < 18446744073709551616):nb n≤8:=by
 rcases Nat.lt_or_ge 8 (nb n) with q|q
 ·have:=(c0t 8 n).1 q;have e:(256:Nat) ^ 8=18446744073709551616:=by decide
  rw[e] at this;have:=Nat.div_eq_of_lt h;omega
 ·exact q
def beB:Nat→Nat→List UInt8
 | 0,_=>[]
 | k+1,n=>UInt8.ofNat (n / 256 ^ k)::beB k n
theorem c0u:∀ k n,(beB k n).length=k
 | 0,_=>rfl
 | k+1,n=>by simp[beB,c0u k n]
def dF (n:Nat):List UInt8:=UInt8.ofNat (nb n)::beB (nb n) n
theorem fN (n:Nat):(dF n).length=1+nb n:=by simp[dF,c0u];omega
abbrev RSt:=Nat×Nat
open Go.RowKit
def mA (n lo hi:Int):Int:=lo+n % (hi-lo+1)
theorem a5p (n lo hi:Int) (h:lo≤hi):lo≤mA n lo hi∧mA n lo hi≤hi:=by
 unfold mA;have a:=Int.emod_nonneg n (show hi-lo+1≠0 by omega);have b:=Int.emod_lt_of_pos n (show 0 < hi-lo+1 by omega);omega
theorem b5v (n d:Int) (hd:0 < d) (h:n.tmod d < 0):n.tmod d+d=n % d:=by
 have c:=Int.tmod_eq_emod (a:=n) (b:=d);have f:=Int.emod_nonneg n (show d≠0 by omega);split at c<;>omega
theorem b5w (n d:Int) (hd:0 < d) (h:0≤n.tmod d):n.tmod d=n % d:=by
 have c:=Int.tmod_eq_emod (a:=n) (b:=d);have f:=Int.emod_lt_of_pos n (show 0 < d by omega);split at c
 ·omega
 ·have:(d.natAbs:Int)=d:=by omega
  omega
theorem d6d (n d:Int) (hd:0 < d):n.tmod d≤d-1 ∧ -(d-1)≤n.tmod d:=by
 have c:=Int.tmod_eq_emod (a:=n) (b:=d);have h:=Int.emod_lt_of_pos n (show 0 < d by omega);have i:=Int.emod_nonneg n (show d≠0 by omega);have j:(d.natAbs:Int)=d:=by omega
 split at c
 ·omega
 ·rename_i g;have f:¬ d ∣ n:=fun q=>g (.inr q)
  have l:n % d≠0:=fun q=>f (Int.dvd_of_emod_eq_zero q)
  omega
theorem gE (x:UInt8):(bv x).oneCell'=true:=rfl
theorem a2e (n lo hi:Int) (w:World) (hn : -9223372036854775808≤n∧n≤9223372036854775807) (h:lo≤hi) (hl:0≤lo) (hh:hi≤4611686018427387904) :
  Calls Tryz.prog 7 #[.int .i64 n,.int .i64 lo,.int .i64 hi] w fun e w'=>e = .returned (.int .i64 (mA n lo hi))∧w=w':=by
 have a:0 < hi-lo+1:=by omega
 obtain⟨g,i⟩:=d6d n (hi-lo+1) a;have f:((hi-lo+1)==0)=false:=by rw[bJ];omega
 obtain⟨c,d⟩:=hn;by_cases hs:n.tmod (hi-lo+1) < 0
 ·have b:Hid (lo+(n.tmod (hi-lo+1)+hi-lo+1)=mA n lo hi):=by
   unfold Hid mA;rw[← b5v n (hi-lo+1) a hs];omega
  go_enter Tryz.func7,Tryz.ntmps7;go_wp2
  go_ret;exact⟨congrArg (fun n=>Ending.returned (.int .i64 n)) b.out,rfl⟩
 ·have b:Hid (lo+n.tmod (hi-lo+1)=mA n lo hi):=by
   unfold Hid mA;rw[← b5w n (hi-lo+1) a (by omega)]
  go_enter Tryz.func7,Tryz.ntmps7;go_wp2
  go_ret;exact⟨congrArg (fun n=>Ending.returned (.int .i64 n)) b.out,rfl⟩
theorem eV:(Tryz.prog.info? 5).map (fun i=>(i.zero,i.size,i.bytes))=some (some (.int .u8 0),1,1):=by kernel_rfl
theorem c9m:(Tryz.prog.info? 5).map (·.size)=some 1:=by kernel_rfl
theorem fB.form0 {α:Type} {c:α→Value} {base:Nat} {e:TypeId} {w:World} {v:Value} {l:List α} (h:fB c base e w v l) (hne:l≠[]):∃ g cap,v = .slice (some ⟨g,0,none⟩) l.length cap∧base≤g∧l.length≤cap∧cap≤maxLen:=by
 obtain⟨g,k,i,a,b,j,d,f⟩:=h.form hne;exact⟨g,k,a,b,d,f⟩
theorem fB.lit {α:Type} {c:α→Value} {w:World} {base:Nat} (l:List α) {C:Array Value} {e:TypeId} {g n k:Nat} (hb:base≤w.heap.size) (hg:g=w.heap.size) (hC:C=(l.map c).toArray) (hn:n=l.length) (hk:k=n) (hm:k≤maxLen) :
  fB c base e (w.alloc (.cells C e)) (.slice (some ⟨g,0,none⟩) n k) l:=by
 subst hg;subst hC;subst hn;subst hk;exact⟨by simp,.inr ⟨_,_,_,rfl,hb,heap_alloc_new w _,aF _,hm,by simp,by simp[aZ]⟩⟩
theorem fB.room {α:Type} {c:α→Value} {w:World} {base:Nat} {C:Array Value} {e:TypeId} {g k:Nat} (hb:base≤w.heap.size) (hg:g=w.heap.size) (hC:C.size=k) (hm:k≤maxLen) :
  fB c base e (w.alloc (.cells C e)) (.slice (some ⟨g,0,none⟩) 0 k) ([]:List α):=by
 subst hg;exact World.ownsRow_made w C k hb hm (by omega)
theorem yB (v:Value) (l:List UInt8) (r:Nat) (R:Int) (hR:R=(r:Int)) (w:World) (h:eQ w v l) (hz:l.length≤100000000000) (hr:r≤100000000000) :
  Calls Tryz.prog 182 #[v,.int .i64 R] w fun e w'=>∃ x,e = .returned x∧fB bv w.heap.size 5 w' x l∧bR [] w w':=by
 subst hR;have H:=bG h;obtain⟨a,b,rfl,-,-,-⟩:=h;have g:=fun u=>c6y (P:=Tryz.prog) Tryz.underlying33 eV rfl u 0 (l.length+r) 0 ((l.length:Int)+r) (by omega) (by omega) (by omega) (by omega) (by omega)
 go_enter Tryz.func182,Tryz.ntmps182;go_wp2_with (at_builtin;refine fZ gE rfl (.tmp 11) (.tmp 12) rfl Tryz.underlying33 eV rfl (.slice (some ⟨w.heap.size,0,none⟩) 0 (l.length+r)) (.slice a l.length b) [] l rfl rfl (fB.room (base:=w.heap.size) (aF _) rfl (by simp) (by unfold maxLen;omega)) (H.out.alloc _) (by simp;omega) (by unfold maxLen;simp;omega) (by simp) ?_;intro o m c f d;rw[List.nil_append] at c;have i:Hid (bR [] w m):=((bR.refl [] w).alloc _).trans f (by simp) (by simp[blk]);have j:=bG c;clear c f d)
 go_ret;exact⟨_,rfl,j.out,i.out⟩
theorem b5x (k:Nat):(256:Nat) ^ k=2 ^ (8*k):=by rw[Nat.pow_mul]
theorem d6e (m k:Nat) (h:k < nb m):(0:Int) < (m:Int) / 2 ^ (8*k):=by
 have a:=(c0t k m).1 h;rw[b5x] at a;have:((m / 2 ^ (8*k):Nat):Int)=(m:Int) / 2 ^ (8*k):=by rw[Int.natCast_ediv,Int.natCast_pow];rfl
 omega
theorem c9n (m k:Nat) (h:¬ k < nb m):(m:Int) / 2 ^ (8*k)=0:=by
 have a:¬ 0 < m / 256 ^ k:=fun q=>h ((c0t k m).2 q)
 rw[b5x] at a;have:((m / 2 ^ (8*k):Nat):Int)=(m:Int) / 2 ^ (8*k):=by rw[Int.natCast_ediv,Int.natCast_pow];rfl
 rw[← this,Nat.eq_zero_of_not_pos a];rfl
theorem c0v (m k:Nat):Value.int .u8 ((m:Int) / 2 ^ (8*k) % 256)=bv (UInt8.ofNat (m / 256 ^ k)):=by
 have:((m / 2 ^ (8*k):Nat):Int)=(m:Int) / 2 ^ (8*k):=by rw[Int.natCast_ediv,Int.natCast_pow];rfl
 rw[← this,bv,UInt8.toNat_ofNat',b5x];rfl
theorem a2f (k:Nat) (h:k < 256):bv (UInt8.ofNat k)=Value.int .u8 (k:Int):=by
 rw[bv,UInt8.toNat_ofNat',Nat.mod_eq_of_lt h]
theorem c4b (v:Value) (l:List UInt8) (m:Nat) (w:World) (h:eQ w v l) (hz:l.length≤90000000000) (hm:m < 9223372036854775808) :
  Calls Tryz.prog 123 #[v,.int .i64 (m:Int)] w fun e w'=>∃ x,e = .returned x∧fB bv w.heap.size 5 w' x (l++dF m)∧bR [] w w':=by
 have H:=bG h;have h8:=lZ m (by omega);obtain⟨a,a1,rfl,-,-,-⟩:=h;go_enter Tryz.func123,Tryz.ntmps123;go_wp2_with fail
 with_reducible refine(yB _ l 9 9 rfl _ H.out (by omega) (by omega)).mono ?_
 rintro e F ⟨v1,rfl,P,Q⟩;have B:=bG P;have D:=bG Q;clear P Q;go_wp2_with fail
 go_loop [7] (fun i=>∃ k:Nat,i = .int .i64 (k:Int)∧k≤nb m) (fun i=>8-(intOf i).toNat)
 case atStart=>exact⟨0,rfl,aS _⟩
 case round =>
  obtain⟨k,rfl,hk⟩:=hrel;by_cases E:k < nb m
  ·have R:k < 8:=by omega
   have S:=d6e m k E;go_wp2_with fail
   go_round
   case rel=>exact⟨k+1,by go_num,by omega⟩
   case measure=>simp[intOf];omega
  ·have o:nb m=k:=by omega
   have R:k≤8:=by omega
   have S:=c9n m k E;by_cases hq:k < 8
   ·have T:(k:Int) < 8:=by omega
    have G:k < 256:=by omega
    have s:=bG (Rd.lit (w:=F) (c:=bv) [UInt8.ofNat k] (C:=#[.int .u8 (k:Int)]) (e:=5) (fr:=(0,0)) (g:=F.heap.size) (n:=1) (k:=1) rfl (by rw[List.map_singleton,a2f k G]) rfl (aF _) (by decide));have I:Hid (l++dF m=(l++[UInt8.ofNat k])++beB k m):=by unfold Hid dF;rw[o];simp
    have U:=D.out.size;have V:=bG o;clear o E;go_wp2_with (at_builtin;refine fZ gE rfl (.tmp 26) (.tmp 29) rfl Tryz.underlying33 eV rfl v1 (.slice (some ⟨F.heap.size,0,none⟩) 1 1) l [UInt8.ofNat k] rfl rfl (B.out.upd ((bR.refl [] F).alloc _) (by simp)) s.out (by simp;omega) (by unfold maxLen;simp;omega) (by simp;omega) ?_;intro v2 Z u p j;have J:Hid (bR [] w Z):=(D.out.alloc _).trans p (by simp) (fun x N => .inr (B.out.ge x N).1);have K:=bG u;clear u p j)
    go_loopw [5,8] (fun b i wr=>∃ (r:Nat) (c:List UInt8),i = .int .i64 ((r:Int)-1)∧r≤k∧c.length+r=l.length+1+k∧Hid (fB bv w.heap.size 5 wr b c)∧Hid (bR [] w wr)∧Hid (c++beB r m=l++dF m)) (fun _ i _=>(intOf i+1).toNat)
    case atStart=>exact⟨k,l++[UInt8.ofNat k],by go_num,aF _,by simp,K,J,I.out.symm⟩
    case round =>
     obtain⟨r,c,rfl,hr,a0,d,p,z⟩:=hrel;cases r with
     | zero =>
      have W:Hid (c=l++dF m):=by have:=z.out;unfold Hid;rw[beB,bA] at this;exact this
      go_wp2_with fail
      go_ret;exact⟨_,rfl,by rw[← W.out];exact d.out,p.out⟩
     | succ r =>
      have O:((r+1:Nat):Int)-1=(r:Int):=by omega
      rw[O];clear O;have X:r≤8:=by omega
      have t:Hid ((c++[UInt8.ofNat (m / 256 ^ r)])++beB r m=l++dF m):=by have:=z.out;unfold Hid;rw[beB] at this;rw[← this];simp
      have f:=bG (Rd.lit (w:=wr) (c:=bv) [UInt8.ofNat (m / 256 ^ r)] (C:=#[.int .u8 ((m:Int) / 2 ^ (8*r) % 256)]) (e:=5) (fr:=(0,0)) (g:=wr.heap.size) (n:=1) (k:=1) rfl (by rw[List.map_singleton,c0v]) rfl (aF _) (by decide));have Y:=p.out.size;generalize UInt8.ofNat (m / 256 ^ r)=y at *
      obtain⟨ab,cb,rfl,-⟩:=d.out.rd;go_wp2_with (at_builtin;refine fZ gE rfl (.tmp 37) (.tmp 44) rfl Tryz.underlying33 eV rfl (.slice ab c.length cb) (.slice (some ⟨wr.heap.size,0,none⟩) 1 1) c [y] rfl rfl (d.out.upd ((bR.refl [] wr).alloc _) (by simp)) f.out (by simp;omega) (by unfold maxLen;simp;omega) (by simp;omega) ?_;intro v4 w4 u A j;have L:Hid (bR [] w w4):=(p.out.alloc _).trans A (by simp) (fun x N => .inr (d.out.ge x N).1);have M:=bG u;clear u A j)
      go_roundw
      case rel=>exact⟨r,c++[y],by go_num,by omega,by simp;omega,M,L,t⟩
      case measure=>simp[intOf];try omega
   ·have T:¬ (k:Int) < 8:=by omega
    have G:k < 256:=by omega
    have s:=bG (Rd.lit (w:=F) (c:=bv) [UInt8.ofNat k] (C:=#[.int .u8 (k:Int)]) (e:=5) (fr:=(0,0)) (g:=F.heap.size) (n:=1) (k:=1) rfl (by rw[List.map_singleton,a2f k G]) rfl (aF _) (by decide));have I:Hid (l++dF m=(l++[UInt8.ofNat k])++beB k m):=by unfold Hid dF;rw[o];simp
    have U:=D.out.size;have V:=bG o;clear o E;go_wp2_with (at_builtin;refine fZ gE rfl (.tmp 26) (.tmp 29) rfl Tryz.underlying33 eV rfl v1 (.slice (some ⟨F.heap.size,0,none⟩) 1 1) l [UInt8.ofNat k] rfl rfl (B.out.upd ((bR.refl [] F).alloc _) (by simp)) s.out (by simp;omega) (by unfold maxLen;simp;omega) (by simp;omega) ?_;intro v2 Z u p j;have J:Hid (bR [] w Z):=(D.out.alloc _).trans p (by simp) (fun x N => .inr (B.out.ge x N).1);have K:=bG u;clear u p j)
    go_loopw [5,8] (fun b i wr=>∃ (r:Nat) (c:List UInt8),i = .int .i64 ((r:Int)-1)∧r≤k∧c.length+r=l.length+1+k∧Hid (fB bv w.heap.size 5 wr b c)∧Hid (bR [] w wr)∧Hid (c++beB r m=l++dF m)) (fun _ i _=>(intOf i+1).toNat)
    case atStart=>exact⟨k,l++[UInt8.ofNat k],by go_num,aF _,by simp,K,J,I.out.symm⟩
    case round =>
     obtain⟨r,c,rfl,hr,a0,d,p,z⟩:=hrel;cases r with
     | zero =>
      have W:Hid (c=l++dF m):=by have:=z.out;unfold Hid;rw[beB,bA] at this;exact this
      go_wp2_with fail
      go_ret;exact⟨_,rfl,by rw[← W.out];exact d.out,p.out⟩
     | succ r =>
      have O:((r+1:Nat):Int)-1=(r:Int):=by omega
      rw[O];clear O;have X:r≤8:=by omega
      have t:Hid ((c++[UInt8.ofNat (m / 256 ^ r)])++beB r m=l++dF m):=by have:=z.out;unfold Hid;rw[beB] at this;rw[← this];simp
      have f:=bG (Rd.lit (w:=wr) (c:=bv) [UInt8.ofNat (m / 256 ^ r)] (C:=#[.int .u8 ((m:Int) / 2 ^ (8*r) % 256)]) (e:=5) (fr:=(0,0)) (g:=wr.heap.size) (n:=1) (k:=1) rfl (by rw[List.map_singleton,c0v]) rfl (aF _) (by decide));have Y:=p.out.size;generalize UInt8.ofNat (m / 256 ^ r)=y at *
      obtain⟨ab,cb,rfl,-⟩:=d.out.rd;go_wp2_with (at_builtin;refine fZ gE rfl (.tmp 37) (.tmp 44) rfl Tryz.underlying33 eV rfl (.slice ab c.length cb) (.slice (some ⟨wr.heap.size,0,none⟩) 1 1) c [y] rfl rfl (d.out.upd ((bR.refl [] wr).alloc _) (by simp)) f.out (by simp;omega) (by unfold maxLen;simp;omega) (by simp;omega) ?_;intro v4 w4 u A j;have L:Hid (bR [] w w4):=(p.out.alloc _).trans A (by simp) (fun x N => .inr (d.out.ge x N).1);have M:=bG u;clear u A j)
      go_roundw
      case rel=>exact⟨r,c++[y],by go_num,by omega,by simp;omega,M,L,t⟩
      case measure=>simp[intOf];try omega
theorem c9o:dF 0=[0]:=by unfold dF;rw[a7n];rfl
theorem b1k (v:Value) (l:List UInt8) (M:Int) (w:World) (h:eQ w v l) (hz:l.length≤90000000000) (hM:M < 0) (hM1 : -9223372036854775808≤M) :
  Calls Tryz.prog 123 #[v,.int .i64 M] w fun e w'=>∃ x,e = .returned x∧fB bv w.heap.size 5 w' x (l++dF 0)∧bR [] w w':=by
 have H:=bG h;obtain⟨a,A,rfl,-,-,-⟩:=h;go_enter Tryz.func123,Tryz.ntmps123;go_wp2_with fail
 with_reducible refine(yB _ l 9 9 rfl _ H.out (by omega) (by omega)).mono ?_
 rintro e p ⟨B,rfl,m,o⟩;have d:=bG m;have f:=bG o;have z:=f.out.size;clear m o;go_wp2_with fail
 go_loop [7] (fun i=>i = .int .i64 0) (fun _=>0)
 case atStart=>rfl
 case round =>
  subst hrel;have j:=bG (Rd.lit (w:=p) (c:=bv) [(0:UInt8)] (C:=#[.int .u8 0]) (e:=5) (fr:=(0,0)) (g:=p.heap.size) (n:=1) (k:=1) rfl rfl rfl (aF _) (by decide));go_wp2_with (at_builtin;refine fZ gE rfl (.tmp 26) (.tmp 29) rfl Tryz.underlying33 eV rfl B (.slice (some ⟨p.heap.size,0,none⟩) 1 1) l [(0:UInt8)] rfl rfl (d.out.upd ((bR.refl [] p).alloc _) (by simp)) j.out (by simp;omega) (by unfold maxLen;simp;omega) (by simp;omega) ?_;intro D E u y t;have r:Hid (bR [] w E):=(f.out.alloc _).trans y (by simp) (fun x F => .inr (d.out.ge x F).1);have s:=bG u;clear u y t)
  go_loop [5,8] (fun b i=>b=D∧i = .int .i64 (-1)) (fun _ _=>0)
  case atStart=>exact⟨rfl,rfl⟩
  case round =>
   obtain⟨rfl,rfl⟩:=hrel;go_wp2_with fail
   go_ret;exact⟨_,rfl,by rw[c9o];exact s.out,r.out⟩
theorem rJ (v:Value) (l:List UInt8) (M:Int) (w:World) (h:eQ w v l) (hz:l.length≤90000000000) (hM:gR M) :
  Calls Tryz.prog 123 #[v,.int .i64 M] w fun e w'=>∃ x,e = .returned x∧fB bv w.heap.size 5 w' x (l++dF M.toNat)∧bR [] w w':=by
 obtain⟨a,c⟩:=hM;by_cases b:M < 0
 ·have:M.toNat=0:=by omega
  rw[this];exact b1k v l M w h hz b a
 ·obtain⟨m,rfl⟩:=Int.eq_ofNat_of_zero_le (show 0≤M by omega);exact c4b v l m w h hz (by omega)
theorem a7o (s:ByteArray):∀ (n i:Nat) (r:List UInt8),s.size-i=n→ByteArray.toList.loop s i r=r.reverse++s.data.toList.drop i:=by
 intro n
 induction n with
 | zero =>
  intro i r h;unfold ByteArray.toList.loop;have hs:s.data.size=s.size:=rfl;rw[if_neg (by omega),List.drop_eq_nil_of_le (by simp;omega)];simp
 | succ n ih =>
  intro i r h;unfold ByteArray.toList.loop;have hs:s.data.size=s.size:=rfl;have a:i < s.data.toList.length:=by simp;omega
  rw[if_pos (by omega),ih (i+1) _ (by omega),List.drop_eq_getElem_cons a];have hd:i < s.data.size:=by omega
  simp[ByteArray.get!];exact getElem!_pos s.data i hd
theorem gM (s:ByteArray):s.toList=s.data.toList:=by
 unfold ByteArray.toList;rw[a7o s s.size 0 [] rfl];simp
theorem pV (s t:ByteArray) (h:s.toList=t.toList):s=t:=by
 rw[gM,gM] at h;cases s;cases t;congr 1;exact Array.toList_inj.1 h
abbrev sv (s:ByteArray):Value := .string s
end Go.Proofs.YthgnlfikneipiaaGreat
namespace Go.Proofs.YthgnlfikneipiaaGreat
open Go.RowKit Go.Lib
theorem b1l (s:ByteArray):strCells s=s.data.toList.map bv:=by simp[strCells,bv]
theorem a2g {P:Program} {ops:Array Oper} {rest:List Oper} {o:Oper} {a:Act} {w:World} {Q:Exit→Act→World→Prop}
  (hgd:o.guard=none) (s x:Operand) {t ts e:TypeId} (ho:o.op = .call { callee := .builtin .append,args:=#[s,x],argTypes:=#[t,ts] })
  {base:Nat} (ht:P.underlying t=some (.slice e)) (hts:P.underlying ts=some .string) (hi:(P.info? e).map (fun i=>(i.zero,i.size,i.bytes))=some (some (.int .u8 0),1,1))
  (v:Value) (S:ByteArray) (l:List UInt8) (hs:a.eval s=v) (hx:a.eval x = .string S) (hv:fB bv base e w v l) (hb:l.length+S.size≤140737488355328) (hl:l.length+S.size≤maxLen) (hbase:base≤w.heap.size)
  (h:∀ v' w',fB bv base e w' v' (l++S.data.toList)→bR (blk v) w w'→wpList P ops Q rest (a.put o.dst v') w'):wpList P ops Q (o::rest) a w:=by
 obtain⟨i,d,f,g,j⟩:=info_parts hi;obtain⟨v',w',m,p,r,_⟩:=run_append_own_string (P:=P) w base t ts o.type e i ht hts d f g j v l.length (l.map bv) hv S hl hb hbase;have b:fB bv base e w' v' (l++S.data.toList):=by
  unfold fB;have c:S.data.toList.length=S.size:=by simp
  rw[aE,List.map_append,c,← b1l];exact p
 refine wpList_plain hgd fun K u=>?_
 unfold Oper.wp execOp;simp only[ho,resolve,invoke,builtin,Sem.run_bind,Sem.run_pure,Result.andThen_ok,List.map_toArray,List.map_cons,List.map_nil,hs,hx,m];exact u _ _ (h v' w' b (by rw[mI];exact bR.of_grown r))
end Go.Proofs.YthgnlfikneipiaaGreat
namespace Go.Proofs.YthgnlfikneipiaaGreat
open Go.RowKit
theorem a7p {x:Int} (h : -9223372036854775808≤x) (h2:x≤9223372036854775807):gR x:=⟨h,h2⟩
def hU (s:ByteArray):List UInt8:=dF s.size++s.data.toList
theorem sO (v:Value) (l:List UInt8) (S:ByteArray) (w:World) (h:eQ w v l) (hz:l.length≤80000000000) (hs:S.size≤10000000000) :
  Calls Tryz.prog 121 #[v,.string S] w fun e w'=>∃ x,e = .returned x∧fB bv w.heap.size 5 w' x (l++hU S)∧bR [] w w':=by
 have H:=bG h;have B:=lZ S.size (by omega);have j:=fN S.size;have HE:Hid (l++hU S=(l++dF S.size)++S.data.toList):=by unfold Hid hU;rw[bN]
 go_enter Tryz.func121,Tryz.ntmps121;go_wp2_with fail
 with_reducible refine(yB _ l (9+S.size) (9+(S.size:Int)) (by omega) _ H.out (by omega) (by omega)).mono ?_
 rintro e C ⟨D,rfl,d,f⟩;have m:=bG d;have b:=bG f;clear d f;go_wp2_with fail
 with_reducible refine(rJ _ l (S.size:Int) _ m.out.rd (by omega) (a7p (by omega) (by omega))).mono ?_
 rintro e E ⟨y,rfl,g,i⟩;have a:=bG (g.base_le b.out.size);have c:=bG (b.out.seq i);have o:=c.out.size;clear g i;rw[Int.toNat_natCast] at a;have u:(l++dF S.size).length=l.length+(1+nb S.size):=by rw[aE,j]
 generalize l++dF S.size=l2 at *
 go_wp2_with (at_builtin;refine a2g rfl (.tmp 14) (.tmp 15) rfl Tryz.underlying33 Tryz.underlying9 eV y S l2 rfl rfl a.out (by omega) (by unfold maxLen;omega) o ?_;intro F z s t;have p:Hid (bR [] w z):=c.out.trans t (by simp) (fun x A => .inr (a.out.ge x A).1);have r:=bG s;clear s t)
 go_ret;exact⟨_,rfl,by rw[HE.out];exact r.out,p.out⟩
def e5x (l:List UInt8):ByteArray:=⟨l.toArray⟩
theorem yC {P:Program} {src dst e:TypeId} (hs:P.underlying src=some (.slice e)) (he:P.underlying e=some (.int .u8)) (hd:P.underlying dst=some .string) (w:World) (v:Value) (l:List UInt8) (h:eQ w v l) :
  (convert src dst v).run P w = .ok (.string (e5x l)) w:=by
 obtain⟨a,c,rfl,o,p,g⟩:=h;by_cases d:l=[]
 ·subst d;cases a with
  | none=>rw[run_convert_bytes_string w src dst e _ _ _ hs he hd];simp[Conv.bytesToString];rfl
  | some a=>exact run_convert_bytes_back w src dst e a c [] hs he hd (fun j f=>absurd f (by simp))
 ·obtain⟨b,i,rfl,m⟩:=g d;exact run_convert_bytes_back w src dst e _ c l hs he hd (fun j f=>by rw[dB,m j f,cO l j f])
abbrev C10:={l:List Int // l.length=10}
def c4c:C10:=⟨[0,0,0,0,0,0,0,0,0,0],rfl⟩
structure Key where
 ino:Int
 gen:Int
 at_:Int
 rule:ByteArray
structure kC where
 key:Key
 kind:Int
 caps:C10
theorem Key.ext' {a b:Key} (h1:a.ino=b.ino) (h2:a.gen=b.gen) (h3:a.at_=b.at_) (h4:a.rule=b.rule):a=b:=by
 obtain⟨c,d,f,g⟩:=a;obtain⟨h,i,j,l⟩:=b;dsimp only at h1 h2 h3 h4;rw[h1,h2,h3,h4]
instance:DecidableEq Key:=fun a b=>decidable_of_iff (a.ino=b.ino∧a.gen=b.gen∧a.at_=b.at_∧a.rule=b.rule) ⟨fun h=>Key.ext' h.1 h.2.1 h.2.2.1 h.2.2.2,fun h=>by rw[h];exact⟨rfl,rfl,rfl,rfl⟩⟩
theorem kC.ext' {a b:kC} (h1:a.key=b.key) (h2:a.kind=b.kind) (h3:a.caps=b.caps):a=b:=by
 obtain⟨c,d,f⟩:=a;obtain⟨g,h,i⟩:=b;dsimp only at h1 h2 h3;rw[h1,h2,h3]
instance:DecidableEq kC:=fun a b=>decidable_of_iff (a.key=b.key∧a.kind=b.kind∧a.caps=b.caps) ⟨fun h=>kC.ext' h.1 h.2.1 h.2.2,fun h=>by rw[h];exact⟨rfl,rfl,rfl⟩⟩
def kz:Key:=⟨0,0,0,⟨#[]⟩⟩
def rz:kC:=⟨kz,0,c4c⟩
instance:Inhabited Key:=⟨kz⟩
instance:Inhabited kC:=⟨rz⟩
abbrev b1m (k:Key):List Value:=[.int .i64 k.ino,.int .i64 k.gen,.int .i64 k.at_,.string k.rule]
abbrev nB (r:kC):List Value:=b1m r.key ++ .int .i64 r.kind::r.caps.1.map iv
abbrev vB (k:Key):Value := .agg (b1m k).toArray
abbrev c9p (r:kC):Value := .agg (nB r).toArray
theorem wF (r:kC):(nB r).length=15:=by
 have:=r.caps.2;simp[this]
theorem a7q:∀ x,∀ u∈nB x,u.oneCell'=true:=by
 intro x u a;simp only[aI,aG,bF,or_false,List.mem_map] at a;rcases a with(rfl|rfl|rfl|rfl)|rfl|⟨c,_,rfl⟩<;>rfl
theorem ten {l:List Int} (h:l.length=10):∃ c0 c1 c2 c3 c4 c5 c6 c7 c8 c9,l=[c0,c1,c2,c3,c4,c5,c6,c7,c8,c9]:=by
 match l,h with
 | [c0,c1,c2,c3,c4,c5,c6,c7,c8,c9],_=>exact⟨c0,c1,c2,c3,c4,c5,c6,c7,c8,c9,rfl⟩
def vC (c:UInt8):Bool:=decide ((97≤c.toNat∧c.toNat≤122)∨(65≤c.toNat∧c.toNat≤90)∨(48≤c.toNat∧c.toNat≤57)∨c.toNat=45∨c.toNat=95∨c.toNat=46)
def lF (s:ByteArray):Bool:=decide (1≤s.size∧s.size≤32∧∀ j (h:j < s.size),vC s[j]=true)
def uG (c:Int):Bool:=decide (-1≤c∧c≤500)
def gT (r:kC):Bool :=
 decide (1≤r.key.ino∧r.key.ino≤12∧1≤r.key.gen∧r.key.gen≤1099511627776∧0≤r.key.at_∧r.key.at_≤1099511627776) &&
 (if r.kind=2 then decide (r.key.rule=⟨#[]⟩∧r.caps=c4c) else if r.kind=1 then r.caps.1.all uG&&lF r.key.rule else false)
def fL (l:List Int):List UInt8:=l.flatMap fun c=>dF (c+1).toNat
def fI (r:kC):List UInt8:=dF r.key.ino.toNat++dF r.key.gen.toNat++dF r.key.at_.toNat++hU r.key.rule++dF r.kind.toNat++fL r.caps.1
theorem pW (c:Int) (l:List Int):fL (c::l)=dF (c+1).toNat++fL l:=rfl
theorem b1n (l m:List Int):fL (l++m)=fL l++fL m:=by unfold fL;rw[bL]
structure e5y (r:kC):Prop where
 ino:1≤r.key.ino∧r.key.ino≤12
 gen:1≤r.key.gen∧r.key.gen≤1099511627776
 at_:0≤r.key.at_∧r.key.at_≤1099511627776
 kind:r.kind=1∨r.kind=2
 caps:∀ c∈r.caps.1,-1≤c∧c≤500
 rule:r.key.rule.size≤32
theorem a2h {r:kC} (h:gT r=true):e5y r:=by
 unfold gT at h;rw[aD,decide_eq_true_eq] at h;obtain⟨⟨i,j,l,m,o,p⟩,a⟩:=h;split at a
 ·rename_i d;obtain⟨f,g⟩:=bI a;refine⟨⟨i,j⟩,⟨l,m⟩,⟨o,p⟩,.inr d,fun c b=>?_,by rw[f];decide⟩;rw[g] at b;simp[c4c] at b;omega
 ·split at a
  ·rename_i d;rw[aD] at a;obtain⟨f,g⟩:=a;refine⟨⟨i,j⟩,⟨l,m⟩,⟨o,p⟩,.inl d,fun c b=>?_,?_⟩
   ·exact bI (bB.1 f c b)
   ·exact(bI g).2.1
  ·exact absurd a (by simp)
theorem zQ (s:ByteArray):s.data.toList.length=s.size:=by rw[bD];rfl
theorem pX {r:kC} (h:gT r=true):(fI r).length≤200∧0 < (fI r).length:=by
 have a:=a2h h;have b:∀ n:Nat,n < 18446744073709551616→(dF n).length≤9∧0 < (dF n).length:=fun n i=>by
  have:=lZ n i;rw[fN];omega
 have d:∀ l:List Int,(∀ c∈l,c≤500)→(fL l).length≤9*l.length:=by
  intro l
  induction l with
  | nil=>intro _;simp[fL]
  | cons c l ih =>
   intro f;have m:=ih (fun x j=>f x (by simp[j]));have o:=f c (by simp);have p:=b (c+1).toNat (by omega);rw[pW,aE,aW];omega
 have i1:=a.ino;have s:=a.gen;have t:=a.at_;have u:=a.rule;have v:=a.kind;have i6:=zQ r.key.rule;have w:=b r.key.ino.toNat (by omega);have y:=b r.key.gen.toNat (by omega);have z:=b r.key.at_.toNat (by omega);have A:=b r.key.rule.size (by omega);have B:=b r.kind.toNat (by omega);have g:=d r.caps.1 (fun c d=>(a.caps c d).2);rw[r.caps.2] at g;unfold fI hU;simp only[aE,i6];omega
def qW {α:Type} [Inhabited α] (sz:Nat) (c:α→List Value) (w:World) (v:Value) (l:List α):Prop :=
 ∃ a cap,v = .slice a l.length cap∧l.length≤cap∧cap≤maxLen ∧
  (l≠[]→∃ b off,a=some ⟨b,off,none⟩∧∀ j,j < l.length→∀ i,i < sz→w.cell? ⟨b,off+(j*sz+i),none⟩=(c (bT l j))[i]?)
theorem qW.upd {α:Type} [Inhabited α] {sz:Nat} {c:α→List Value} {w w':World} {v:Value} {l:List α} (hsz:∀ x,(c x).length=sz) (h:qW sz c w v l) {S:List Nat} (hu:bR S w w') (hs:∀ x∈blk v,x∉S):qW sz c w' v l:=by
 obtain⟨a,f,rfl,r,s,t⟩:=h;refine⟨a,f,rfl,r,s,fun m=>?_⟩;obtain⟨b,g,rfl,u⟩:=t m;refine⟨b,g,rfl,fun j y i p=>?_⟩;have o:=u j y i p;have d:i < (c (bT l j)).length:=by rw[hsz];exact p
 rw[aO d] at o ⊢;exact hu.cell o (hs b (by simp[blk]))
theorem qW.upd0 {α:Type} [Inhabited α] {sz:Nat} {c:α→List Value} {w w':World} {v:Value} {l:List α} (hsz:∀ x,(c x).length=sz) (h:qW sz c w v l) (hu:bR [] w w'):qW sz c w' v l:=h.upd hsz hu (by simp)
theorem rK {α:Type} [Inhabited α] {sz:Nat} {c:α→List Value} (hsz:∀ x,(c x).length=sz):∀ (l:List α) (j i:Nat),j < l.length→i < sz→(l.flatMap c)[j*sz+i]?=(c (bT l j))[i]?
 | [],j,i,hj,hi=>by simp at hj
 | x::l,0,i,hj,hi=>by
  rw[bM,Nat.zero_mul,aM,bE (by rw[hsz];exact hi),cP]
 | x::l,j+1,i,hj,hi=>by
  have hq:(j+1)*sz+i=sz+(j*sz+i):=by rw[Nat.add_mul];omega
  rw[bM,hq,List.getElem?_append_right (by rw[hsz];omega),hsz,Nat.add_sub_cancel_left,gK];exact rK hsz l j i (by simpa using hj) hi
theorem dH {α:Type} {sz:Nat} {c:α→List Value} (hsz:∀ x,(c x).length=sz) (l:List α):(l.flatMap c).length=l.length*sz:=by
 induction l with
 | nil=>simp
 | cons x l ih=>rw[bM,aE,hsz,ih,aW,Nat.add_mul,Nat.one_mul];omega
def cF {α:Type} (sz:Nat) (c:α→List Value) (base:Nat) (e:TypeId) (w:World) (v:Value) (l:List α):Prop:=w.ownsRow base e sz v l.length (l.flatMap c)
theorem cF.rd {α:Type} [Inhabited α] {sz:Nat} {c:α→List Value} {base:Nat} {e:TypeId} {w:World} {v:Value} {l:List α} (hsz:∀ x,(c x).length=sz) (h:cF sz c base e w v l):qW sz c w v l:=by
 obtain⟨y,o⟩:=h;rcases o with⟨rfl,f⟩|⟨g,b,d,rfl,z,p,r,s,hs,t⟩
 ·exact⟨none,0,by rw[f],by omega,aS _,fun q=>absurd (List.eq_nil_of_length_eq_zero f) q⟩
 ·refine⟨_,b,rfl,r,s,fun _=>⟨g,0,rfl,fun j m i u=>?_⟩⟩;rw[cell_of_row w g (0+(j*sz+i)) d e (0,0) p,← rK hsz l j i m u,← t,List.getElem?_take];have a:j*sz+i < l.length*sz:=by
   have:=bO sz (show j+1≤l.length from m);rw[Nat.add_mul] at this;omega
  simp[a]
theorem cF.upd {α:Type} {sz:Nat} {c:α→List Value} {base:Nat} {e:TypeId} {w w':World} {v:Value} {l:List α} (h:cF sz c base e w v l) {S:List Nat} (hu:bR S w w') (hs:∀ x∈blk v,x∉S):cF sz c base e w' v l:=by
 obtain⟨f,a⟩:=h;refine⟨f,?_⟩;rcases a with a|⟨g,b,d,rfl,i,j,r⟩
 ·exact .inl a
 ·exact .inr ⟨g,b,d,rfl,i,hu.heap j (hs g (by simp[blk])),r⟩
theorem cF.ge {α:Type} {sz:Nat} {c:α→List Value} {base:Nat} {e:TypeId} {w:World} {v:Value} {l:List α} (h:cF sz c base e w v l):∀ x∈blk v,base≤x∧x < w.heap.size:=by
 intro x a;rw[mI] at a;exact World.ownsRow.lt h x (by simpa using a)
theorem cF.typ {α:Type} {sz:Nat} {c:α→List Value} {base:Nat} {e:TypeId} {w:World} {v:Value} {l:List α} (h:cF sz c base e w v l):∀ x∈blk v,∃ C f,w.heap[x]?=some (.cells C e f):=by
 intro x a;rcases h.2 with⟨rfl,_⟩|⟨g,b,d,rfl,j,i,r⟩
 ·simp[blk] at a
 ·simp[blk] at a;subst a;exact⟨_,_,i⟩
theorem cF.nil {α:Type} {sz:Nat} {c:α→List Value} (base:Nat) (e:TypeId) (w:World):cF sz c base e w (.slice none 0 0) ([]:List α):=bK _ _ _ _
theorem cU.ne {w:World} {g:Nat} {e e':TypeId} {xs C:_} {f:Nat×Nat} (h:cU w g e xs) (x:Nat) (k:w.heap[x]?=some (.cells C e' f)) (hne:e≠e'):g≠x:=by
 rintro rfl;unfold cU at h;rw[h] at k;simp at k;exact hne k.2.1
section
variable {P : Program} {ops : Array Oper} {rest : List Oper} {o : Oper} {a : Act} {w : World} {Q : Exit → Act → World → Prop}
theorem a4g {zc:Array Value} (h:∀ u∈zc,u.oneCell'=true) (n:Nat):∀ u∈(Builtin.zeroCells zc n).toList,u.oneCell'=true:=by
 intro u f;simp only[Builtin.zeroCells,Array.toList_map,List.mem_map] at f;obtain⟨i,g,rfl⟩:=f;have c:i < n*zc.size:=by simpa using g
 have a:0 < zc.size:=by
  rcases Nat.eq_zero_or_pos zc.size with d|d
  ·rw[d] at c;omega
  ·exact d
 have b:=Nat.mod_lt i a;rw[getElem!_pos zc _ b];exact h _ (Array.getElem_mem b)
end
open Go.Eng (cR cJ cY bQ EB)
structure Fd where
 kind:Int
 at_:Int
 rule:Int
 caps:C10
instance:Inhabited Fd:=⟨⟨0,0,0,c4c⟩⟩
abbrev hZ (f:Fd):List Value := .int .i64 f.kind :: .int .i64 f.at_ :: .int .i64 f.rule::f.caps.1.map iv
theorem iQ (f:Fd):(hZ f).length=13:=by
 have:=f.caps.2;simp[this]
theorem b1o:∀ x,∀ u∈hZ x,u.oneCell'=true:=by
 intro x u a;simp only[aG,List.mem_map] at a;rcases a with rfl|rfl|rfl|⟨c,_,rfl⟩<;>rfl
def e5z (n:Nat):C10:=⟨[0,n,-1,-1,-1,-1,-1,-1,-1,-1],rfl⟩
theorem c4d {b:Nat} {ν:Nat→Int} {w:World} {F:Nat→Prop} {u:Value} {cs:List Eng.AV} {f:Fd} (hA:(cY b ν [(1,.gro 321 13 cs)] 2 [.slc 1 0 1] [u]).P w F) (hc:∀ G:Eng.GM,@Eng.dG (bQ b ν) G cs=some (hZ f)):cF 13 hZ b 321 w u [f]∧∀ x∈blk u,F x:=by
 letI:Eng.fP:=bQ b ν
 obtain⟨G,m,E,o,p⟩:=hA;obtain⟨x,s,d,I,t⟩:=m.bs 1 _ rfl trivial;obtain⟨⟨J,v⟩,K,L,c,h,A,i,B⟩:=t;rw[hc G] at h;cases h;obtain⟨M,r,C,N,D⟩:=Eng.bS.1 o;obtain⟨y,j,rfl⟩:=aB.1 (show (G 1).map _=_ from C);rw[s] at j;cases j;cases D;have a:=iQ f;refine⟨⟨by simp[a],.inr ⟨x.g,x.cap,(hZ f++c).toArray,by rw[v];simp,(p _ d).1,A,?_,B,by rw[List.size_toArray,aE,i],?_⟩⟩,fun z l=>?_⟩
 ·have:13+c.length=x.cap*13:=by rw[← i,a]
  show 1≤x.cap;omega
 ·show List.take (1*13) (hZ f++c)=List.flatMap hZ [f];rw[List.take_left' (by rw[a])];simp
 ·simp[blk] at l;rw[l];exact d
abbrev fQ:Nat→Int:=fun _=>0
def two (n:Nat):Bool:=decide (1≤n∧n≤200)
section
variable {b : Nat} {w : World} {F : Nat → Prop} {vr vx ls : Value} {line n : Nat}
theorem rL {b:Nat} {ν:Nat→Int} {G:Eng.GM} {a:Eng.AV} {u:Value} (h:@Eng.dG (bQ b ν) G [a]=some [u]):@Eng.dn (bQ b ν) G a=some u:=by
 obtain⟨f,r,c,g,d⟩:=(@Eng.bS (bQ b ν) _ _ _ _).1 h;cases d;exact c
theorem gN {b:Nat} {ν:Nat→Int} {G:Eng.GM} {a:Eng.AV} {u:Value} (h:@Eng.dn (bQ b ν) G a=some u):@Eng.dG (bQ b ν) G [a]=some [u]:=(@Eng.bS (bQ b ν) _ _ _ _).2 ⟨u,[],h,rfl,rfl⟩
theorem a2i {b:Nat} {ν:Nat→Int} {G:Eng.GM} {a c:Eng.AV} {u v:Value} (h:@Eng.dn (bQ b ν) G a=some u) (k:@Eng.dn (bQ b ν) G c=some v):@Eng.dG (bQ b ν) G [a,c]=some [u,v]:=(@Eng.bS (bQ b ν) _ _ _ _).2 ⟨u,_,h,gN k,rfl⟩
theorem b5y {b:Nat} {ν:Nat→Int} {G:Eng.GM} {a c:Eng.AV} {u v:Value} (h:@Eng.dG (bQ b ν) G [a,c]=some [u,v]):@Eng.dn (bQ b ν) G a=some u∧@Eng.dn (bQ b ν) G c=some v:=by
 obtain⟨i,r,d,f,g⟩:=(@Eng.bS (bQ b ν) _ _ _ _).1 h;cases g;exact⟨d,rL f⟩
end
end Go.Proofs.YthgnlfikneipiaaGreat
namespace Go.Proofs.YthgnlfikneipiaaGreat
open Go.RowKit
def gC (c:Int):Int×Int×Int :=
 if c < 128 then (0,0,0) else if c < 194 then (-1,0,0) else if c < 224 then (1,128,191) else if c=224 then (2,160,191) else if c=237 then (2,128,159)
 else if c < 240 then (2,128,191) else if c=240 then (3,144,191) else if c < 244 then (3,128,191) else if c=244 then (3,128,143) else (-1,0,0)
theorem c4e (w:World) (c:Int):Calls Tryz.prog 250 #[.int .u8 c] w fun e w'=>e = .returned (.tuple #[.int .i64 (gC c).1,.int .u8 (gC c).2.1,.int .u8 (gC c).2.2])∧w=w':=by
 obtain⟨k,b,d,a⟩:∃ k b d,gC c=(k,b,d):=⟨_,_,_,rfl⟩
 rw[a];unfold gC at a;have f:(c==224)=decide (c=224):=by by_cases h:c=224<;>simp[h]
 have g:(c==237)=decide (c=237):=by by_cases h:c=237<;>simp[h]
 have i:(c==240)=decide (c=240):=by by_cases h:c=240<;>simp[h]
 have j:(c==244)=decide (c=244):=by by_cases h:c=244<;>simp[h]
 repeat' split at a
 all_goals
  obtain⟨rfl,rfl,rfl⟩:=Prod.mk.inj a |>.imp id Prod.mk.inj;clear a;go_enter Tryz.func250,Tryz.ntmps250;go_wp2_with fail
  exact bodyPost_ret (by simp[results,Tryz.results250];try rfl) rfl ⟨rfl,rfl⟩
end Go.Proofs.YthgnlfikneipiaaGreat
namespace Go.Proofs.YthgnlfikneipiaaGreat
def nZ (n:Nat):Code→Option Code
 | .region id ops b=>if id=n then some (.region id ops b) else none
 | .seq a b=>match nZ n a with
  | some c=>some c
  | none=>nZ n b
 | .block _ c=>nZ n c
 | .loop c=>nZ n c
 | .scope c=>nZ n c
 | .cond _ a b=>match nZ n a with
  | some c=>some c
  | none=>nZ n b
 | _=>none
def pY (n:Nat):Code→Option Code
 | .seq a b=>match a with
  | .region id ops m=>if id=n then some b else pY n b
  | _=>match pY n a with
   | some c=>some c
   | none=>pY n b
 | .block _ c=>pY n c
 | .loop c=>pY n c
 | .scope c=>pY n c
 | .cond _ a b=>match pY n a with
  | some c=>some c
  | none=>pY n b
 | _=>none
def d6f (n:Nat) (o:Option Code):Code:=(o.bind (nZ n)).getD .skip
def c9q (n:Nat) (o:Option Code):Code:=(o.bind (pY n)).getD .skip
open Go.RowKit
def gH (k:Int):Nat→List UInt8→Int→Int→Int→Int×Bool
 | 0,_,_,_,_=>(k+1,false)
 | f+1,b,i,lo,hi =>
  if k < i then (k+1,false) else
  match b with
  | []=>(0,true)
  | c::l=>if (c.toNat:Int) < lo∨hi < (c.toNat:Int) then (0,false) else gH k f l (i+1) 128 191
def iZ:List UInt8→Int×Bool
 | []=>(0,false)
 | c::l=>if (gC c.toNat).1 < 0 then (0,false) else gH (gC c.toNat).1 4 l 1 (gC c.toNat).2.1 (gC c.toNat).2.2
theorem a2j (c:Int) : -1≤(gC c).1∧(gC c).1≤3:=by
 unfold gC
 repeat' split
 all_goals exact⟨by decide,by decide⟩
theorem zR (c:Int) (h:c < 128):gC c=(0,0,0):=by unfold gC;rw[if_pos h]
def IB (r:Int):Prop := -2147483648≤r∧r≤2147483647
theorem c0w (x:Int):IB (IntKind.i32.wrap x):=by
 unfold IB IntKind.wrap;simp[IntKind.signed,IntKind.bits];omega
noncomputable def e6a:Code:=d6f 9 Tryz.f204.body
noncomputable def e1l:Code:=c9q 9 Tryz.f204.body
theorem uf9 {W:World} {bb off cap:Nat} {k lo hi r0:Int} {c0:UInt8} {l:List UInt8} {x1 x3 x4 x8 x9 x10 x11 x12 x13 x14 x15 x16 x17 x18 x19 x20 x21 x22 x23 x24 x25 x26 x27 x28 x29 x30 x31 x32 x33 x34 x35 x36 x37 x38 x39 x40 x41 x42 x43 x44 x45 x46 x47 x48 x49 x50 x51 x52 x53 x54 x55 x56 x57 x58 x59 x60 x61 x62 x63 x64 x65 x66 x67 x68 x69 x70:Value} {Q:Exit→Act→World→Prop} (hc:∀ j,j < (c0::l).length→W.cell? ⟨bb,off+j,none⟩=some (bv (bT (c0::l) j))) (hk0:0≤k) (hk3:k≤3) (hib0:IB r0)
  (hQ2:∀ (y3 y4 y6 y7 y8 y36 y37 y38 y39 y40 y41 y42 y43 y44 y45 y46 y47 y48 y49 y50 y51 y52 y53 y54 y55 y56 y57 y58 y59 y60 y61 y62 y63 y64 y65 y66 y67:Value) (r:Int) (w':World),gH k 4 l 1 lo hi=(k+1,false)∧(k=0→r=r0)∧IB r∧w'=W→Q .normal ⟨#[.slice (some ⟨bb,off,none⟩) (l.length+1) cap,x1,.int .i32 r,y3,y4,.int .i64 k,y6,y7,y8,x9,x10,x11,x12,x13,x14,x15,x16,x17,x18,x19,x20,x21,x22,x23,x24,x25,x26,x27,x28,x29,x30,x31,x32,x33,x34,x35,y36,y37,y38,y39,y40,y41,y42,y43,y44,y45,y46,y47,y48,y49,y50,y51,y52,y53,y54,y55,y56,y57,y58,y59,y60,y61,y62,y63,y64,y65,y66,y67,x68,x69,x70],[]⟩ w') (hQ:∀ (y0 y1 y5 y6 y7 y8 y9 y10 y11 y12 y13 y14 y15 y16 y17 y18 y19 y20 y21 y22 y23 y24 y25 y26 y27 y28 y29 y30 y31 y32 y33 y34 y35 y36 y37 y38 y39 y40 y41 y42 y43 y44 y45 y46 y47 y48 y49 y50 y51 y52 y53 y54 y55 y56 y57 y58 y59 y60 y61 y62 y63 y64 y65 y66 y67 y68 y69 y70:Value) (r n:Int) (g:Bool) (w':World),gH k 4 l 1 lo hi=(n,g)∧(k=0→r=r0)∧IB r∧w'=W→Q .ret ⟨#[y0,y1,.int .i32 r,.int .i64 n,.bool g,y5,y6,y7,y8,y9,y10,y11,y12,y13,y14,y15,y16,y17,y18,y19,y20,y21,y22,y23,y24,y25,y26,y27,y28,y29,y30,y31,y32,y33,y34,y35,y36,y37,y38,y39,y40,y41,y42,y43,y44,y45,y46,y47,y48,y49,y50,y51,y52,y53,y54,y55,y56,y57,y58,y59,y60,y61,y62,y63,y64,y65,y66,y67,y68,y69,y70],[]⟩ w') {K:Act→World→Prop} (hK:∀ a w,Code.wp Tryz.prog e1l Q a w→K a w):Code.wp Tryz.prog e6a (Exit.then K Q) ⟨#[.slice (some ⟨bb,off,none⟩) (l.length+1) cap,x1,.int .i32 r0,x3,x4,.int .i64 k,.int .u8 lo,.int .u8 hi,x8,x9,x10,x11,x12,x13,x14,x15,x16,x17,x18,x19,x20,x21,x22,x23,x24,x25,x26,x27,x28,x29,x30,x31,x32,x33,x34,x35,x36,x37,x38,x39,x40,x41,x42,x43,x44,x45,x46,x47,x48,x49,x50,x51,x52,x53,x54,x55,x56,x57,x58,x59,x60,x61,x62,x63,x64,x65,x66,x67,x68,x69,x70],[]⟩ W:=by
 conv=>arg 2;whnf
 change ∀ a w,Code.wp _ (Code.block _ _) Q a w→K a w at hK;have y:=bG hQ;have z:=bG hQ2;clear hQ hQ2;have G:=bG hc;have s:=bG hib0;clear hc hib0;go_wp2_with fail
 go_loopw [2,6,7,8] (fun vr vl vh vi wr=>∃ (i:Nat) (r d f:Int),1≤i∧i≤4∧(i:Int)≤k+1∧vr = .int .i32 r∧vl = .int .u8 d∧vh = .int .u8 f∧vi = .int .i64 (i:Int)∧Hid (gH k 4 l 1 lo hi=gH k (5-i) (l.drop (i-1)) i d f)∧Hid (k=0→r=r0)∧Hid (IB r)∧wr=W) (fun _ _ _ vi _=>5-(intOf vi).toNat)
 case atStart=>exact⟨1,r0,lo,hi,by omega,by omega,by omega,rfl,rfl,rfl,rfl,rfl,fun _=>rfl,s.out,rfl⟩
 case round =>
  obtain⟨i,r,d,f,J,L,M,rfl,rfl,rfl,rfl,t,N,B,rfl⟩:=hrel;by_cases D:(i:Int)≤k
  ·have b:gH k (5-i) (l.drop (i-1)) i d f=match l.drop (i-1) with|[]=>(0,true)|c::m=>if (c.toNat:Int) < d∨f < (c.toNat:Int) then (0,false) else gH k (4-i) m ((i:Int)+1) 128 191:=by
    rw[show 5-i=(4-i)+1 by omega];show (if k < (i:Int) then _ else _)=_;rw[if_neg (by omega)]
   have A:IntKind.i64.wrap ((i:Int)+1)=(i:Int)+1:=by rw[aQ];omega
   by_cases F:l.length < i
   ·have E:(l.length:Int)+1≤(i:Int):=by omega
    have HE:Hid (gH k 4 l 1 lo hi=(0,true)):=by unfold Hid;rw[t.out,b,List.drop_eq_nil_of_le (by omega)]
    have o:Hid (k=0→(0:Int)=r0):=fun q=>by omega
    clear b;go_wp2_with fail
    exact y.out _ _ _ _ _ _ _ _ _ _ _ _ _ _ _ _ _ _ _ _ _ _ _ _ _ _ _ _ _ _ _ _ _ _ _ _ _ _ _ _ _ _ _ _ _ _ _ _ _ _ _ _ _ _ _ _ _ _ _ _ _ _ _ _ _ _ _ _ 0 0 true wr ⟨HE.out,o.out,by unfold IB;omega,rfl⟩
   ·have E:¬ ((l.length:Int)+1≤(i:Int)):=by omega
    obtain⟨x,C⟩:∃ x,bT l (i-1)=x:=⟨_,rfl⟩
    have p:l.drop (i-1)=x::l.drop i:=by
     rw[List.drop_eq_getElem_cons (by omega),← cO l (i-1) (by omega),C,show i-1+1=i by omega]
    replace b:gH k (5-i) (l.drop (i-1)) i d f=if (x.toNat:Int) < d∨f < (x.toNat:Int) then (0,false) else gH k (4-i) (l.drop i) ((i:Int)+1) 128 191:=by rw[b,p]
    have O:wr.cell? ⟨bb,off+i,none⟩=some (.int .u8 (x.toNat:Int)):=by
     have h:=G.out i (by simp;omega);rw[show bT (c0::l) i=x by rw[← C];cases i with|zero=>omega|succ j=>rw[gK];rfl] at h;exact h
    have P:(0:Int)≤i:=by omega
    have R:(i:Int) < (l.length:Int)+1:=by omega
    clear p C;by_cases u:(x.toNat:Int) < d
    ·have HE:Hid (gH k 4 l 1 lo hi=(0,false)):=by unfold Hid;rw[t.out,b];exact if_pos (.inl u)
     have o:Hid (k=0→(0:Int)=r0):=fun q=>by omega
     clear b;go_wp2_with fail
     exact y.out _ _ _ _ _ _ _ _ _ _ _ _ _ _ _ _ _ _ _ _ _ _ _ _ _ _ _ _ _ _ _ _ _ _ _ _ _ _ _ _ _ _ _ _ _ _ _ _ _ _ _ _ _ _ _ _ _ _ _ _ _ _ _ _ _ _ _ _ 0 0 false wr ⟨HE.out,o.out,by unfold IB;omega,rfl⟩
    by_cases v:f < (x.toNat:Int)
    ·have HE:Hid (gH k 4 l 1 lo hi=(0,false)):=by unfold Hid;rw[t.out,b];exact if_pos (.inr v)
     have o:Hid (k=0→(0:Int)=r0):=fun q=>by omega
     clear b;go_wp2_with fail
     exact y.out _ _ _ _ _ _ _ _ _ _ _ _ _ _ _ _ _ _ _ _ _ _ _ _ _ _ _ _ _ _ _ _ _ _ _ _ _ _ _ _ _ _ _ _ _ _ _ _ _ _ _ _ _ _ _ _ _ _ _ _ _ _ _ _ _ _ _ _ 0 0 false wr ⟨HE.out,o.out,by unfold IB;omega,rfl⟩
    ·have HE:Hid (gH k 4 l 1 lo hi=gH k (4-i) (l.drop i) ((i:Int)+1) 128 191):=by unfold Hid;rw[t.out,b];exact if_neg (by intro q;rcases q with q|q;exact u q;exact v q)
     have I:Hid (i≤3):=by unfold Hid;omega
     clear b;go_wp2_with fail
     go_roundw
     case rel=>exact⟨i+1,_,128,191,by omega,by have:=I.out;omega,by omega,rfl,rfl,rfl,by go_num,by rw[show 5-(i+1)=4-i by omega,show i+1-1=i by omega];exact HE,fun q=>by omega,by first|exact c0w _|(unfold Hid IB wrap32;omega),by trivial⟩
     case measure=>simp[intOf];omega
  ·have E:¬ (i:Int)≤k:=D;have A:IntKind.i64.wrap (k+1)=k+1:=by rw[aQ];omega
   have HE:Hid (gH k 4 l 1 lo hi=(k+1,false)):=by
    unfold Hid;rw[t.out,show 5-i=(4-i)+1 by omega];show (if k < (i:Int) then _ else _)=_;rw[if_pos (by omega)]
   go_wp2_with fail
   exact z.out _ _ _ _ _ _ _ _ _ _ _ _ _ _ _ _ _ _ _ _ _ _ _ _ _ _ _ _ _ _ _ _ _ _ _ _ _ r wr ⟨HE.out,N.out,B.out,rfl⟩
theorem a2k (w:World) (v:Value) (b:List UInt8) (h:eQ w v b) :
  Calls Tryz.prog 204 #[v] w fun e w'=>∃ r:Int,e = .returned (.tuple #[.int .i32 r,.int .i64 (iZ b).1,.bool (iZ b).2])∧((bT b 0).toNat < 128→0 < b.length→r=((bT b 0).toNat:Int))∧IB r∧w'=w:=by
 obtain⟨a,K,rfl,L,S,f⟩:=h;cases b with
 | nil =>
  clear f;go_enter Tryz.func204,Tryz.ntmps204;go_wp2_with fail
  exact bodyPost_ret (v := .tuple #[.int .i32 0,.int .i64 0,.bool false]) (by simp[results,Tryz.results204];try rfl) rfl ⟨0,rfl,by simp,by unfold IB;omega,rfl⟩
 | cons c l =>
  obtain⟨M,D,rfl,E⟩:=f (by simp);have c0:w.cell? ⟨M,D,none⟩=some (.int .u8 (c.toNat:Int)):=E 0 (by simp);have J:=bG E;obtain⟨k,F,G,j⟩:∃ k F G,gC c.toNat=(k,F,G):=⟨_,_,_,rfl⟩
  have y:=a2j c.toNat;rw[j] at y;obtain⟨N,O⟩:=y;have I:Hid (iZ (c::l)=if k < 0 then (0,false) else gH k 4 l 1 F G):=by
   unfold Hid;show (if (gC (c.toNat:Int)).1 < 0 then _ else _)=_;rw[j]
  have B:Hid (c.toNat < 128→k=0):=fun q=>by
   have:=zR (c.toNat:Int) (by omega);rw[j] at this;exact(Prod.mk.inj this).1
  have HK:=bG j;have z:bT (c::l) 0=c:=cP c l;rw[z];clear E f j z;have o:(c::l).length=l.length+1:=rfl;rw[o];have Q:¬ (l.length:Int)+1=0:=by omega
  have R:(0:Int) < (l.length:Int)+1:=by omega
  have p:k = -1∨k=0∨k=1∨k=2∨k=3:=by omega
  clear o;go_enter Tryz.func204,Tryz.ntmps204;go_wp2_with fail
  (with_reducible refine(c4e w (c.toNat:Int)).mono ?_)
  rw[HK.out];rintro e T ⟨rfl,rfl⟩;rcases p with rfl|rfl|rfl|rfl|rfl
  ·have i:Hid (iZ (c::l)=(0,false)):=I.out;go_wp2_with fail
   rw[i.out];exact bodyPost_ret (v := .tuple #[.int .i32 0,.int .i64 0,.bool false]) (by simp[results,Tryz.results204];try rfl) rfl ⟨0,rfl,fun q=>by have:=B.out q;omega,by unfold IB;omega,rfl⟩
  all_goals
   have i:=I.out;have A:=bG i;clear i;go_upto_region 9 with fail
   refine uf9 J.out (by decide) (by decide) (by first|exact c0w _|(unfold IB wrap32;omega)) (fun _ _ _ _ _ _ _ _ _ _ _ _ _ _ _ _ _ _ _ _ _ _ _ _ _ _ _ _ _ _ _ _ _ _ _ _ _ r P h=>?_) (fun _ _ _ _ _ _ _ _ _ _ _ _ _ _ _ _ _ _ _ _ _ _ _ _ _ _ _ _ _ _ _ _ _ _ _ _ _ _ _ _ _ _ _ _ _ _ _ _ _ _ _ _ _ _ _ _ _ _ _ _ _ _ _ _ _ _ _ _ r n g P h=>?_) (by assumption)
   ·obtain⟨x,d,m,rfl⟩:=h;have s:=bG m;clear m;have C:=bG x;have t:=bG d;have i:=A.out;rw[if_neg (by decide),x] at i;have u:=bG i;clear x d i;go_wp2_with fail
    rw[u.out];refine bodyPost_ret (v := .tuple #[.int .i32 r,.int .i64 _,.bool false]) (by simp[results,Tryz.results204];try rfl) rfl ⟨r,rfl,?_,s.out,rfl⟩;intro q
    try intro _
    have j:=B.out q;have d:=t.out;simp at d j<;>first|exact absurd j (by decide)|(rw[d];unfold wrap32;omega)|rw[d]|simp[d]
   ·obtain⟨x,d,m,rfl⟩:=h;have s:=bG m;clear m;have C:=bG x;have t:=bG d;have i:=A.out;rw[if_neg (by decide),x] at i;have u:=bG i;clear x d i
    (try simp only[Exit.inBlock,Exit.then])
    refine bodyPost_ret (v := .tuple #[.int .i32 r,.int .i64 n,.bool g]) (by simp[results,Tryz.results204];try rfl) rfl ⟨r,by rw[u.out],?_,s.out,rfl⟩;intro q
    try intro _
    have j:=B.out q;have d:=t.out;simp at d j<;>first|exact absurd j (by decide)|(rw[d];unfold wrap32;omega)|rw[d]|simp[d]
end Go.Proofs.YthgnlfikneipiaaGreat
