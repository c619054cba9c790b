/- Texts of the proof, joined. -/
import Derived.Test.YthgnlfikneipiaaGreatMg1
import Derived.Test.YthgnlfikneipiaaGreatMg10
import Derived.Test.YthgnlfikneipiaaGreatMg8
import Derived.Test.YthgnlfikneipiaaGreatMg7
import Derived.Test.YthgnlfikneipiaaGreatMg3
set_option linter.unusedSimpArgs false
set_option linter.unusedVariables false
set_option linter.unusedSectionVars false
set_option maxRecDepth 100000
set_option maxHeartbeats 4000000
namespace Go.Proofs.YthgnlfikneipiaaGreat
open Go.RowKit
open Go.Eng (cR cJ cY bQ Xk EB dN cW)
section
variable {b : Nat} {w : World} {F : Nat → Prop} {vs : Value} {hl : List UInt8} {md : Md} {pl : Nat}
theorem d2u {ν:Nat→Int} {vd:Value} (h:(cY b ν Eng.yK 2 [.ptr 1 0] [vd]).P w F):∃ g,vd = .pointer (some ⟨g,0,none⟩)∧qX w g []∧b≤g∧F g:=by
 letI:Eng.fP:=bQ b ν
 obtain⟨G,d,p,f,i⟩:=h;obtain⟨x,j,a,r,s,l,m⟩:=Eng.Sat0.bs d 1 (.row 378 [.int .u8 0,.int .u8 0,.int .u8 0,.int .u8 0,.int .i64 0]) rfl trivial;obtain⟨t,c,o⟩:=aB.1 (show Option.map _ (G 1)=some vd from rL f);rw[j] at c;cases c;cases l;exact⟨x.g,o.symm,⟨[0,0,0,0],rfl,by simp,rfl,m⟩,(i _ a).1,a⟩
def c2d (b:Nat) (w:World) (F:Nat→Prop) (e:Ending) (w':World):Prop :=
 ∃ vs' F',e = .returned vs'∧(∃ g,vs' = .pointer (some ⟨g,0,none⟩))∧(vL b vs' [] .S 0).P w' F'∧cJ F w w'∧∀ x,F' x→F x∨w.heap.size≤x
theorem oF {k:Xk} {q e:Nat} {F1:Nat→Prop} {vd vv:Value}
  (ht:Eng.fG (EB Eng.bdS) 300 266 [.ptr 1 0] (Eng.fF k) 13 (.ptr 24 0) [⟨[0,24,13,1,16,5,6,7,23,21,15,14,2],Eng.gJ Eng.z5 (Eng.fF .S0),13,Eng.rX,[.ptr 24 0,.ptr 13 0,.ptr 16 0]⟩,⟨[0,13],Eng.yK,2,[.ptr 1 0],[.ptr 13 0]⟩]=true)
  (hA:(cY b (iD pl q e 0 0) (Eng.fF k) 13 Eng.rX [vs,vd,vv]).P w F1) (hF:∀ x,F1 x→F x) (hb:b≤w.heap.size) (hbd:@Eng.BD (bQ b (iD pl q e 0 0)) Eng.bdS) :
  Calls Tryz.prog 266 #[vs] w (c2d b w F):=by
 have M:Eng.rH (Eng.fF k)=true:=by cases k<;>rfl
 letI:Eng.fP:=bQ b (iD pl q e 0 0)
 obtain⟨G0,V,W⟩:=Eng.wC hA M hb;have o:@Eng.uS (bQ b (iD pl q e 0 0)) G0 [.ptr 1 0] [vs]:=⟨@Eng.cZ (bQ b _) _ _ _ (dW W).1,trivial⟩
 refine(Eng.a2c (us:=[vs]) (@Eng.a2a (bQ b (iD pl q e 0 0)) _ hbd) ht o V).mono ?_;rintro e' A ⟨u,G,O,H',X,rfl,m,k2,j,E,Y,Z,I⟩;have d:=E _ (aR ..);have f:=E _ (aT _ (aR ..));have C:=j.gc (ρ:=[0,24,13,1,16,5,6,7,23,21,15,14,2]) (B:=Eng.gJ Eng.z5 (Eng.fF .S0)) (n:=13) (by unfold Eng.mM.ok at d;rw[aD] at d;exact d.1);have N:=j.gc (ρ:=[0,13]) (B:=Eng.yK) (n:=2) (by unfold Eng.mM.ok at f;rw[aD] at f;exact f.1);obtain⟨c,p,-⟩:=C.bs 1 _ rfl trivial;obtain⟨l,r,-⟩:=C.bs 4 _ rfl trivial;obtain⟨a,s,-⟩:=N.bs 1 _ rfl trivial;have p:G 24=some c:=p;have r:G 16=some l:=r;have s:G 13=some a:=s;have D:Eng.dn G (.ptr 24 0)=some (.pointer (some ⟨c.g,0,none⟩)):=by show Option.map _ (G 24)=_;rw[p];rfl
 have d2:Eng.dn G (.ptr 13 0)=some (.pointer (some ⟨a.g,0,none⟩)):=by show Option.map _ (G 13)=_;rw[s];rfl
 have Q:Eng.dn G (.ptr 16 0)=some (.pointer (some ⟨l.g,0,none⟩)):=by show Option.map _ (G 16)=_;rw[r];rfl
 have m:Eng.dn G (.ptr 24 0)=some u:=m;rw[D] at m;cases m;obtain⟨J,K⟩:=Eng.xZ j d (Eng.bS.2 ⟨_,_,D,a2i d2 Q,rfl⟩);obtain⟨q3,q4⟩:=Eng.xZ j f (gN d2);obtain⟨gd,e1,e2,e3,L⟩:=d2u q3;have R:a.g=gd:=by simpa using e1
 subst R;have T:∀ n:Nat,n≤2→@Eng.eK.val (bQ 0 (iD pl q e 0 0)) (Eng.kx 0 [])=(0:Nat):=fun _ _=>rfl
 have U:Eng.tX Eng.z5 (iD pl q e 0 0) (iD 0 0 0 0 0):=fun i=>by
  match i with
  | 0=>rfl
  | 1=>rfl
  | 2=>rfl
  | 3=>rfl
  | 4=>rfl
  | _+5=>rfl
 generalize hP1:Eng.wD G _=P1 at J K;have t:(cY b (iD pl q e 0 0) (Eng.gJ Eng.z5 (Eng.fF .S0)) 13 Eng.rX [.pointer (some ⟨c.g,0,none⟩),.pointer (some ⟨a.g,0,none⟩),.pointer (some ⟨l.g,0,none⟩)]).P A P1:=J;have v:(cY b (iD 0 0 0 0 0) (Eng.fF .S0) 13 Eng.rX [.pointer (some ⟨c.g,0,none⟩),.pointer (some ⟨a.g,0,none⟩),.pointer (some ⟨l.g,0,none⟩)]).P A P1:=Eng.fH (H:=Eng.fF .S0) (rt:=Eng.rX) U (nC .S0) rfl t;have y:(vmA b (.pointer (some ⟨c.g,0,none⟩)) (.pointer (some ⟨a.g,0,none⟩)) (.pointer (some ⟨l.g,0,none⟩)) .S 0).P A P1:=⟨.S0,trivial,v⟩
 have z:¬ P1 a.g:=fun h=>Eng.b1g j d f ((Eng.b5u Y).2 _ (by simp)) a.g (by rw[hP1];exact h) L
 refine⟨_,fun x=>x=a.g∨P1 x,rfl,⟨c.g,rfl⟩,⟨a.g,_,P1,e2,y,e3,z,fun x=>Iff.rfl⟩,jP Z hF,fun x hx=>?_⟩;rcases hx with rfl|q
 ·exact(I _ (q4 _ L)).imp (hF _) id
 ·exact(I x (K x q)).imp (hF x) id
theorem b4a (h:(vL b vs hl md pl).P w F) (hb:b≤w.heap.size) (hm:md.ok pl) (hp:pl≤190):Calls Tryz.prog 266 #[vs] w (c2d b w F):=by
 obtain⟨i,j,f,l,⟨k,d,c⟩,m,o,g⟩:=h;have a:∀ x,f x→F x:=fun x q=>(g x).2 (.inr q)
 cases md with
 | S =>
  cases k with
  | S0=>exact oF Eng.e6o c a hb (jI (by omega) (by show 0≤200;omega) (by show 0≤200;omega))
  | S1=>exact oF Eng.e6p c a hb (jI (by omega) (by show 0≤200;omega) (by show 0≤200;omega))
  | S2=>exact oF Eng.e6q c a hb (jI (by omega) (by show 0≤200;omega) (by show 0≤200;omega))
  | _=>exact d.elim
 | H q =>
  have hm:q < pl∧pl≤q+4:=hm;cases k with
  | H=>exact oF Eng.f1d c a hb (jI (by omega) (by show q≤200;omega) (by show 0≤200;omega))
  | H2=>exact oF Eng.e6r c a hb (jI (by omega) (by show q≤200;omega) (by show 0≤200;omega))
  | _=>exact d.elim
 | D q e =>
  have hm:q < e∧e≤q+4∧e≤pl:=hm;cases k with
  | D=>exact oF Eng.f1e c a hb (jI (by omega) (by show q≤200;omega) (by show e≤200;omega))
  | D2=>exact oF Eng.e6s c a hb (jI (by omega) (by show q≤200;omega) (by show e≤200;omega))
  | D3=>exact oF Eng.e6t c a hb (jI (by omega) (by show q≤200;omega) (by show e≤200;omega))
  | _=>exact d.elim
end
end Go.Proofs.YthgnlfikneipiaaGreat
namespace Go.Proofs.YthgnlfikneipiaaGreat
open Go.RowKit
open Go.Eng (cR cJ dN cW)
section
variable {b : Nat}
def exA {α:Type} (A:α→cR b):cR b where
 P w F:=∃ x,(A x).P w F
 up:=by rintro w w' F S ⟨x,h⟩ hu hs hb;exact⟨x,(A x).up h hu hs hb⟩
 lt:=by rintro w F ⟨x,h⟩ y hy;exact(A x).lt h y hy
def guA (p:Prop) (A:cR b):cR b where
 P w F:=p∧A.P w F
 up:=by rintro w w' F S ⟨x,h⟩ hu hs hb;exact⟨x,A.up h hu hs hb⟩
 lt:=by rintro w F ⟨x,h⟩ y hy;exact A.lt h y hy
def e3q (A B:cR b):cR b where
 P w F:=∃ F1 F2,A.P w F1∧B.P w F2∧(∀ x,F1 x→¬ F2 x)∧∀ x,F x↔F1 x∨F2 x
 up:=by
  rintro w w' F S ⟨F1,F2,h1,h2,h3,h4⟩ hu hs hb;exact⟨F1,F2,A.up h1 hu (fun x q=>hs x ((h4 x).2 (.inl q))) hb,B.up h2 hu (fun x q=>hs x ((h4 x).2 (.inr q))) hb,h3,h4⟩
 lt:=by
  rintro w F ⟨F1,F2,h1,h2,h3,h4⟩ y hy;rcases (h4 y).1 hy with q|q
  ·exact A.lt h1 y q
  ·exact B.lt h2 y q
def alA (l:List (cR b)):cR b where
 P w F:=cW l w F
 up:=fun h hu hs hb=>h.up hu hs hb
 lt:=fun h x hx=>h.lt x hx
theorem iI {A B:cR b} {w:World} {F:Nat→Prop} (h:cW [A,B] w F):(e3q A B).P w F:=by
 obtain⟨a,c,d,f,g,i⟩:=Eng.cW.split (l:=[A]) (m:=[B]) h;exact⟨a,c,Eng.cW.one.1 d,Eng.cW.one.1 f,g,i⟩
theorem cC {A:cR b} {w:World} {F:Nat→Prop}:cW [A] w F↔A.P w F:=Eng.cW.one
theorem eY {A B:cR b} {w:World} {F1 F2 F:Nat→Prop} (h1:A.P w F1) (h2:B.P w F2) (hd:∀ x,F1 x→¬ F2 x) (hF:∀ x,F x↔F1 x∨F2 x):cW [A,B] w F:=Eng.cW.join (l:=[A]) (m:=[B]) (Eng.cW.one.2 h1) (Eng.cW.one.2 h2) hd hF
end
def tF (F:Nat→Prop) (w:World) (F':Nat→Prop):Prop:=∀ x,F' x→F x∨w.heap.size≤x
end Go.Proofs.YthgnlfikneipiaaGreat
namespace Go.Proofs.YthgnlfikneipiaaGreat
open Go.RowKit
open Go.Eng (cR cJ cY bQ Xk Mk EB dN cW)
def Md.k:Md→Mk
 | .S => .S
 | .H _ => .H
 | .D _ _ => .D
theorem e9g {md:Md} {k:Xk} (h:c4f md k):k.mk=md.k:=by cases md<;>cases k<;>first|rfl|exact h.elim
def lsT (b:Nat) (ls:Value) (md:Md):cR b:=cY b (iD 0 md.q md.e 0 0) (Eng.vG md.k) 3 [.slc 1 0 1] [ls]
def d2v (b:Nat) (held ls:Value) (hl:List UInt8) (md:Md):cR b:=e3q (jC b held hl) (lsT b ls md)
theorem iJ {b:Nat} {A B C:cR b} {w:World} {F:Nat→Prop} (h:cW [A,B,C] w F):∃ F1 F2 F3,A.P w F1∧B.P w F2∧C.P w F3∧(∀ x,F1 x→¬ F2 x)∧(∀ x,F1 x→¬ F3 x)∧(∀ x,F2 x→¬ F3 x)∧∀ x,F x↔F1 x∨F2 x∨F3 x:=by
 obtain⟨F1,X,d,f,c,g⟩:=Eng.cW.split (l:=[A]) (m:=[B,C]) h;obtain⟨F2,F3,i,j,o,a⟩:=Eng.cW.split (l:=[B]) (m:=[C]) f;exact⟨F1,F2,F3,cC.1 d,cC.1 i,cC.1 j,fun x p q=>c x p ((a x).2 (.inl q)),fun x p q=>c x p ((a x).2 (.inr q)),o,fun x=>by rw[g,a]⟩
theorem rZ {b:Nat} {A B C D:cR b} {w:World} {F:Nat→Prop} (h:cW [A,B,C,D] w F):∃ F1 F2 F3 F4,A.P w F1∧B.P w F2∧C.P w F3∧D.P w F4∧((∀ x,F1 x→¬ F2 x)∧(∀ x,F1 x→¬ F3 x)∧(∀ x,F1 x→¬ F4 x)∧(∀ x,F2 x→¬ F3 x)∧(∀ x,F2 x→¬ F4 x)∧∀ x,F3 x→¬ F4 x)∧∀ x,F x↔F1 x∨F2 x∨F3 x∨F4 x:=by
 obtain⟨F1,X,d,f,c,g⟩:=Eng.cW.split (l:=[A]) (m:=[B,C,D]) h;obtain⟨F2,F3,F4,i,j,o,r,s,t,a⟩:=iJ f;exact⟨F1,F2,F3,F4,cC.1 d,i,j,o,⟨fun x p q=>c x p ((a x).2 (.inl q)),fun x p q=>c x p ((a x).2 (.inr (.inl q))),fun x p q=>c x p ((a x).2 (.inr (.inr q))),r,s,t⟩,fun x=>by rw[g,a]⟩
section
variable {b : Nat} {w : World} {F : Nat → Prop} {vs : Value} {hl : List UInt8} {md : Md} {pl : Nat}
theorem sA {pl q e j:Nat} (h1:pl≤200) (h2:q≤200) (h3:e≤200) (h4:j≤3):@Eng.BD (bQ b (iD pl q e 0 j)) Eng.nK:=by
 intro i p h
 match i with
 | 0=>cases h;exact⟨by show (0:Int)≤(pl:Int);omega,by show (pl:Int)≤200;omega⟩
 | 1=>cases h;exact⟨by show (0:Int)≤(q:Int);omega,by show (q:Int)≤200;omega⟩
 | 2=>cases h;exact⟨by show (0:Int)≤(e:Int);omega,by show (e:Int)≤200;omega⟩
 | 3=>cases h;exact⟨by show (0:Int)≤0;omega,by show (0:Int)≤0;omega⟩
 | 4=>cases h;exact⟨by show (0:Int)≤(j:Int);omega,by show (j:Int)≤3;omega⟩
 | _+5=>cases h
theorem d2w {pl q e:Nat} {j:Int}:Eng.tX Eng.xs5 (iD pl q e 0 j) (iD pl q e 0 0):=by
 intro i
 match i with
 | 0=>show (pl:Int)=0+(1*(pl:Int)+0);omega
 | 1=>show (q:Int)=0+(1*(q:Int)+0);omega
 | 2=>show (e:Int)=0+(1*(e:Int)+0);omega
 | 3=>rfl
 | 4=>rfl
 | _+5=>rfl
theorem e0h (k:Xk):Eng.gJ Eng.xs5 (Eng.fF k)=Eng.fF k:=by cases k<;>rfl
def xsL:Eng.Sb:=[Eng.kx 0 [],Eng.kx 0 [(1,1)],Eng.kx 0 [(2,1)],Eng.kx 0 [],Eng.kx 0 []]
theorem b8u {pl q e:Nat} {j:Int}:Eng.tX xsL (iD pl q e 0 j) (iD 0 q e 0 0):=by
 intro i
 match i with
 | 0=>rfl
 | 1=>show (q:Int)=0+(1*(q:Int)+0);omega
 | 2=>show (e:Int)=0+(1*(e:Int)+0);omega
 | 3=>rfl
 | 4=>rfl
 | _+5=>rfl
theorem e3r (k:Mk):Eng.gJ xsL (Eng.vG k)=Eng.vG k:=by cases k<;>rfl
theorem sB (k:Mk):Eng.rI (Eng.vG k)=true:=by cases k<;>rfl
def c2e (b:Nat) (vs:Value) (hl:List UInt8) (md:Md) (pl:Nat) (w:World) (F:Nat→Prop) (e:Ending) (w':World):Prop :=
 ∃ held ls F1 F2,e = .returned (.agg #[held,.int .i64 (pl:Int),ls])∧(vL b vs hl md pl).P w' F1∧(d2v b held ls hl md).P w' F2∧(∀ x,F1 x→¬ F2 x)∧cJ F w w'∧tF F w F1∧tF F w F2
theorem oG {k:Xk} {q e N:Nat} {ρ:List Nat} {mk:Mk} {F1:Nat→Prop} {gd:Nat} {vv:Value} (hq:q=md.q) (he:e=md.e) (hmk:mk=md.k)
  (ht:Eng.eX (Eng.call (Eng.oL Eng.nK (Eng.hks Eng.nK [Eng.oS])) 300 142 [.ptr 1 0] ⟨[],(0,.gho 0 [.ptr 2 0])::Eng.fF k,13,[],[]⟩) (.agg [.opl 14 ⟨0,[(4,1)]⟩,Eng.l6 0 [(0,1)],.slc N 0 1]) 1 [.ptr 2 0,.opl 14 ⟨0,[(4,1)]⟩] [⟨List.range 13,Eng.fF k,13,Eng.rX,Eng.rX⟩,⟨ρ,Eng.vG mk,3,[.slc 1 0 1],[.slc N 0 1]⟩]=true)
  (hk:c4f md k) (hA:(cY b (iD pl q e 0 0) (Eng.fF k) 13 Eng.rX [vs,.pointer (some ⟨gd,0,none⟩),vv]).P w F1) (hd:qX w gd hl) (hgd:b≤gd) (hng:¬ F1 gd) (hF:∀ x,F x↔x=gd∨F1 x) (hb:b≤w.heap.size) (hbd:@Eng.BD (bQ b (iD pl q e 0 hl.length)) Eng.nK) :
  Calls Tryz.prog 142 #[vs] w (c2e b vs hl md pl w F):=by
 subst hq;subst he;subst hmk;have E:(cY b (iD pl md.q md.e 0 hl.length) (Eng.fF k) 13 Eng.rX [vs,.pointer (some ⟨gd,0,none⟩),vv]).P w F1:=by
  have:=Eng.iY (d2w (j:=hl.length)) (nC k) rfl hA;rw[e0h] at this;exact this
 have l:(uB b (.pointer (some ⟨gd,0,none⟩)) hl).P w (fun x=>x=gd):=⟨gd,rfl,hd,hgd,fun _=>Iff.rfl⟩
 have m:cW (kQ b hl 0 [.pointer (some ⟨gd,0,none⟩)]++[cY b (iD pl md.q md.e 0 hl.length) (Eng.fF k) 13 Eng.rX [vs,.pointer (some ⟨gd,0,none⟩),vv]]) w F:=by
  have h1:cW [uB b (.pointer (some ⟨gd,0,none⟩)) hl,Eng.dZ] w (fun x=>x=gd):=eY l (F2:=fun _=>False) (fun x q=>q) (fun _ _ q=>q.elim) (fun x=>⟨.inl,fun q=>q.elim id False.elim⟩);exact Eng.cW.join h1 (Eng.cW.one.2 E) (fun x i q=>by subst i;exact hng q) hF
 have d:Eng.oS.Ok Tryz.prog (iD pl md.q md.e 0 hl.length) (kQ b hl):=by
  intro w gs us fs F ha hA hF hb;have hA:dN (kQ b hl 0 gs) w fs:=hA;rcases tE hA with⟨v,rfl,-⟩|⟨v,u,rfl,h⟩
  ·obtain⟨g,rfl,hd,hg,i⟩:=hA.at_ 0 _ rfl
   match us,ha with
   | [u0],⟨a,_⟩ =>
    have a:some (Value.pointer (some ⟨g,0,none⟩))=some u0:=a;cases a;refine(zS w g hl hd).mono ?_;rintro e z ⟨u,rfl,I,hu⟩;obtain⟨J,s,X,Y⟩:=hA.step1 hF 1 (by simp[kQ]) (A:=jC b u hl) (f:=fun x=>x∈blk u) ⟨I.base_le hb,fun _=>Iff.rfl⟩ (a9d hu) (fun x i => .inr (I.ge x i).1);obtain⟨Z,o,rfl,-⟩:=I.rd;exact⟨_,[.slice Z hl.length o],[.pointer (some ⟨g,0,none⟩),.slice Z hl.length o],J,rfl,⟨⟨_,_,_,rfl,by show (hl.length:Int)=0+(1*(hl.length:Int)+0);omega⟩,trivial⟩,rfl,⟨rfl,rfl,trivial⟩,s,X,Y⟩
   | [],h=>exact h.elim
   | _::_::_,h=>exact h.2.elim
  ·omega
 have hE:@Eng.sL (Eng.cA b (iD pl md.q md.e 0 hl.length) (kQ b hl)) Tryz.prog (Eng.oL Eng.nK (Eng.hks Eng.nK [Eng.oS])):=@Eng.kE (Eng.cA b (iD pl md.q md.e 0 hl.length) (kQ b hl)) Eng.nK hbd _ (Eng.lG hbd (by
  intro T hT;rw[List.mem_singleton.1 hT];exact d))
 have h0:Eng.cK (Eng.fF k) 0=none:=by cases k<;>rfl
 refine(Eng.iT (us:=[vs]) hE ht (by omega) h0 hb m (fun G hG=>⟨?_,?_⟩)).mono ?_
 ·exact gN (dW hG).2.1
 ·exact⟨@Eng.cZ (bQ b _) _ _ _ (dW hG).1,trivial⟩
 ·rintro e z ⟨u,K,G,rfl,k1,k2,⟨F0,k3⟩,k4,k5,G0,k6,k7⟩;have s:=@Eng.cT (bQ b (iD pl md.q md.e 0 hl.length)) _ _ k6 _ _ k7;obtain⟨t1,t2,t3⟩:=dW s;obtain⟨B,c,e0,e1⟩:∃ B c,K=[B,c]∧True:=by
   obtain⟨B,r,y,C,rfl⟩:=(@Eng.bS (bQ b (iD pl md.q md.e 0 hl.length)) _ _ _ _).1 k2;obtain⟨c,r,a3,a4,rfl⟩:=(@Eng.bS (bQ b (iD pl md.q md.e 0 hl.length)) _ _ _ _).1 C;cases a4;exact⟨B,c,rfl,trivial⟩
  subst e0;obtain⟨c1,c2⟩:=b5y k2;rw[t2] at c1;cases c1;obtain⟨us,L,rfl⟩:=aB.1 (show Option.map _ (@Eng.dG (bQ b (iD pl md.q md.e 0 hl.length)) G _)=some u from k1);obtain⟨x0,r0,b0,b1,rfl⟩:=(@Eng.bS (bQ b (iD pl md.q md.e 0 hl.length)) _ _ _ _).1 L;rw[c2] at b0;cases b0;obtain⟨x1,X,t,b3,rfl⟩:=(@Eng.bS (bQ b (iD pl md.q md.e 0 hl.length)) _ _ _ _).1 b1;obtain⟨D,Y,b4,b5,rfl⟩:=(@Eng.bS (bQ b (iD pl md.q md.e 0 hl.length)) _ _ _ _).1 b3;cases b5;have t:some (Value.int .i64 (0+(1*(pl:Int)+0)))=some x1:=t;rw[show (0+(1*(pl:Int)+0))=(pl:Int) by omega] at t;cases t;obtain⟨J,y,C⟩:=k4 [[vs,.pointer (some ⟨gd,0,none⟩),vv],[D]] ⟨s,gN b4,trivial⟩;have y:cW [uB b (.pointer (some ⟨gd,0,none⟩)) hl,jC b c hl,cY b (iD pl md.q md.e 0 hl.length) (Eng.fF k) 13 Eng.rX [vs,.pointer (some ⟨gd,0,none⟩),vv],cY b (iD pl md.q md.e 0 hl.length) (Eng.vG md.k) 3 [.slc 1 0 1] [D]] z J:=y;obtain⟨D1,D2,M,O,p1,p2,p3,p4,⟨Q,R,S,U,V,W⟩,i⟩:=rZ y;obtain⟨g',e1,e2,e3,e4⟩:=p1;have e5:gd=g':=by simpa using e1
  subst e5;have s3:(cY b (iD pl md.q md.e 0 0) (Eng.fF k) 13 Eng.rX [vs,.pointer (some ⟨gd,0,none⟩),vv]).P z M:=Eng.fH (H:=Eng.fF k) (rt:=Eng.rX) d2w (nC k) rfl (by rw[e0h];exact p3);have s4:(lsT b D md).P z O:=Eng.fH (H:=Eng.vG md.k) (rt:=[.slc 1 0 1]) b8u (sB _) rfl (by rw[e3r];exact p4);refine⟨c,D,fun x=>D1 x∨M x,fun x=>D2 x∨O x,rfl,⟨gd,vv,M,e2,⟨k,hk,s3⟩,hgd,fun q=>R gd ((e4 gd).2 rfl) q,fun x=>or_congr (e4 x) Iff.rfl⟩,⟨D2,O,p2,s4,V,fun _=>Iff.rfl⟩,fun x p q=>?_,k5,fun x p=>C x ((i x).2 ?_),fun x p=>C x ((i x).2 ?_)⟩
  ·rcases p with p|p<;>rcases q with q|q
   ·exact Q x p q
   ·exact S x p q
   ·exact U x q p
   ·exact W x p q
  ·exact p.elim .inl fun q => .inr (.inr (.inl q))
  ·exact p.elim (fun q => .inr (.inl q)) fun q => .inr (.inr (.inr q))
theorem b4b (h:(vL b vs hl md pl).P w F) (hb:b≤w.heap.size) (hh:qK hl) (hm:md.ok pl) (hp:pl≤190) :
  Calls Tryz.prog 142 #[vs] w (c2e b vs hl md pl w F):=by
 obtain⟨o,p,r,g,⟨k,d,i⟩,j,l,m⟩:=h;have f:=hh.1;have a:md.q≤200∧md.e≤200:=by
  cases md with
  | S=>exact⟨by show 0≤200;omega,by show 0≤200;omega⟩
  | H q=>have hm:q < pl∧pl≤q+4:=hm;exact⟨by show q≤200;omega,by show 0≤200;omega⟩
  | D q e=>have hm:q < e∧e≤q+4∧e≤pl:=hm;exact⟨by show q≤200;omega,by show e≤200;omega⟩
 have c:=e9g d;cases k with
 | S0=>exact oG rfl rfl c Eng.e6w d i g j l m hb (sA (by omega) a.1 a.2 f)
 | S1=>exact oG rfl rfl c Eng.e6x d i g j l m hb (sA (by omega) a.1 a.2 f)
 | S2=>exact oG rfl rfl c Eng.e6y d i g j l m hb (sA (by omega) a.1 a.2 f)
 | H=>exact oG rfl rfl c Eng.f1f d i g j l m hb (sA (by omega) a.1 a.2 f)
 | H2=>exact oG rfl rfl c Eng.e6z d i g j l m hb (sA (by omega) a.1 a.2 f)
 | D=>exact oG rfl rfl c Eng.f1g d i g j l m hb (sA (by omega) a.1 a.2 f)
 | D2=>exact oG rfl rfl c Eng.e7a d i g j l m hb (sA (by omega) a.1 a.2 f)
 | D3=>exact oG rfl rfl c Eng.e7b d i g j l m hb (sA (by omega) a.1 a.2 f)
end
def a0j (b:Nat) (vs:Value) (n:Nat):cR b:=exA fun p:List UInt8×Md×Nat=>guA (qK p.1∧p.2.1.ok p.2.2∧p.2.2+p.1.length=n) (vL b vs p.1 p.2.1 p.2.2)
def lV (line n:Nat) (c q e:Int):Nat→Int
 | 0=>line
 | 1=>n
 | 2=>c
 | 3=>q
 | 4=>e
 | _=>0
abbrev hT:Eng.Hp:=Eng.pH Eng.tY Eng.xL0
def a4q (b:Nat) (vr vx vs:Value) (line n:Nat):cR b:=cY b (lV line n 0 0 0) hT 7 Eng.rT [vr,vx,vs]
def b8v (b:Nat) (vr vx:Value) (line n:Nat):cR b:=exA fun vs:Value=>e3q (a0j b vs n) (a4q b vr vx vs line n)
def b4c (q e:Nat):C10:=⟨[q,e,-1,-1,-1,-1,-1,-1,-1,-1],rfl⟩
def e9h (f:Fd):Prop:=f.rule=0∧f.kind=1∧∃ q e:Nat,f.caps=b4c q e∧q≤200∧e≤200
structure Fds (lo hi:Nat) (fs:List Fd):Prop where
 good:∀ f∈fs,e9h f∧(lo:Int)≤f.at_∧f.at_ < hi
 pw:fs.Pairwise fun a c=>a.at_ < c.at_
theorem Fds.nil (lo hi:Nat):Fds lo hi []:=⟨fun f h=>(by cases h),List.Pairwise.nil⟩
theorem Fds.one {lo hi:Nat} (h:lo < hi) (q e:Nat) (hq:q≤200) (he:e≤200):Fds lo hi [⟨1,lo,0,b4c q e⟩] :=
 ⟨fun f a=>by rw[List.mem_singleton.1 a];exact⟨⟨rfl,rfl,q,e,rfl,hq,he⟩,by show (lo:Int)≤lo;omega,by show (lo:Int) < hi;omega⟩,List.pairwise_singleton _ _⟩
theorem Fds.app {a c d:Nat} {f g:List Fd} (h:Fds a c f) (k:Fds c d g) (h1:a≤c) (h2:c≤d):Fds a d (f++g):=by
 refine⟨fun x i=>?_,List.pairwise_append.2 ⟨h.pw,k.pw,fun x i y m=>?_⟩⟩
 ·rcases aI.1 i with q|q
  ·obtain⟨b,j,l⟩:=h.good x q;exact⟨b,j,by omega⟩
  ·obtain⟨b,j,l⟩:=k.good x q;exact⟨b,by omega,l⟩
 ·have:=(h.good x i).2.2;have:=(k.good y m).2.1;omega
section
variable {b : Nat} {w : World} {F : Nat → Prop} {vr vx vs : Value} {line n : Nat}
theorem c2f {line n line' n':Nat} {c q e:Int} {e0 e1:Eng.eK} (h0:@Eng.eK.val (bQ 0 (lV line n c q e)) e0=line') (h1:@Eng.eK.val (bQ 0 (lV line n c q e)) e1=n'):Eng.tX (Eng.xsT e0 e1) (lV line n c q e) (lV line' n' 0 0 0):=by
 intro i
 match i with
 | 0=>exact h0.symm
 | 1=>exact h1.symm
 | 2=>rfl
 | 3=>rfl
 | 4=>rfl
 | _+5=>rfl
theorem vT0 {c q e:Int}:@Eng.eK.val (bQ 0 (lV line n c q e)) (Eng.kx 0 [(0,1)])=line:=by show (0:Int)+(1*(line:Int)+0)=line;omega
theorem vT1 {c q e k:Int}:@Eng.eK.val (bQ 0 (lV line n c q e)) (Eng.kx k [(1,1)])=k+n:=by show k+(1*(n:Int)+0)=k+n;omega
theorem f1y {c q e k:Int}:@Eng.eK.val (bQ 0 (lV line n c q e)) (Eng.kx k [(0,1),(1,1)])=k+line+n:=by show k+(1*(line:Int)+(1*(n:Int)+0))=_;omega
theorem lI:Eng.rI hT=true:=rfl
theorem b8w (h:(a4q b vr vx vs line n).P w F) (c q e:Int):(cY b (lV line n c q e) hT 7 Eng.rT [vr,vx,vs]).P w F:=by
 have:=Eng.iY (σ:=Eng.xsT (Eng.kx 0 [(0,1)]) (Eng.kx 0 [(1,1)])) (c2f (line:=line) (n:=n) (line':=line) (n':=n) (c:=c) (q:=q) (e:=e) vT0 (by rw[vT1];omega)) lI rfl h;exact this
theorem b8x {c q e lo hi:Int} (h1:line≤300) (h2:n≤199) (h3:lo≤c∧c≤hi) (h4:0≤q∧q≤300) (h5:0≤e∧e≤300):@Eng.BD (bQ b (lV line n c q e)) (Eng.lH (lo,hi)):=by
 intro i p h
 match i with
 | 0=>cases h;exact⟨by show (0:Int)≤(line:Int);omega,by show (line:Int)≤300;omega⟩
 | 1=>cases h;exact⟨by show (0:Int)≤(n:Int);omega,by show (n:Int)≤199;omega⟩
 | 2=>cases h;exact h3
 | 3=>cases h;exact h4
 | 4=>cases h;exact h5
 | _+5=>cases h
def d2x (b:Nat) (vr vx:Value) (line n:Nat) (w:World) (F:Nat→Prop) (e:Ending) (w':World):Prop :=
 ∃ u F' line' n' fs,e = .returned u∧(b8v b vr vx line' n').P w' F'∧line'+n'=line+n+1∧line≤line'∧cF 13 hZ b 321 w' u fs∧Fds line line' fs∧fs.length≤1∧cJ F w w'∧tF F w F'∧∀ x∈blk u,¬ F' x
def b8y (b n:Nat):Nat→List Value→List (cR b)
 | 0,[v]=>[a0j b v n]
 | 1,[v]=>[a0j b v (n+1)]
 | _,_=>[Eng.dQ False]
def a0k (b:Nat) (hl:List UInt8) (md:Md) (pl:Nat):Nat→List Value→List (cR b)
 | 0,[v]=>[vL b v hl md pl]
 | 1,[v]=>[vL b v hl md pl]
 | 2,[v]=>[a0j b v 0]
 | _,_=>[Eng.dQ False]
theorem d2y {k:Nat} {gs:List Value} {w:World} {fs:Nat→Nat→Prop} (h:dN (b8y b n k gs) w fs):∃ v,gs=[v]:=by
 match k,gs,h with
 | 0,[v],_=>exact⟨v,rfl⟩
 | 1,[v],_=>exact⟨v,rfl⟩
 | 0,[],h=>exact(cL h).elim
 | 0,_::_::_,h=>exact(cL h).elim
 | 1,[],h=>exact(cL h).elim
 | 1,_::_::_,h=>exact(cL h).elim
 | _+2,_,h=>exact(cL h).elim
theorem b4d {hl:List UInt8} {md:Md} {pl k:Nat} {gs:List Value} {w:World} {fs:Nat→Nat→Prop} (h:dN (a0k b hl md pl k gs) w fs):∃ v,gs=[v]:=by
 match k,gs,h with
 | 0,[v],_=>exact⟨v,rfl⟩
 | 1,[v],_=>exact⟨v,rfl⟩
 | 2,[v],_=>exact⟨v,rfl⟩
 | 0,[],h=>exact(cL h).elim
 | 0,_::_::_,h=>exact(cL h).elim
 | 1,[],h=>exact(cL h).elim
 | 1,_::_::_,h=>exact(cL h).elim
 | 2,[],h=>exact(cL h).elim
 | 2,_::_::_,h=>exact(cL h).elim
 | _+3,_,h=>exact(cL h).elim
theorem d7m {c:UInt8} {q e:Int} (hn:n≤150):Eng.a8l.Ok Tryz.prog (lV line n c.toNat q e) (b8y b n):=by
 intro w r s t F u d x y;have d:dN (b8y b n 0 r) w t:=d;obtain⟨v,rfl⟩:=d2y d;obtain⟨⟨N,O,pl⟩,⟨m,o,z⟩,p⟩:=d.at_ 0 _ rfl;dsimp only at m o z p
 match s,u with
 | [u0,u1],⟨a,g,_⟩ =>
  have a:some v=some u0:=a;cases a;have g:some (Value.int .u8 (0+(1*(c.toNat:Int)+0)))=some u1:=g;rw[show (0+(1*(c.toNat:Int)+0))=(c.toNat:Int) by omega] at g;cases g;refine(b3w p y m o (by omega) c).mono ?_;rintro e P ⟨rfl,B,i,j,l,C,D,E,Q,G,I⟩;obtain⟨J,K,L,M⟩:=d.step1 x 0 (by simp[b8y]) (A:=a0j b v (n+1)) (f:=B) ⟨⟨i,j,l⟩,⟨D,E,by dsimp only;omega⟩,C⟩ G I;exact⟨_,[],[v],J,rfl,trivial,⟨[],rfl,trivial⟩,⟨rfl,trivial⟩,K,L,M⟩
 | [],h=>exact h.elim
 | [_],h=>exact h.2.elim
 | _::_::_::_,h=>exact h.2.2.elim
theorem d7n {ν:Nat→Int} {hl:List UInt8} {md:Md} {pl:Nat} (hm:md.ok pl) (hp:pl≤190):Eng.a8m.Ok Tryz.prog ν (a0k b hl md pl):=by
 intro w i j l F m c o p;have c:dN (a0k b hl md pl 1 i) w l:=c;obtain⟨v,rfl⟩:=b4d c;have d:=c.at_ 0 _ rfl
 match j,m with
 | [u0],⟨a,_⟩ =>
  have a:some v=some u0:=a;cases a;refine(b4a d p hm hp).mono ?_;rintro e D ⟨r,s,rfl,⟨g,rfl⟩,t,u,x⟩;obtain⟨y,z,B,C⟩:=c.step1 o 0 (by simp[a0k]) (A:=a0j b (.pointer (some ⟨g,0,none⟩)) 0) (f:=s) ⟨⟨[],.S,0⟩,⟨⟨by simp,.inl rfl⟩,trivial,rfl⟩,t⟩ u x;exact⟨_,[.pointer (some ⟨g,0,none⟩)],[.pointer (some ⟨g,0,none⟩)],y,rfl,⟨⟨g,rfl⟩,trivial⟩,rfl,⟨rfl,trivial⟩,z,B,C⟩
 | [],h=>exact h.elim
 | _::_::_,h=>exact h.2.elim
def lsY:LsV→Bool
 | none=>false
 | some _=>true
theorem c2g [Eng.fP] (gs:List Value):Eng.mos gs (Eng.mmS++[.c .nils]) [.int .i64 (-1),.int .i64 (-1),.int .i64 (-1),.int .i64 (-1),.int .i64 (-1),.int .i64 (-1),.int .i64 (-1),.int .i64 (-1),.slice none 0 0]:=⟨rfl,rfl,rfl,rfl,rfl,rfl,rfl,rfl,rfl,trivial⟩
theorem d7o {c:Int} {q e:Nat} {hl:List UInt8} {md:Md} {pl:Nat} (hh:qK hl) (hm:md.ok pl) (hp:pl≤190) (he:md.ends pl=none∨md.ends pl=some (q,e)):(Eng.a3d (lsY (md.ends pl))).Ok Tryz.prog (lV line n c q e) (a0k b hl md pl):=by
 intro w A B t F C o D E;have o:dN (a0k b hl md pl 0 A) w t:=o;obtain⟨v,rfl⟩:=b4d o;have z:=o.at_ 0 _ rfl
 match B,C with
 | [u0],⟨a,_⟩ =>
  have a:some v=some u0:=a;cases a;refine(b3z z E hh hm hp).mono ?_;rintro S T ⟨u,G,rfl,I,J,K,L,M⟩;have d:∀ x,t 0 x→F x:=fun x q=>(D x).2 ⟨0,q⟩
  obtain⟨U,N⟩:=J;rcases N with⟨rfl,O⟩|⟨y,f,g,rfl,P,m,Q,r,s,p⟩
  ·simp at O
  ·have i:=zZ (md.ends pl);have j:=M y (by simp[blk]);have p:g.toList.take 12=jD (md.ends pl):=by
    have:=p;simp only[bM,List.flatMap_nil,bA,aW,List.length_nil] at this;exact this
   have l:@Eng.mos (Eng.cA b (lV line n c q e) (a0k b hl md pl)) ([v]++[]) (Eng.e6u (lsY (md.ends pl))) (jD (md.ends pl)):=by
    rcases he with he|he<;>rw[he]
    ·exact⟨rfl,rfl,rfl,@c2g (Eng.cA b (lV line n c q e) (a0k b hl md pl)) _⟩
    ·refine⟨rfl,?_,?_,@c2g (Eng.cA b (lV line n c q e) (a0k b hl md pl)) _⟩
     ·show some (Value.int .i64 (0+(1*(q:Int)+0)))=_;rw[show (0+(1*(q:Int)+0))=(q:Int) by omega]
     ·show some (Value.int .i64 (0+(1*(e:Int)+0)))=_;rw[show (0+(1*(e:Int)+0))=(e:Int) by omega]
   refine⟨_,[],[v],G,rfl,trivial,⟨y,jD (md.ends pl),g.toList.drop 12,f,rfl,j.2.imp (d _) id,(Array.getElem?_eq_some_iff.1 m).1,j.1,l,?_,?_,r,by decide⟩,⟨rfl,trivial⟩,cC.2 I,jP K d,fun x R=>(L x R).imp (d x) id⟩
   ·rw[← p,List.take_append_drop];simpa using m
   ·have e:g.toList.length=f*12:=by rw[bD];exact s
    rw[i,aH,e];have:1≤f:=Q;omega
 | [],h=>exact h.elim
 | _::_::_,h=>exact h.2.elim
theorem a3p {k:Nat} {st:Nat→List Value→List (cR b)} {A:cR b} (hst:st k [vs]=[A]) {w:World} {F1 F2:Nat→Prop} {B:cR b} (h1:A.P w F1) (h2:B.P w F2) (hd:∀ x,F1 x→¬ F2 x) (hF:∀ x,F x↔F1 x∨F2 x):cW (st k [vs]++[B]) w F:=by
 rw[hst];exact eY h1 h2 hd hF
theorem e0i {c:UInt8} {lo hi:Int} (hc:c≠10)
  (ht:Eng.eX (Eng.call (Eng.oL (Eng.lH (lo,hi)) (Eng.hks (Eng.lH (lo,hi)) [Eng.a8l])) 300 167 [.ptr 2 0,.sym .u8 ⟨0,[(2,1)]⟩] ⟨[],(0,.gho 0 [.ptr 6 0])::hT,7,[],[]⟩) .nils 1 [.ptr 6 0] [⟨[0,1,2,3,4,5,6],Eng.gJ (Eng.xsT (Eng.kx 0 [(0,1)]) (Eng.kx 1 [(1,1)])) hT,7,Eng.rT,[.ptr 1 0,.ptr 2 0,.ptr 6 0]⟩]=true)
  {F1 F2:Nat→Prop} (h1:(a0j b vs n).P w F1) (h2:(a4q b vr vx vs line n).P w F2) (hd:∀ x,F1 x→¬ F2 x) (hF:∀ x,F x↔F1 x∨F2 x) (hb:b≤w.heap.size) (hl:line≤300) (hn:n≤150) (hcb:lo≤c.toNat∧(c.toNat:Int)≤hi) :
  Calls Tryz.prog 167 #[vx,.int .u8 c.toNat] w (d2x b vr vx line n w F):=by
 have s:=b8w h2 c.toNat 0 0;have a:@Eng.BD (bQ b (lV line n c.toNat 0 0)) (Eng.lH (lo,hi)):=b8x (by omega) (by omega) hcb (by omega) (by omega);have d:=a3p (k:=0) (st:=b8y b n) (vs:=vs) rfl h1 s hd hF;have t:@Eng.sL (Eng.cA b (lV line n c.toNat 0 0) (b8y b n)) Tryz.prog (Eng.oL (Eng.lH (lo,hi)) (Eng.hks (Eng.lH (lo,hi)) [Eng.a8l])):=@Eng.kE (Eng.cA b (lV line n c.toNat 0 0) (b8y b n)) (Eng.lH (lo,hi)) a _ (Eng.lG a (by
  intro T hT;rw[List.mem_singleton.1 hT];exact d7m hn))
 refine(Eng.iT (us:=[vx,.int .u8 c.toNat]) t ht (by omega) rfl hb d (fun G r=>⟨?_,?_⟩)).mono ?_
 ·exact gN (dW r).2.2
 ·refine⟨@Eng.cZ (bQ b _) _ _ _ (dW r).2.1,?_,trivial⟩;show some (Value.int .u8 (0+(1*(c.toNat:Int)+0)))=_;rw[show (0+(1*(c.toNat:Int)+0))=(c.toNat:Int) by omega]
 ·rintro e l ⟨u,i,G,rfl,g,m,⟨M,N⟩,y,z,G0,A,B⟩;have j:=@Eng.cT (bQ b (lV line n c.toNat 0 0)) _ _ A _ _ B;obtain⟨O,Q,C⟩:=dW j;have f:i=[vs]:=by
   have:=gN (b:=b) (ν:=lV line n c.toNat 0 0) C;rw[this] at m;exact(aK m).symm
  subst f;have g:some (Value.slice none 0 0)=some u:=g;cases g;obtain⟨o,h,D⟩:=y [[vr,vx,vs]] ⟨j,trivial⟩;have h:cW [a0j b vs (n+1),cY b (lV line n c.toNat 0 0) (Eng.gJ (Eng.xsT (Eng.kx 0 [(0,1)]) (Eng.kx 1 [(1,1)])) hT) 7 Eng.rT [vr,vx,vs]] l o:=h;obtain⟨E,p,p1,I,J,K⟩:=iI h;have v:(a4q b vr vx vs line (n+1)).P l p:=Eng.fH (H:=hT) (rt:=Eng.rT) (c2f vT0 (by rw[vT1];omega)) lI rfl I;exact⟨_,o,line,n+1,[],rfl,⟨vs,E,p,p1,v,J,K⟩,by omega,aF _,cF.nil _ _ _,Fds.nil _ _,by simp,z,D,fun x L=>by simp[blk] at L⟩
theorem d7p {ν:Nat→Int} {w:World} {F:Nat→Prop} {u:Value} {line n q e:Nat} {c:Int} (hA:(cY b (lV line n c q e) Eng.vH 2 [.slc 1 0 1] [u]).P w F):cF 13 hZ b 321 w u [⟨1,line,0,b4c q e⟩]∧∀ x∈blk u,F x :=
 c4d hA fun G=>by
  have a:@Eng.dn (bQ b (lV line n c q e)) G Eng.xL0=some (.int .i64 (line:Int)):=by
   show some (Value.int .i64 (0+(1*(line:Int)+0)))=_;congr 2;omega
  have d:@Eng.dn (bQ b (lV line n c q e)) G (Eng.l6 0 [(3,1)])=some (.int .i64 (q:Int)):=by
   show some (Value.int .i64 (0+(1*(q:Int)+0)))=_;congr 2;omega
  have f:@Eng.dn (bQ b (lV line n c q e)) G (Eng.l6 0 [(4,1)])=some (.int .i64 (e:Int)):=by
   show some (Value.int .i64 (0+(1*(e:Int)+0)))=_;congr 2;omega
  have g:∀ k:Int,@Eng.dn (bQ b (lV line n c q e)) G (.int .i64 k)=some (.int .i64 k):=fun k=>rfl
  simp only[Eng.dG,Eng.n6,Eng.n6s,List.cons_append,List.nil_append,a,d,f,g];rfl
theorem d2z {hl:List UInt8} {md:Md} {pl q e:Nat} (y:Bool) (hy:y=lsY (md.ends pl)) {v:Eng.AV} {N:Nat} {ps:List Eng.mM} (hps:ps=if y then [⟨[0,12],Eng.vH,2,[.slc 1 0 1],[.slc 12 0 1]⟩] else []) (hv:v=if y then .slc 12 0 1 else .nils) {ρ:List Nat}
  (ht:Eng.eX (Eng.call (Eng.oL (Eng.lH (0,255)) (Eng.hks (Eng.lH (0,255)) [Eng.a3d y,Eng.a8m])) 300 167 [.ptr 2 0,.int .u8 10] ⟨[],(0,.gho 0 [.ptr 6 0])::hT,7,[],[]⟩) v 2 [.ptr N 0] (⟨ρ,Eng.gJ (Eng.xsT (Eng.kx 1 [(0,1),(1,1)]) (Eng.kx 0 [])) hT,7,Eng.rT,[.ptr 1 0,.ptr 2 0,.ptr N 0]⟩::ps)=true)
  {F1 F2:Nat→Prop} (hh:qK hl) (hm:md.ok pl) (hp:pl≤150) (h1:(vL b vs hl md pl).P w F1) (h2:(a4q b vr vx vs line n).P w F2) (hd:∀ x,F1 x→¬ F2 x) (hF:∀ x,F x↔F1 x∨F2 x) (hb:b≤w.heap.size) (hln:line≤300) (hn:n≤150) (he:md.ends pl=none∨md.ends pl=some (q,e)) (hq:q≤200) (hee:e≤200) :
  Calls Tryz.prog 167 #[vx,.int .u8 10] w (d2x b vr vx line n w F):=by
 subst hy;have O:=b8w h2 0 q e;have h:@Eng.BD (bQ b (lV line n 0 q e)) (Eng.lH (0,255)):=b8x (by omega) (by omega) (by omega) (by omega) (by omega);have i:=a3p (k:=0) (st:=a0k b hl md pl) (vs:=vs) rfl h1 O hd hF;have Q:@Eng.sL (Eng.cA b (lV line n 0 q e) (a0k b hl md pl)) Tryz.prog (Eng.oL (Eng.lH (0,255)) (Eng.hks (Eng.lH (0,255)) [Eng.a3d (lsY (md.ends pl)),Eng.a8m])):=@Eng.kE (Eng.cA b (lV line n 0 q e) (a0k b hl md pl)) (Eng.lH (0,255)) h _ (Eng.lG h (by
  intro T hT;simp only[aG,bF,or_false] at hT;rcases hT with rfl|rfl
  ·exact d7o hh hm (by omega) he
  ·exact d7n hm (by omega)))
 refine(Eng.iT (us:=[vx,.int .u8 10]) Q ht (by omega) rfl hb i (fun G M=>⟨?_,?_⟩)).mono ?_
 ·exact gN (dW M).2.2
 ·exact⟨@Eng.cZ (bQ b _) _ _ _ (dW M).2.1,rfl,trivial⟩
 ·rintro e' l ⟨u,S,G,rfl,f,U,⟨F0,k3⟩,J,K,G0,V,W⟩;have R:=@Eng.cT (bQ b (lV line n 0 q e)) _ _ V _ _ W;obtain⟨X,Y,t3⟩:=dW R;obtain⟨a,r,Z,a2,rfl⟩:=(@Eng.bS (bQ b (lV line n 0 q e)) _ _ _ _).1 U;cases a2;have I:@Eng.dG (bQ b (lV line n 0 q e)) G [.ptr 1 0,.ptr 2 0,.ptr N 0]=some [vr,vx,a]:=(@Eng.bS (bQ b _) _ _ _ _).2 ⟨_,_,X,a2i Y Z,rfl⟩;have j:Eng.tX (Eng.xsT (Eng.kx 1 [(0,1),(1,1)]) (Eng.kx 0 [])) (lV line n 0 q e) (lV (line+n+1) 0 0 0 0):=c2f (by rw[f1y];omega) rfl;rcases he with he|he
  ·rw[he] at hps hv;have hps:ps=[]:=hps;have hv:v = .nils:=hv;subst hps;subst hv;have f:some (Value.slice none 0 0)=some u:=f;cases f;obtain⟨m,d,t⟩:=J [[vr,vx,a]] ⟨I,trivial⟩;have d:cW [a0j b a 0,cY b (lV line n 0 q e) (Eng.gJ (Eng.xsT (Eng.kx 1 [(0,1),(1,1)]) (Eng.kx 0 [])) hT) 7 Eng.rT [vr,vx,a]] l m:=d;obtain⟨o,g,p1,z,A,p4⟩:=iI d;have s:(a4q b vr vx a (line+n+1) 0).P l g:=Eng.fH (H:=hT) (rt:=Eng.rT) j lI rfl z;exact⟨_,m,line+n+1,0,[],rfl,⟨a,o,g,p1,s,A,p4⟩,by omega,by omega,cF.nil _ _ _,Fds.nil _ _,by simp,K,t,fun x E=>by simp[blk] at E⟩
  ·rw[he] at hps hv;have hps:ps=[⟨[0,12],Eng.vH,2,[.slc 1 0 1],[.slc 12 0 1]⟩]:=hps;have hv:v = .slc 12 0 1:=hv;subst hps;subst hv;have f:@Eng.dn (bQ b (lV line n 0 q e)) G (.slc 12 0 1)=some u:=f;obtain⟨m,d,t⟩:=J [[vr,vx,a],[u]] ⟨I,gN f,trivial⟩;have d:cW [a0j b a 0,cY b (lV line n 0 q e) (Eng.gJ (Eng.xsT (Eng.kx 1 [(0,1),(1,1)]) (Eng.kx 0 [])) hT) 7 Eng.rT [vr,vx,a],cY b (lV line n 0 q e) Eng.vH 2 [.slc 1 0 1] [u]] l m:=d;obtain⟨o,g,D3,p1,z,A,B,C,D,E⟩:=iJ d;have s:(a4q b vr vx a (line+n+1) 0).P l g:=Eng.fH (H:=hT) (rt:=Eng.rT) j lI rfl z;obtain⟨o1,L⟩:=d7p A (ν:=fun _=>0);refine⟨u,fun x=>o x∨g x,line+n+1,0,_,rfl,⟨a,o,g,p1,s,B,fun _=>Iff.rfl⟩,by omega,by omega,o1,Fds.one (by omega) q e hq hee,by simp,K,fun x c=>t x ((E x).2 (c.elim .inl fun q => .inr (.inl q))),fun x c hq=>?_⟩;rcases hq with p|p
   ·exact C x p (L x c)
   ·exact D x p (L x c)
theorem c6b (h:(b8v b vr vx line n).P w F) (hb:b≤w.heap.size) (hl:line+n≤150) (c:UInt8) :
  Calls Tryz.prog 167 #[vx,.int .u8 c.toNat] w (d2x b vr vx line n w F):=by
 obtain⟨v,x,y,o,d,f,g⟩:=h;by_cases l:c=10
 ·subst l;obtain⟨⟨s,t,pl⟩,⟨i,a,u⟩,j⟩:=o;dsimp only at i a u j;cases t with
  | S=>exact d2z (q:=0) (e:=0) false rfl rfl rfl Eng.f1h i a (by omega) j d f g hb (by omega) (by omega) (.inl rfl) (by omega) (by omega)
  | H q=>have m:q < pl∧pl≤q+4:=a;exact d2z (q:=q) (e:=pl) true rfl rfl rfl Eng.e7e i a (by omega) j d f g hb (by omega) (by omega) (.inr rfl) (by omega) (by omega)
  | D q e=>have m:q < e∧e≤q+4∧e≤pl:=a;exact d2z (q:=q) (e:=e) true rfl rfl rfl Eng.e7e i a (by omega) j d f g hb (by omega) (by omega) (.inr rfl) (by omega) (by omega)
 ·have p:c.toNat < 256:=c.toNat_lt;have r:c.toNat≠10:=fun q=>l (UInt8.toNat_inj.1 q)
  rcases Nat.lt_or_ge c.toNat 10 with q|q
  ·exact e0i l Eng.e7c o d f g hb (by omega) (by omega) ⟨by omega,by omega⟩
  ·exact e0i l Eng.e7d o d f g hb (by omega) (by omega) ⟨by omega,by omega⟩
end
end Go.Proofs.YthgnlfikneipiaaGreat
namespace Go.Proofs.YthgnlfikneipiaaGreat
open Go.RowKit
open Go.Eng (cR cJ cY bQ Xk Mk iV EB dN cW)
def cD (b:Nat) (vr:Value):cR b:=cY b fQ Eng.wO 8 [.ptr 1 0] [vr]
def yR (at_:Nat) (lv pv held ls:Value):List Value:=[.int .i64 (at_:Int),lv,.bool false,.bool false,.int .i64 0,.int .i64 0,.slice none 0 0,.slice none 0 0,.int .i64 0,.slice none 0 0,held,pv,ls,.slice none 0 0,.int .i64 0,.slice none 0 0]
def mD (b:Nat) (at_:Nat) (lv pv held ls:Value):cR b:=exA fun p:Nat×List UInt8×Md×Nat=>guA (lv = .int .i64 (p.1:Int)∧pv = .int .i64 (p.2.2.2:Int)∧qK p.2.1∧p.2.2.1.ok p.2.2.2∧p.1+(p.2.2.2+p.2.1.length)=at_) (d2v b held ls p.2.1 p.2.2.1)
def fV (b:Nat) (vr vx:Value) (at_:Nat):cR b:=exA fun p:Nat×Nat=>guA (p.1+p.2=at_) (b8v b vr vx p.1 p.2)
theorem b4e {b:Nat} {ν:Nat→Int} {H:Eng.Hp} {n:Nat} {rt:List Eng.AV} {vals:List Value} {w:World} {F:Nat→Prop} {a:Option Addr} {m c:Nat} {e:Eng.eK} (h:(cY b ν H n rt vals).P w F) (hm:(m:Int)=@Eng.eK.val (bQ b ν) e):(cY b ν H (n+1) (rt++[.opl n e]) (vals++[.slice a m c])).P w F:=by
 letI:Eng.fP:=bQ b ν
 obtain⟨G,p,r,z,A⟩:=h
 let G':Eng.GM:=fun i=>if i=n then some ⟨0,0,0,0,Value.slice a m c⟩ else G i
 have d:Eng.lK G G':=fun i x e=>by
  show (if i=n then _ else G i)=_;rw[if_neg (fun q=>by rw[q,r n (aF _)] at e;cases e)];exact e
 have u:∀ i c,Eng.cK H i=some c→c.live→i≠n:=fun i c l s q=>by
  obtain⟨x,g,_⟩:=p.bs i c l s;rw[q,r n (aF _)] at g;cases g
 have o:∀ i,i≠n→G' i=G i:=fun i q=>if_neg q
 refine⟨G',⟨fun i c f s=>?_,fun i j c e x y f l v he E I t=>?_⟩,fun i f=>?_,?_,A⟩
 ·obtain⟨x,g,B,C,D⟩:=p.bs i c f s;exact⟨x,d _ _ g,B,C,D.mono d rfl⟩
 ·exact p.inj i j c e x y f l v he (by rw[← o i (u i c f l)];exact E) (by rw[← o j (u j e v he)];exact I) t
 ·rw[o i (by omega)];exact r i (by omega)
 ·refine Eng.eL.2 ⟨_,_,Eng.cT d z,gN (b:=b) (ν:=ν) ?_,rfl⟩;show (G' n).bind (fun x=>x.os e.val)=some (Value.slice a m c);rw[show G' n=some ⟨0,0,0,0,Value.slice a m c⟩ from if_pos rfl];show (bif decide ((m:Int)=e.val) then some (Value.slice a m c) else none)=_;rw[decide_eq_true hm];rfl
section
variable {b : Nat} {w : World} {F : Nat → Prop} {vr vx vs : Value} {line n : Nat}
theorem d7q:Eng.tX Eng.z5 fQ (iD 0 0 0 0 0):=fun i=>by
 match i with
 | 0=>rfl
 | 1=>rfl
 | 2=>rfl
 | 3=>rfl
 | 4=>rfl
 | _+5=>rfl
theorem d7r:Eng.tX (Eng.xsT (Eng.kx 0 []) (Eng.kx 0 [])) fQ (lV 0 0 0 0 0):=fun i=>by
 match i with
 | 0=>rfl
 | 1=>rfl
 | 2=>rfl
 | 3=>rfl
 | 4=>rfl
 | _+5=>rfl
theorem d3a (h:(cD b vr).P w F) (hb:b≤w.heap.size):Calls Tryz.prog 109 #[vr] w fun e w'=>∃ vx F1 F2,e = .returned (.tuple #[vx,.int .i64 0])∧(∃ g,vx = .pointer (some ⟨g,0,none⟩))∧(cD b vr).P w' F1∧(fV b vr vx 0).P w' F2∧(∀ x,F1 x→¬ F2 x)∧cJ F w w'∧tF F w F1∧tF F w F2:=by
 have N:@Eng.sL (Eng.cA b fQ (fun _ _=>[])) Tryz.prog (EB []):=@Eng.a2a (Eng.cA b fQ (fun _ _=>[])) [] (fun i p q=>by cases i<;>cases q);refine(Eng.yN (st:=fun _ _=>[]) (gs:=[]) (us:=[vr]) N Eng.e2d (by omega) rfl hb (Eng.cW.one.2 h) (fun G hG=>⟨rfl,@Eng.cZ (bQ b fQ) _ _ _ (rL hG),trivial⟩)).mono ?_;rintro e w' ⟨u,U,G,rfl,V,k2,-,W,kx,X,G0,Y,Z⟩;have I:=@Eng.cT (bQ b fQ) _ _ Y _ _ Z;obtain⟨us,f,rfl⟩:=aB.1 (show Option.map _ (@Eng.uQ (bQ b fQ) G _)=_ from V);obtain⟨x2,o⟩:=kx ⟨[0,1,26,25,17,11,96],Eng.gJ (Eng.xsT (Eng.kx 0 []) (Eng.kx 0 [])) (Eng.pH Eng.tY Eng.xL0),7,Eng.rT,[.ptr 1 0,.ptr 26 0,.ptr 96 0]⟩ (by simp) 2 _ rfl trivial;obtain⟨c,r⟩:=kx ⟨[0,96,95,1,87,86,78,72,94,92,69,68,2],Eng.gJ Eng.z5 (Eng.fF .S0),13,Eng.rX,[.ptr 96 0,.ptr 95 0,.ptr 87 0]⟩ (by simp) 1 _ rfl trivial;obtain⟨j,s⟩:=kx ⟨[0,96,95,1,87,86,78,72,94,92,69,68,2],Eng.gJ Eng.z5 (Eng.fF .S0),13,Eng.rX,[.ptr 96 0,.ptr 95 0,.ptr 87 0]⟩ (by simp) 4 _ rfl trivial;obtain⟨a,t⟩:=kx ⟨[0,95],Eng.yK,2,[.ptr 1 0],[.ptr 95 0]⟩ (by simp) 1 _ rfl trivial;have o:G 26=some x2:=o;have r:G 96=some c:=r;have s:G 87=some j:=s;have t:G 95=some a:=t;have d2:@Eng.dn (bQ b fQ) G (.ptr 26 0)=some (.pointer (some ⟨x2.g,0,none⟩)):=by show Option.map _ (G 26)=_;rw[o];rfl
 have J:@Eng.dn (bQ b fQ) G (.ptr 96 0)=some (.pointer (some ⟨c.g,0,none⟩)):=by show Option.map _ (G 96)=_;rw[r];rfl
 have O:@Eng.dn (bQ b fQ) G (.ptr 87 0)=some (.pointer (some ⟨j.g,0,none⟩)):=by show Option.map _ (G 87)=_;rw[s];rfl
 have K:@Eng.dn (bQ b fQ) G (.ptr 95 0)=some (.pointer (some ⟨a.g,0,none⟩)):=by show Option.map _ (G 95)=_;rw[t];rfl
 have d:us=[.pointer (some ⟨x2.g,0,none⟩),.int .i64 0]:=by
  have:@Eng.uQ (bQ b fQ) G [.ptr 26 0,.int .i64 0]=some [.pointer (some ⟨x2.g,0,none⟩),.int .i64 0]:=by
   simp only[Eng.uQ,@Eng.oY (bQ b fQ) _ _ _ d2];rfl
  rw[this] at f;exact(aK f).symm
 obtain⟨F',a1,L⟩:=W [[vr],[vr,.pointer (some ⟨x2.g,0,none⟩),.pointer (some ⟨c.g,0,none⟩)],[.pointer (some ⟨c.g,0,none⟩),.pointer (some ⟨a.g,0,none⟩),.pointer (some ⟨j.g,0,none⟩)],[.pointer (some ⟨a.g,0,none⟩)]]
  ⟨I,(@Eng.bS (bQ b fQ) _ _ _ _).2 ⟨_,_,rL I,a2i d2 J,rfl⟩,(@Eng.bS (bQ b fQ) _ _ _ _).2 ⟨_,_,J,a2i K O,rfl⟩,gN K,trivial⟩
 obtain⟨D1,y,l,D4,p1,p2,p3,p4,⟨z,A,B,C,D,E⟩,M⟩:=rZ a1;obtain⟨gd,e1,e2,e3,m⟩:=d2u p4;have Q:a.g=gd:=by simpa using e1
 subst Q;have R:(a4q b vr (.pointer (some ⟨x2.g,0,none⟩)) (.pointer (some ⟨c.g,0,none⟩)) 0 0).P w' y:=Eng.fH (H:=hT) (rt:=Eng.rT) d7r lI rfl p2;have T:(cY b (iD 0 0 0 0 0) (Eng.fF .S0) 13 Eng.rX [.pointer (some ⟨c.g,0,none⟩),.pointer (some ⟨a.g,0,none⟩),.pointer (some ⟨j.g,0,none⟩)]).P w' l:=Eng.fH (H:=Eng.fF .S0) (rt:=Eng.rX) d7q (nC .S0) rfl p3;have v:(a0j b (.pointer (some ⟨c.g,0,none⟩)) 0).P w' (fun x=>x=a.g∨l x):=⟨⟨[],.S,0⟩,⟨⟨by simp,.inl rfl⟩,trivial,rfl⟩,a.g,_,l,e2,⟨.S0,trivial,T⟩,e3,fun q=>E _ q m,fun x=>Iff.rfl⟩
 refine⟨_,D1,fun x=>(x=a.g∨l x)∨y x,by rw[d],⟨_,rfl⟩,p1,⟨⟨0,0⟩,rfl,_,_,y,v,R,fun x p q=>?_,fun x=>Iff.rfl⟩,fun x p q=>?_,X,fun x p=>L x ((M x).2 (.inl p)),fun x p=>L x ((M x).2 ?_)⟩
 ·rcases p with rfl|p
  ·exact D _ q m
  ·exact C x q p
 ·rcases q with(rfl|q)|q
  ·exact B _ p m
  ·exact A x p q
  ·exact z x p q
 ·rcases p with(rfl|p)|p
  ·exact .inr (.inr (.inr m))
  ·exact .inr (.inr (.inl p))
  ·exact .inr (.inl p)
def d3b (b:Nat) (hl:List UInt8) (md:Md) (pl:Nat):Nat→List Value→List (cR b)
 | 0,[v]=>[vL b v hl md pl]
 | 1,[v,h,l]=>[vL b v hl md pl,d2v b h l hl md]
 | _,_=>[Eng.dQ False]
theorem b4f {b:Nat} {w:World} {F:Nat→Prop} {held ls:Value} {hl:List UInt8} {md:Md} (h:(d2v b held ls hl md).P w F):held.oneCell'=true∧ls.oneCell'=true:=by
 obtain⟨f,g,a,c,i,j⟩:=h;refine⟨wW a.1,?_⟩;obtain⟨G,l,m,d,o⟩:=c;obtain⟨x,_,rfl⟩:=aB.1 (show (G 1).map _=some ls from rL d);rfl
theorem d7s {hl:List UInt8} {md:Md} {pl:Nat} {q e:Int} (hh:qK hl) (hm:md.ok pl) (hp:pl≤190):Eng.d0t.Ok Tryz.prog (lV line n pl q e) (d3b b hl md pl):=by
 intro w j p l F g f r s;have f:dN (d3b b hl md pl 0 j) w l:=f
 match j,f,g with
 | [v],f,g =>
  have o:=f.at_ 0 _ rfl
  match p,g with
  | [u0],⟨a,_⟩ =>
   have a:some v=some u0:=a;cases a;refine(b4b o s hh hm hp).mono ?_;rintro I J ⟨c,i,t,u,rfl,y,m,z,A,B,C⟩;have d:∀ x,l 0 x→F x:=fun x q=>(r x).2 ⟨0,q⟩
   obtain⟨D,E⟩:=b4f m;refine⟨_,[c,i],[v,c,i],fun x=>t x∨u x,rfl,⟨D,E,trivial⟩,⟨[c,.int .i64 (pl:Int),i],rfl,rfl,?_,rfl,trivial⟩,⟨rfl,rfl,rfl,trivial⟩,eY y m z (fun _=>Iff.rfl),jP A d,fun x G=>G.elim (fun q=>(B x q).imp (d x) id) fun q=>(C x q).imp (d x) id⟩;show some (Value.int .i64 (0+(1*(pl:Int)+0)))=_;rw[show (0+(1*(pl:Int)+0))=(pl:Int) by omega]
  | [],h=>exact h.elim
  | _::_::_,h=>exact h.2.elim
 | [],h,_=>exact(cL h).elim
 | _::_::_,h,_=>exact(cL h).elim
theorem vM {at_:Nat} (h:(fV b vr vx at_).P w F) (hb:b≤w.heap.size) (hl:at_≤150) :
  Calls Tryz.prog 47 #[vx] w fun e w'=>∃ lv pv held ls F1 F2,e = .returned (.agg (yR at_ lv pv held ls).toArray)∧(fV b vr vx at_).P w' F1∧(mD b at_ lv pv held ls).P w' F2∧(∀ x,F1 x→¬ F2 x)∧cJ F w w'∧tF F w F1∧tF F w F2:=by
 obtain⟨⟨a,n⟩,i,vs,F1,F2,⟨⟨c,d,pl⟩,⟨l,m,A⟩,B⟩,C,U,V⟩:=h;dsimp only at i C l m A B;have L:=b8w C pl 0 0;have f:@Eng.BD (bQ b (lV a n pl 0 0)) (Eng.lH (0,300)):=b8x (by omega) (by omega) (by omega) (by omega) (by omega);have g:=a3p (k:=0) (st:=d3b b c d pl) (vs:=vs) rfl B L U V;have M:@Eng.sL (Eng.cA b (lV a n pl 0 0) (d3b b c d pl)) Tryz.prog (Eng.oL (Eng.lH (0,300)) (Eng.hks (Eng.lH (0,300)) [Eng.d0t])):=@Eng.kE (Eng.cA b (lV a n pl 0 0) (d3b b c d pl)) (Eng.lH (0,300)) f _ (Eng.lG f (by
  intro T hT;rw[List.mem_singleton.1 hT];exact d7s l m (by omega)))
 refine(Eng.iT (us:=[vx]) M Eng.e7f (by omega) rfl hb g (fun G K=>⟨gN (dW K).2.2,@Eng.cZ (bQ b _) _ _ _ (dW K).2.1,trivial⟩)).mono ?_;rintro e w' ⟨u,W,G,rfl,j,X,⟨F0,k3⟩,Y,Z,G0,k6,k7⟩;have z:=@Eng.cT (bQ b (lV a n pl 0 0)) _ _ k6 _ _ k7;obtain⟨t1,t2,t3⟩:=dW z;obtain⟨a1,r,D,a2,rfl⟩:=(@Eng.bS (bQ b (lV a n pl 0 0)) _ _ _ _).1 X;obtain⟨held,r,a3,a4,rfl⟩:=(@Eng.bS (bQ b (lV a n pl 0 0)) _ _ _ _).1 a2;obtain⟨ls,r,a5,a6,rfl⟩:=(@Eng.bS (bQ b (lV a n pl 0 0)) _ _ _ _).1 a4;cases a6;rw[t3] at D;cases D;obtain⟨F',o,E⟩:=Y [[vr,vx,vs]] ⟨z,trivial⟩;have o:cW [vL b vs c d pl,d2v b held ls c d,cY b (lV a n pl 0 0) hT 7 Eng.rT [vr,vx,vs]] w' F':=o;obtain⟨I,D2,s,p1,p2,p3,t,v,y,J⟩:=iJ o;have N:(a4q b vr vx vs a n).P w' s:=Eng.fH (σ:=Eng.xsT (Eng.kx 0 [(0,1)]) (Eng.kx 0 [(1,1)])) (H:=hT) (rt:=Eng.rT) (c2f vT0 (by rw[vT1];omega)) lI rfl p3;have O:u = .agg (yR at_ (.int .i64 (a:Int)) (.int .i64 (pl:Int)) held ls).toArray:=by
  have j:Option.map (fun us=>Value.agg us.toArray) (@Eng.dG (bQ b (lV a n pl 0 0)) G (Eng.svX Eng.tY Eng.xL0 (.opq 10) (Eng.l6 0 [(2,1)]) (.opq 11)))=some u:=j;have Q:@Eng.dn (bQ b (lV a n pl 0 0)) G Eng.xL0=some (.int .i64 (a:Int)):=by
   show some (Value.int .i64 (0+(1*(a:Int)+0)))=_;congr 2;omega
  have R:@Eng.dn (bQ b (lV a n pl 0 0)) G Eng.tY=some (.int .i64 (at_:Int)):=by
   show some (Value.int .i64 (0+(1*(a:Int)+(1*(n:Int)+0))))=_;congr 2;omega
  have S:@Eng.dn (bQ b (lV a n pl 0 0)) G (Eng.l6 0 [(2,1)])=some (.int .i64 (pl:Int)):=by
   show some (Value.int .i64 (0+(1*(pl:Int)+0)))=_;congr 2;omega
  simp only[Eng.svX,Eng.dG,Q,R,S,a3,a5] at j;exact(aK j).symm
 exact⟨_,_,held,ls,fun x=>I x∨s x,D2,by rw[O],⟨⟨a,n⟩,i,vs,I,s,⟨⟨c,d,pl⟩,⟨l,m,A⟩,p1⟩,N,v,fun _=>Iff.rfl⟩,⟨⟨a,c,d,pl⟩,⟨rfl,rfl,l,m,by dsimp only;omega⟩,p2⟩,fun x p q=>p.elim (fun p=>t x p q) fun p=>y x q p,Z,fun x p=>E x ((J x).2 (p.elim .inl fun q => .inr (.inr q))),fun x p=>E x ((J x).2 (.inr (.inl p)))⟩
end
def iW (x0 q a line j:Nat) (hd hs ino:Int):Nat→Int
 | 0=>x0
 | 1=>q
 | 2=>a
 | 3=>line
 | 4=>j
 | 5=>hd
 | 6=>hs
 | 7=>ino
 | _=>0
def c6c (b:Nat) (hl:List UInt8):Nat→List Value→List (cR b)
 | 0,[h]=>[jC b h hl]
 | 1,[h,_]=>[jC b h hl]
 | 2,[h,_,d]=>[jC b h hl,uB b d hl]
 | _,_=>[Eng.dQ False]
section
variable {b : Nat} {w : World} {F : Nat → Prop} {vr vx : Value}
structure b4g (k:iV) (md:Md) (pl x0 q a:Nat):Prop where
 hm:k.mk=md.k
 h0:∀ line j hd hs ino,@Eng.eK.val (bQ 0 (iW x0 q a line j hd hs ino)) (Eng.kx 0 k.pl)=pl
 hp:∀ line j hd hs ino,Eng.tX k.sb (iW x0 q a line j hd hs ino) (iD pl md.q md.e 0 0)
 bd:x0≤200∧q≤200∧a≤200∧∀ line j,line≤300→j≤3→∀ b hd hs ino,@Eng.BD (bQ b (iW x0 q a line j hd hs ino)) k.bd
theorem e9i {k:iV} {md:Md} {pl x0 q a:Nat} (line j:Nat) (hd hs ino:Int) (h:b4g k md pl x0 q a):@Eng.eK.val (bQ 0 (iW x0 q a line j hd hs ino)) ⟨0,k.pl++[(3,1),(4,1)]⟩=((line+(pl+j):Nat):Int):=by
 have:=h.h0 line j hd hs ino;cases k with
 | S=>have this:(0:Int)+(1*(x0:Int)+0)=pl:=this;show (0:Int)+(1*(x0:Int)+(1*(line:Int)+(1*(j:Int)+0)))=_;omega
 | H=>have this:(0:Int)+(1*(q:Int)+(1*(a:Int)+0))=pl:=this;show (0:Int)+(1*(q:Int)+(1*(a:Int)+(1*(line:Int)+(1*(j:Int)+0))))=_;omega
 | D=>have this:(0:Int)+(1*(x0:Int)+(1*(q:Int)+(1*(a:Int)+0)))=pl:=this;show (0:Int)+(1*(x0:Int)+(1*(q:Int)+(1*(a:Int)+(1*(line:Int)+(1*(j:Int)+0)))))=_;omega
 | E=>have this:(0:Int)+(1*(x0:Int)+(1*(q:Int)+(1*(a:Int)+0)))=pl:=this;show (0:Int)+(1*(x0:Int)+(1*(q:Int)+(1*(a:Int)+(1*(line:Int)+(1*(j:Int)+0)))))=_;omega
theorem d7t {b x0 q a line j:Nat} {hd hs ino:Int} {l0 u0 l1 u1 l2 u2:Int} (h0:l0≤x0∧x0≤u0) (h1:l1≤q∧q≤u1) (h2:l2≤a∧a≤u2) (h3:line≤300) (h4:j≤3):@Eng.BD (bQ b (iW x0 q a line j hd hs ino)) [(l0,u0),(l1,u1),(l2,u2),(0,300),(0,3)]:=by
 intro i p h
 match i with
 | 0=>cases h;exact h0
 | 1=>cases h;exact h1
 | 2=>cases h;exact h2
 | 3=>cases h;exact⟨by show (0:Int)≤(line:Int);omega,by show (line:Int)≤300;omega⟩
 | 4=>cases h;exact⟨by show (0:Int)≤(j:Int);omega,by show (j:Int)≤3;omega⟩
 | _+5=>cases h
theorem f1z {pl:Nat} (h:pl≤110):b4g .S .S pl pl 0 0 where
 hm:=rfl
 h0:=fun a j hd hs c=>by show (0:Int)+(1*(pl:Int)+0)=pl;omega
 hp:=fun a j hd hs c i=>by
  match i with
  | 0=>show (pl:Int)=0+(1*(pl:Int)+0);omega
  | 1=>rfl
  | 2=>rfl
  | 3=>rfl
  | 4=>rfl
  | 5=>rfl
  | 6=>rfl
  | 7=>rfl
  | _+8=>rfl
 bd:=⟨by omega,by omega,by omega,fun a j d f b hd hs c=>d7t (by omega) (by omega) (by omega) d f⟩
theorem f2a {q a:Nat} (h1:q≤110) (h2:1≤a∧a≤4):b4g .H (.H q) (q+a) 0 q a where
 hm:=rfl
 h0:=fun c j hd hs d=>by show (0:Int)+(1*(q:Int)+(1*(a:Int)+0))=_;omega
 hp:=fun c j hd hs d i=>by
  match i with
  | 0=>show ((q+a:Nat):Int)=0+(1*(q:Int)+(1*(a:Int)+0));omega
  | 1=>show (q:Int)=0+(1*(q:Int)+0);omega
  | 2=>rfl
  | 3=>rfl
  | 4=>rfl
  | 5=>rfl
  | 6=>rfl
  | 7=>rfl
  | _+8=>rfl
 bd:=⟨by omega,by omega,by omega,fun c j f g b hd hs d=>d7t (by omega) (by omega) (by omega) f g⟩
theorem e0j {k:iV} (hk:k = .D∨k = .E) {c q a:Nat} (h:(k = .D→c≤60∧q≤110)∧(k = .E→c≤110∧q≤60)) (h2:1≤a∧a≤4):b4g k (.D q (q+a)) (c+q+a) c q a:=by
 have key:∀ (d j:Nat) (hd hs f:Int) (i:Nat),iD (c+q+a) q (q+a) 0 0 i=match Eng.bT iV.D.sb i with
   | some e=>@Eng.eK.val (bQ 0 (iW c q a d j hd hs f)) e
   | none=>iW c q a d j hd hs f i:=fun d j hd hs f i=>by
  match i with
  | 0=>show ((c+q+a:Nat):Int)=0+(1*(c:Int)+(1*(q:Int)+(1*(a:Int)+0)));omega
  | 1=>show (q:Int)=0+(1*(q:Int)+0);omega
  | 2=>show ((q+a:Nat):Int)=0+(1*(q:Int)+(1*(a:Int)+0));omega
  | 3=>rfl
  | 4=>rfl
  | 5=>rfl
  | 6=>rfl
  | 7=>rfl
  | _+8=>rfl
 have m:∀ (d j:Nat) (hd hs f:Int),@Eng.eK.val (bQ 0 (iW c q a d j hd hs f)) (Eng.kx 0 iV.D.pl)=((c+q+a:Nat):Int):=fun d j hd hs f=>by
  show (0:Int)+(1*(c:Int)+(1*(q:Int)+(1*(a:Int)+0)))=_;omega
 rcases hk with rfl|rfl
 ·have h:=h.1 rfl;exact⟨rfl,m,key,by omega,by omega,by omega,fun d j g l b hd hs f=>d7t (by omega) (by omega) (by omega) g l⟩
 ·have h:=h.2 rfl;exact⟨rfl,m,key,by omega,by omega,by omega,fun d j g l b hd hs f=>d7t (by omega) (by omega) (by omega) g l⟩
theorem d3c {md:Md} {pl:Nat} (hm:md.ok pl) (hp:pl≤110) {P:iV→Prop} (h:P .S∧P .H∧P .D∧P .E):∃ k x0 q a,b4g k md pl x0 q a∧P k:=by
 cases md with
 | S=>exact⟨.S,pl,0,0,f1z hp,h.1⟩
 | H q =>
  have hm:q < pl∧pl≤q+4:=hm;have:=f2a (q:=q) (a:=pl-q) (by omega) (by omega);rw[show q+(pl-q)=pl by omega] at this;exact⟨.H,0,q,pl-q,this,h.2.1⟩
 | D q e =>
  have hm:q < e∧e≤q+4∧e≤pl:=hm;rcases Nat.lt_or_ge 60 (pl-e) with c|c
  ·have:=e0j (k := .E) (.inr rfl) (c:=pl-e) (q:=q) (a:=e-q) ⟨fun x=>(by cases x),fun _=>by omega⟩ (by omega);rw[show pl-e+q+(e-q)=pl by omega,show q+(e-q)=e by omega] at this;exact⟨.E,_,_,_,this,h.2.2.2⟩
  ·have:=e0j (k := .D) (.inl rfl) (c:=pl-e) (q:=q) (a:=e-q) ⟨fun _=>by omega,fun x=>(by cases x)⟩ (by omega);rw[show pl-e+q+(e-q)=pl by omega,show q+(e-q)=e by omega] at this;exact⟨.D,_,_,_,this,h.2.2.1⟩
theorem e0k {ls:Value} {md:Md} {k:iV} {pl x0 q a line j:Nat} {hd hs ino:Int} (hk:b4g k md pl x0 q a) (h:(lsT b ls md).P w F):(cY b (iW x0 q a line j hd hs ino) (Eng.gJ k.sb (Eng.vG k.mk)) 3 [.slc 1 0 1] [ls]).P w F:=by
 have c:=Eng.iY (b8u (pl:=pl) (j:=0)) (sB _) rfl h;rw[e3r] at c;rw[hk.hm];exact Eng.iY (hk.hp line j hd hs ino) (sB _) rfl c
theorem e0l {ls:Value} {md:Md} {k:iV} {pl x0 q a line j:Nat} {hd hs ino:Int} (hk:b4g k md pl x0 q a) (h:(cY b (iW x0 q a line j hd hs ino) (Eng.gJ k.sb (Eng.vG k.mk)) 3 [.slc 1 0 1] [ls]).P w F):(lsT b ls md).P w F:=by
 rw[hk.hm] at h;have c:=Eng.fH (H:=Eng.vG md.k) (rt:=[.slc 1 0 1]) (hk.hp line j hd hs ino) (sB _) rfl h;exact Eng.fH (H:=Eng.vG md.k) (rt:=[.slc 1 0 1]) (b8u (pl:=pl) (j:=0)) (sB _) rfl (by rw[e3r];exact c)
theorem e0m {k:iV} {md:Md} {pl x0 q a line j:Nat} {hd hs ino:Int} {held ls:Value} {G:Eng.GM} (hk:b4g k md pl x0 q a) (h1:@Eng.dn (bQ b (iW x0 q a line j hd hs ino)) G Eng.hdX=some held) (h2:@Eng.dn (bQ b (iW x0 q a line j hd hs ino)) G (.slc 9 0 1)=some ls):@Eng.dG (bQ b (iW x0 q a line j hd hs ino)) G (Eng.svK k)=some (yR (line+(pl+j)) (.int .i64 (line:Int)) (.int .i64 (pl:Int)) held ls):=by
 have c:@Eng.dn (bQ b (iW x0 q a line j hd hs ino)) G (Eng.a8n k)=some (.int .i64 ((line+(pl+j):Nat):Int)):=by
  show some (Value.int .i64 (@Eng.eK.val (bQ b (iW x0 q a line j hd hs ino)) ⟨0,k.pl++[(3,1),(4,1)]⟩))=_;rw[Eng.c0p,e9i line j hd hs ino hk]
 have d:@Eng.dn (bQ b (iW x0 q a line j hd hs ino)) G (Eng.l64 [(3,1)])=some (.int .i64 (line:Int)):=by
  show some (Value.int .i64 (0+(1*(line:Int)+0)))=_;congr 2;omega
 have f:@Eng.dn (bQ b (iW x0 q a line j hd hs ino)) G (Eng.l64 k.pl)=some (.int .i64 (pl:Int)):=by
  show some (Value.int .i64 (@Eng.eK.val (bQ b (iW x0 q a line j hd hs ino)) (Eng.kx 0 k.pl)))=_;rw[Eng.c0p,hk.h0 line j hd hs ino]
 simp only[Eng.svK,Eng.svX,Eng.dG,c,d,f,h1,h2];rfl
theorem d3d {hl:List UInt8} {k:Nat} {gs:List Value} {w:World} {fs:Nat→Nat→Prop} (h:dN (c6c b hl k gs) w fs):(k=0∧∃ h,gs=[h])∨(k=1∧∃ h d,gs=[h,d])∨(k=2∧∃ h c d,gs=[h,c,d]):=by
 match k,gs,h with
 | 0,[v],_=>exact .inl ⟨rfl,v,rfl⟩
 | 1,[v,d],_=>exact .inr (.inl ⟨rfl,v,d,rfl⟩)
 | 2,[v,c,d],_=>exact .inr (.inr ⟨rfl,v,c,d,rfl⟩)
 | 0,[],h=>exact(cL h).elim
 | 0,_::_::_,h=>exact(cL h).elim
 | 1,[],h=>exact(cL h).elim
 | 1,[_],h=>exact(cL h).elim
 | 1,_::_::_::_,h=>exact(cL h).elim
 | 2,[],h=>exact(cL h).elim
 | 2,[_],h=>exact(cL h).elim
 | 2,[_,_],h=>exact(cL h).elim
 | 2,_::_::_::_::_,h=>exact(cL h).elim
 | _+3,_,h=>exact(cL h).elim
theorem d3e {ν:Nat→Int} {hl:List UInt8} (hh:qK hl) (k:Nat) (hk:k≤1):(Eng.pI k).Ok Tryz.prog ν (c6c b hl):=by
 intro w B r i F s f C D;have f:dN (c6c b hl k B) w i:=f;have d:∀ (v u0:Value),(jC b v hl).P w (i 0)→v=u0→Calls Tryz.prog 141 #[u0] w fun e j=>∃ g,e = .returned (.tuple #[.pointer (some ⟨g,0,none⟩),.int .i64 0])∧(jC b v hl).P j (i 0)∧(uB b (.pointer (some ⟨g,0,none⟩)) hl).P j (fun x=>x=g)∧w.heap.size≤g∧cJ F w j:=by
  rintro v u0 ⟨t,E⟩ rfl;refine(yL w v hl t.rd (by have:=hh.1;omega) hh.2).mono ?_;rintro e j ⟨g,rfl,u,G,y⟩;exact⟨g,rfl,(jC b v hl).up ⟨t,E⟩ (uL y) (fun _ _ q=>q) (fun _ q=>q.elim),⟨g,rfl,G,aL D u,fun _=>Iff.rfl⟩,u,a9d y⟩
 have l:∀ x,i 0 x→F x:=fun x q=>(C x).2 ⟨0,q⟩
 rcases d3d f with⟨rfl,v,rfl⟩|⟨rfl,v,c,rfl⟩|⟨rfl,_⟩
 ·match r,s with
  | [u0],⟨a,_⟩ =>
   have a:some v=some u0:=a;cases a;refine(d v v (f.at_ 0 _ rfl) rfl).mono ?_;rintro e j ⟨g,rfl,m,z,A,o⟩;exact⟨_,[.pointer (some ⟨g,0,none⟩)],[v,.pointer (some ⟨g,0,none⟩)],i 0,rfl,⟨⟨g,rfl⟩,trivial⟩,⟨_,rfl,rfl,rfl,trivial⟩,⟨rfl,rfl,trivial⟩,cC.2 m,o,fun x q => .inl (l x q)⟩
  | [],h=>exact h.elim
  | _::_::_,h=>exact h.2.elim
 ·match r,s with
  | [u0],⟨a,_⟩ =>
   have a:some v=some u0:=a;cases a;refine(d v v (f.at_ 0 _ rfl) rfl).mono ?_;rintro e j ⟨g,rfl,m,z,A,o⟩;exact⟨_,[.pointer (some ⟨g,0,none⟩)],[v,c,.pointer (some ⟨g,0,none⟩)],fun x=>i 0 x∨x=g,rfl,⟨⟨g,rfl⟩,trivial⟩,⟨_,rfl,rfl,rfl,trivial⟩,⟨rfl,rfl,rfl,trivial⟩,eY m z (fun x p q=>by subst q;have:=(f.lt 0 x p).2;omega) (fun _=>Iff.rfl),o,fun x q=>q.elim (fun q => .inl (l x q)) fun q => .inr (by rw[q];exact A)⟩
  | [],h=>exact h.elim
  | _::_::_,h=>exact h.2.elim
 ·omega
def e9j (b:Nat) (vr:Value) (at_:Nat) (lv pv held ls:Value) (w:World) (F:Nat→Prop) (e:Ending) (w':World):Prop :=
 ∃ vx F1 F3 F4,e = .returned (.tuple #[vx,.int .i64 0])∧(∃ g,vx = .pointer (some ⟨g,0,none⟩))∧(cD b vr).P w' F1∧(mD b at_ lv pv held ls).P w' F3∧(fV b vr vx at_).P w' F4∧(∀ x,F1 x→¬ F3 x)∧(∀ x,F1 x→¬ F4 x)∧(∀ x,F3 x→¬ F4 x)∧cJ F w w'∧tF F w F1∧tF F w F3∧tF F w F4
def ofP (k:iV):Prop:=∃ (X Y Z V U:Nat) (r1 r2:List Nat),Eng.eX (Eng.call (Eng.oL k.bd (Eng.hks k.bd [Eng.pI 0,Eng.pI 1])) 300 46 [.ptr 1 0,.agg (Eng.svK k)] ⟨[],(0,.gho 0 [Eng.hdX])::Eng.ofH k,12,[],[]⟩) (.tup [.ptr X 0,.int .i64 0]) 2 [Eng.hdX,.ptr U 0,.ptr Z 0]
 [⟨List.range 8,Eng.wO,8,[.ptr 1 0],[.ptr 1 0]⟩,⟨[0,9,10],Eng.gJ k.sb (Eng.vG k.mk),3,[.slc 1 0 1],[.slc 9 0 1]⟩,⟨r1,Eng.pH (Eng.a8n k) (Eng.l64 [(3,1)]),7,Eng.rT,[.ptr 1 0,.ptr X 0,.ptr Y 0]⟩,⟨r2,Eng.gJ k.sb (Eng.fF k.mk.x2),13,Eng.rX,[.ptr Y 0,.ptr Z 0,.ptr V 0]⟩]=true ∧
 Eng.bT r1 2=some X∧Eng.bT r2 1=some Y∧Eng.bT r2 4=some V
theorem d7u:ofP .S∧ofP .H∧ofP .D∧ofP .E:=⟨⟨_,_,_,_,_,_,_,Eng.f1i,rfl,rfl,rfl⟩,⟨_,_,_,_,_,_,_,Eng.f1j,rfl,rfl,rfl⟩,⟨_,_,_,_,_,_,_,Eng.f1k,rfl,rfl,rfl⟩,⟨_,_,_,_,_,_,_,Eng.f1l,rfl,rfl,rfl⟩⟩
theorem e9k {md:Md} {k:iV} (h:k.mk=md.k):c4f md k.mk.x2:=by
 rw[h];cases md<;>trivial
theorem c2h {at_:Nat} {lv pv held ls:Value} {F2 F3:Nat→Prop} (h:(cD b vr).P w F2) (hs:(mD b at_ lv pv held ls).P w F3) (hd:∀ x,F2 x→¬ F3 x) (hF:∀ x,F x↔F2 x∨F3 x) (hb:b≤w.heap.size) (hl:at_≤110) :
  Calls Tryz.prog 46 #[vr,.agg (yR at_ lv pv held ls).toArray] w (e9j b vr at_ lv pv held ls w F):=by
 obtain⟨⟨line,d,md,pl⟩,⟨rfl,rfl,L,g2,g3⟩,A1,A2,s1,s2,s3,s4⟩:=hs;dsimp only at L g2 g3 s1 s2 ⊢;have hj:=L.1;obtain⟨k,f,q,a,B,X,Y,Z,V,U,r1,r2,ht,hX,hY,hV⟩:=d3c g2 (by omega) d7u;have O:@Eng.BD (bQ b (iW f q a line d.length 0 0 0)) k.bd:=B.bd.2.2.2 line _ (by omega) hj b 0 0 0;have e1:(cY b (iW f q a line d.length 0 0 0) Eng.wO 8 [.ptr 1 0] [vr]).P w F2:=Eng.iY (σ:=[]) (H:=Eng.wO) (rt:=[.ptr 1 0]) (ν':=iW f q a line d.length 0 0 0) (ν:=iW f q a line d.length 0 0 0) (fun i=>rfl) rfl rfl (Eng.iY (σ:=List.replicate 8 (Eng.kx 0 [])) (H:=Eng.wO) (rt:=[.ptr 1 0]) (fun i=>by
  match i with
  | 0=>rfl
  | 1=>rfl
  | 2=>rfl
  | 3=>rfl
  | 4=>rfl
  | 5=>rfl
  | 6=>rfl
  | 7=>rfl
  | _+8=>rfl) rfl rfl h)
 have e2:=e0k (line:=line) (j:=d.length) (hd:=0) (hs:=0) (ino:=0) B s2;have a8:=Eng.yI e1 e2 (fun x p q=>hd x p ((s4 x).2 (.inr q))) rfl (by cases k<;>rfl) (by cases k<;>rfl) hb;obtain⟨M,l,rfl⟩:∃ M l,held = .slice M d.length l:=by
  obtain⟨a0,l,rfl,-⟩:=s1.1.rd;exact⟨a0,l,rfl⟩
 have a9:=b4e (a:=M) (m:=d.length) (c:=l) (e:=⟨0,[(4,1)]⟩) a8 (by show (d.length:Int)=0+(1*(d.length:Int)+0);omega);have Q:cW (c6c b d 0 [.slice M d.length l]++[cY b (iW f q a line d.length 0 0 0) (Eng.ofH k) 12 [.ptr 1 0,.slc 9 0 1,Eng.hdX] [vr,ls,.slice M d.length l]]) w F :=
  eY s1 a9 (fun x p q=>q.elim (fun q=>hd x q ((s4 x).2 (.inl p))) fun q=>s3 x p q) (fun x=>by rw[hF,s4];exact⟨fun h=>h.elim (fun q => .inr (.inl q)) fun h=>h.elim .inl fun q => .inr (.inr q),fun h=>h.elim (fun q => .inr (.inl q)) fun h=>h.elim .inl fun q => .inr (.inr q)⟩)
 have hE:@Eng.sL (Eng.cA b (iW f q a line d.length 0 0 0) (c6c b d)) Tryz.prog (Eng.oL k.bd (Eng.hks k.bd [Eng.pI 0,Eng.pI 1])):=@Eng.kE (Eng.cA b (iW f q a line d.length 0 0 0) (c6c b d)) k.bd O _ (Eng.lG O (by
  intro T hT;simp only[aG,bF,or_false] at hT;rcases hT with rfl|rfl
  ·exact d3e L 0 (by omega)
  ·exact d3e L 1 (by omega)))
 have h0:Eng.cK (Eng.ofH k) 0=none:=by cases k<;>rfl
 refine(Eng.yN (us:=[vr,.agg (yR at_ _ _ _ ls).toArray]) hE ht (by omega) h0 hb Q (fun G hG=>?_)).mono ?_
 ·obtain⟨t1,t2,t3⟩:=dW hG;refine⟨gN t3,@Eng.cZ (bQ b _) _ _ _ t1,?_,trivial⟩;have:=e0m B t3 t2;rw[g3] at this;show Option.map (fun us=>Value.agg us.toArray) (@Eng.dG (bQ b (iW f q a line d.length 0 0 0)) G (Eng.svK k))=_;rw[this];rfl
 ·rintro e w' ⟨u,c6,G,rfl,k1,k2,-,k4,kx,k5,G0,k6,k7⟩;have rr:=@Eng.cT (bQ b (iW f q a line d.length 0 0 0)) _ _ k6 _ _ k7;obtain⟨t1,t2,t3⟩:=dW rr;obtain⟨v1,r,a1,a2,rfl⟩:=(@Eng.bS (bQ b (iW f q a line d.length 0 0 0)) _ _ _ _).1 k2;obtain⟨v2,r,a3,a4,rfl⟩:=(@Eng.bS (bQ b (iW f q a line d.length 0 0 0)) _ _ _ _).1 a2;obtain⟨v3,r,a5,a6,rfl⟩:=(@Eng.bS (bQ b (iW f q a line d.length 0 0 0)) _ _ _ _).1 a4;cases a6;rw[t3] at a1;cases a1;obtain⟨C,I⟩:=kx ⟨r1,Eng.pH (Eng.a8n k) (Eng.l64 [(3,1)]),7,Eng.rT,[.ptr 1 0,.ptr X 0,.ptr Y 0]⟩ (by simp) 2 _ rfl trivial;obtain⟨z,J⟩:=kx ⟨r2,Eng.gJ k.sb (Eng.fF k.mk.x2),13,Eng.rX,[.ptr Y 0,.ptr Z 0,.ptr V 0]⟩ (by simp) 1 (.row 298 [.ptr 2 0,.ptr 4 0]) (by cases k<;>rfl) trivial;have b0:∃ cs,Eng.cK (Eng.gJ k.sb (Eng.fF k.mk.x2)) 4=some (.row 373 cs):=by cases k<;>exact⟨_,rfl⟩
  obtain⟨cs,b4⟩:=b0;obtain⟨s,K⟩:=kx ⟨r2,Eng.gJ k.sb (Eng.fF k.mk.x2),13,Eng.rX,[.ptr Y 0,.ptr Z 0,.ptr V 0]⟩ (by simp) 4 (.row 373 cs) b4 trivial;have I:(Eng.bT r1 2).bind G=some C:=I;have J:(Eng.bT r2 1).bind G=some z:=J;have K:(Eng.bT r2 4).bind G=some s:=K;rw[hX] at I;rw[hY] at J;rw[hV] at K;have I:G X=some C:=I;have J:G Y=some z:=J;have K:G V=some s:=K;have d2:@Eng.dn (bQ b (iW f q a line d.length 0 0 0)) G (.ptr X 0)=some (.pointer (some ⟨C.g,0,none⟩)):=by show Option.map _ (G X)=_;rw[I];rfl
  have d3:@Eng.dn (bQ b (iW f q a line d.length 0 0 0)) G (.ptr Y 0)=some (.pointer (some ⟨z.g,0,none⟩)):=by show Option.map _ (G Y)=_;rw[J];rfl
  have d4:@Eng.dn (bQ b (iW f q a line d.length 0 0 0)) G (.ptr V 0)=some (.pointer (some ⟨s.g,0,none⟩)):=by show Option.map _ (G V)=_;rw[K];rfl
  obtain⟨us,a7,rfl⟩:=aB.1 (show Option.map _ (@Eng.uQ (bQ b (iW f q a line d.length 0 0 0)) G _)=_ from k1);have R:us=[.pointer (some ⟨C.g,0,none⟩),.int .i64 0]:=by
   have:@Eng.uQ (bQ b (iW f q a line d.length 0 0 0)) G [.ptr X 0,.int .i64 0]=some [.pointer (some ⟨C.g,0,none⟩),.int .i64 0]:=by
    simp only[Eng.uQ,@Eng.oY (bQ b (iW f q a line d.length 0 0 0)) _ _ _ d2];rfl
   rw[this] at a7;exact(aK a7).symm
  obtain⟨F',b1,b2⟩:=k4 [[vr],[ls],[vr,.pointer (some ⟨C.g,0,none⟩),.pointer (some ⟨z.g,0,none⟩)],[.pointer (some ⟨z.g,0,none⟩),v3,.pointer (some ⟨s.g,0,none⟩)]]
   ⟨gN t1,gN t2,(@Eng.bS (bQ b _) _ _ _ _).2 ⟨_,_,t1,a2i d2 d3,rfl⟩,(@Eng.bS (bQ b _) _ _ _ _).2 ⟨_,_,d3,a2i a5 d4,rfl⟩,trivial⟩
  obtain⟨S1,S2,c1,c2,c3,c4⟩:=b1.split;have c1:cW [jC b (.slice M d.length l) d,uB b v3 d] w' S1:=c1;obtain⟨B1,B2,i1,i2,i3,t⟩:=iI c1;obtain⟨D1,D2,D3,N,p1,p2,p3,p4,⟨b5,b6,b7,b8,b9,c5⟩,hx⟩:=rZ c2;obtain⟨v,rfl,f2,f3,f4⟩:=i2;have z1:(cD b vr).P w' D1:=Eng.fH (σ:=List.replicate 8 (Eng.kx 0 [])) (H:=Eng.wO) (rt:=[.ptr 1 0]) (fun i=>by
   match i with
   | 0=>rfl
   | 1=>rfl
   | 2=>rfl
   | 3=>rfl
   | 4=>rfl
   | 5=>rfl
   | 6=>rfl
   | 7=>rfl
   | _+8=>rfl) rfl rfl p1
  have z2:=e0l B p2;have z3:(a4q b vr (.pointer (some ⟨C.g,0,none⟩)) (.pointer (some ⟨z.g,0,none⟩)) line (pl+d.length)).P w' D3:=by
   have W:Eng.gJ (Eng.kx 0 [(3,1)]::Eng.kx 0 (k.pl++[(4,1)])::List.replicate 6 (Eng.kx 0 [])) hT=Eng.pH (Eng.a8n k) (Eng.l64 [(3,1)]):=by cases k<;>rfl
   refine Eng.fH (σ:=Eng.kx 0 [(3,1)]::Eng.kx 0 (k.pl++[(4,1)])::List.replicate 6 (Eng.kx 0 [])) (H:=hT) (rt:=Eng.rT) (fun i=>?_) lI rfl (by rw[W];exact p3);have y:=B.h0 line d.length 0 0 0
   match i with
   | 0=>show (line:Int)=0+(1*(line:Int)+0);omega
   | 1 =>
    show ((pl+d.length:Nat):Int)=@Eng.eK.val (bQ 0 (iW f q a line d.length 0 0 0)) (Eng.kx 0 (k.pl++[(4,1)]));clear W p3 c2 b1;cases k with
    | S=>have y:(0:Int)+(1*(f:Int)+0)=pl:=y;show _=(0:Int)+(1*(f:Int)+(1*(d.length:Int)+0));omega
    | H=>have y:(0:Int)+(1*(q:Int)+(1*(a:Int)+0))=pl:=y;show _=(0:Int)+(1*(q:Int)+(1*(a:Int)+(1*(d.length:Int)+0)));omega
    | D=>have y:(0:Int)+(1*(f:Int)+(1*(q:Int)+(1*(a:Int)+0)))=pl:=y;show _=(0:Int)+(1*(f:Int)+(1*(q:Int)+(1*(a:Int)+(1*(d.length:Int)+0))));omega
    | E=>have y:(0:Int)+(1*(f:Int)+(1*(q:Int)+(1*(a:Int)+0)))=pl:=y;show _=(0:Int)+(1*(f:Int)+(1*(q:Int)+(1*(a:Int)+(1*(d.length:Int)+0))));omega
   | 2=>rfl
   | 3=>rfl
   | 4=>rfl
   | 5=>rfl
   | 6=>rfl
   | 7=>rfl
   | _+8=>rfl
  have z4:(cY b (iD pl md.q md.e 0 0) (Eng.fF k.mk.x2) 13 Eng.rX [.pointer (some ⟨z.g,0,none⟩),.pointer (some ⟨v,0,none⟩),.pointer (some ⟨s.g,0,none⟩)]).P w' N:=Eng.fH (H:=Eng.fF k.mk.x2) (rt:=Eng.rX) (B.hp line d.length 0 0 0) (nC _) rfl p4;have o:B2 v:=(f4 v).2 rfl;have b3:(a0j b (.pointer (some ⟨z.g,0,none⟩)) (pl+d.length)).P w' (fun x=>x=v∨N x):=⟨⟨d,md,pl⟩,⟨L,g2,rfl⟩,v,_,N,f2,⟨k.mk.x2,e9k B.hm,z4⟩,f3,fun q=>c3 v ((t v).2 (.inr o)) ((hx v).2 (.inr (.inr (.inr q)))),fun x=>Iff.rfl⟩
  have A:∀ x,S1 x→¬ (D1 x∨D2 x∨D3 x∨N x):=fun x p q=>c3 x p ((hx x).2 q)
  have hG:∀ x,S1 x∨(D1 x∨D2 x∨D3 x∨N x)→F x∨w.heap.size≤x:=fun x p=>b2 x ((c4 x).2 (p.imp id (hx x).2))
  refine⟨_,D1,fun x=>B1 x∨D2 x,fun x=>(x=v∨N x)∨D3 x,by rw[R],⟨_,rfl⟩,z1,⟨⟨line,d,md,pl⟩,⟨rfl,rfl,L,g2,g3⟩,B1,D2,i1,z2,fun x p q=>A x ((t x).2 (.inl p)) (.inr (.inl q)),fun _=>Iff.rfl⟩,
   ⟨⟨line,pl+d.length⟩,g3,_,_,D3,b3,z3,fun x p q=>?_,fun _=>Iff.rfl⟩,fun x p q=>?_,fun x p q=>?_,fun x p q=>?_,k5,fun x p=>hG x (.inr (.inl p)),fun x p=>hG x ?_,fun x p=>hG x ?_⟩
  ·rcases p with rfl|p
   ·exact A _ ((t _).2 (.inr o)) (.inr (.inr (.inl q)))
   ·exact c5 x q p
  ·rcases q with q|q
   ·exact A x ((t x).2 (.inl q)) (.inl p)
   ·exact b5 x p q
  ·rcases q with(rfl|q)|q
   ·exact A _ ((t _).2 (.inr o)) (.inl p)
   ·exact b7 x p q
   ·exact b6 x p q
  ·rcases p with p|p
   ·rcases q with(rfl|q)|q
    ·exact i3 _ p o
    ·exact A x ((t x).2 (.inl p)) (.inr (.inr (.inr q)))
    ·exact A x ((t x).2 (.inl p)) (.inr (.inr (.inl q)))
   ·rcases q with(rfl|q)|q
    ·exact A _ ((t _).2 (.inr o)) (.inr (.inl p))
    ·exact b9 x p q
    ·exact b8 x p q
  ·rcases p with p|p
   ·exact .inl ((t x).2 (.inl p))
   ·exact .inr (.inr (.inl p))
  ·rcases p with(rfl|p)|p
   ·exact .inl ((t _).2 (.inr o))
   ·exact .inr (.inr (.inr (.inr p)))
   ·exact .inr (.inr (.inr (.inl p)))
end
def fE (b:Nat) (hl:List UInt8) (k:Nat) (gs:List Value):List (cR b) :=
 if k < 100 then (match gs with
  | [v,h]=>[byA b v k,jC b h hl]
  | _=>[Eng.dQ False])
 else if k < 200 then (match gs with
  | [v,h,s]=>[byA b v (k-100),jC b h hl,Eng.dQ (∃ str:ByteArray,s = .string str∧str.size≤3)]
  | _=>[Eng.dQ False])
 else (match gs with
  | [v,h,s]=>[byA b v 100,jC b h hl,Eng.dQ (∃ str:ByteArray,s = .string str∧1≤str.size∧str.size≤900)]
  | _=>[Eng.dQ False])
section
variable {b : Nat} {hl : List UInt8}
theorem nN {k:Nat} {v h:Value} (hk:k < 100):fE b hl k [v,h]=[byA b v k,jC b h hl]:=by unfold fE;rw[if_pos hk]
theorem d3f {k:Nat} {v h s:Value} (hk:k < 100):fE b hl (100+k) [v,h,s]=[byA b v k,jC b h hl,Eng.dQ (∃ str:ByteArray,s = .string str∧str.size≤3)]:=by unfold fE;rw[if_neg (by omega),if_pos (by omega),Nat.add_sub_cancel_left]
theorem wX {k:Nat} {gs:List Value} {w:World} {fs:Nat→Nat→Prop} (hk:k < 100) (h:dN (fE b hl k gs) w fs):∃ v h,gs=[v,h]:=by
 unfold fE at h;rw[if_pos hk] at h
 match gs,h with
 | [v,u],h=>exact⟨v,u,rfl⟩
 | [],h=>exact(cL h).elim
 | [_],h=>exact(cL h).elim
 | _::_::_::_,h=>exact(cL h).elim
theorem d3g {k:Nat} {gs:List Value} {w:World} {fs:Nat→Nat→Prop} (hk:k < 100) (h:dN (fE b hl (100+k) gs) w fs):∃ v h s,gs=[v,h,s]:=by
 unfold fE at h;rw[if_neg (by omega),if_pos (by omega)] at h
 match gs,h with
 | [v,u,s],h=>exact⟨v,u,s,rfl⟩
 | [],h=>exact(cL h).elim
 | [_],h=>exact(cL h).elim
 | [_,_],h=>exact(cL h).elim
 | _::_::_::_::_,h=>exact(cL h).elim
theorem d7v {ν:Nat→Int} (k:Nat) (hk:k < 90):(Eng.d9y k).Ok Tryz.prog ν (fE b hl):=by
 intro w g i j F m a o p;have a:dN (fE b hl k g) w j:=a;obtain⟨v,h,rfl⟩:=wX (by omega) a;rw[nN (by omega)] at a;obtain⟨l,r,I,J,K⟩:=a.at_ 0 _ rfl
 match i,m with
 | [u0,u1],⟨c,⟨n,a0,a2,a3⟩,_⟩ =>
  have c:some v=some u0:=c;cases c;subst a0;refine(rJ v l n w r.rd (by omega) ⟨a2,a3⟩).mono ?_;rintro e s ⟨x,rfl,d,t⟩;have E:=lZ n.toNat (by omega);have G:=fN n.toNat;obtain⟨u,z,B,C⟩:=a.step1 o 0 (by simp) (A:=byA b x (k+1)) (f:=fun y=>y∈blk x) ⟨_,d.base_le p,by rw[aE];omega,fun _=>by rw[aE];omega,fun _=>Iff.rfl⟩ (a9d t) (fun y D => .inr (d.ge y D).1);refine⟨x,[x],[x,h],u,rfl,⟨wW d,trivial⟩,rfl,⟨rfl,rfl,trivial⟩,?_,B,C⟩;show cW (fE b hl (k+1) [x,h]) s _;rw[nN (by omega)];exact z
 | [],h=>exact h.elim
 | [_],h=>exact h.2.elim
 | _::_::_::_,h=>exact h.2.2.elim
theorem d7w {ν:Nat→Int} (k:Nat) (hk:k < 90):(Eng.d9z k).Ok Tryz.prog ν (fE b hl):=by
 intro w i j m F o a p r;have a:dN (fE b hl k i) w m:=a;obtain⟨v,h,rfl⟩:=wX (by omega) a;rw[nN (by omega)] at a;obtain⟨l,s,L,M,N⟩:=a.at_ 0 _ rfl
 match j,o with
 | [u0,u1],⟨c,d,_⟩ =>
  have c:some v=some u0:=c;cases c;have d:some (Value.string ⟨#[]⟩)=some u1:=d;cases d;refine(sO v l ⟨#[]⟩ w s.rd (by omega) (by decide)).mono ?_;rintro e t ⟨x,rfl,g,u⟩;have G:=oA ⟨#[]⟩;have I:=lZ (⟨#[]⟩:ByteArray).size (by decide);have J:=fN (⟨#[]⟩:ByteArray).size;have K:(⟨#[]⟩:ByteArray).size=0:=rfl;obtain⟨z,B,C,D⟩:=a.step1 p 0 (by simp) (A:=byA b x (k+2)) (f:=fun y=>y∈blk x) ⟨_,g.base_le r,by rw[aE];omega,fun _=>by rw[aE];omega,fun _=>Iff.rfl⟩ (a9d u) (fun y E => .inr (g.ge y E).1);refine⟨x,[x],[x,h],z,rfl,⟨wW g,trivial⟩,rfl,⟨rfl,rfl,trivial⟩,?_,C,D⟩;show cW (fE b hl (k+2) [x,h]) t _;rw[nN (by omega)];exact B
 | [],h=>exact h.elim
 | [_],h=>exact h.2.elim
 | _::_::_::_,h=>exact h.2.2.elim
theorem d7x {ν:Nat→Int} (k:Nat) (hk:k < 90):(Eng.e0a k).Ok Tryz.prog ν (fE b hl):=by
 intro w t u z F B c C D;have c:dN (fE b hl (100+k) t) w z:=c;obtain⟨v,h,s,rfl⟩:=d3g (by omega) c;rw[d3f (by omega)] at c;obtain⟨l,E,V,W,X⟩:=c.at_ 0 _ rfl;obtain⟨⟨a,rfl,p⟩,G⟩:=c.at_ 2 _ rfl
 match u,B with
 | [u0,u1],⟨d,g,_⟩ =>
  have d:some v=some u0:=d;cases d;have g:some (Value.string a)=some u1:=g;cases g;refine(sO v l a w E.rd (by omega) (by omega)).mono ?_;rintro e r ⟨x,rfl,j,I⟩;have S:=oA a;have T:=lZ a.size (by omega);have U:=fN a.size;obtain⟨J,i,K,L⟩:=c.step1 C 0 (by simp) (A:=byA b x (k+2)) (f:=fun y=>y∈blk x) ⟨_,j.base_le D,by rw[aE];omega,fun _=>by rw[aE];omega,fun _=>Iff.rfl⟩ (a9d I) (fun y o => .inr (j.ge y o).1);have i:cW [byA b x (k+2),jC b h hl,Eng.dQ (∃ str':ByteArray,Value.string a = .string str'∧str'.size≤3)] r J:=i;obtain⟨M,N,Y,p1,O,Z,m,P,Q,R⟩:=iJ i;refine⟨x,[x],[x,h],fun y=>M y∨N y,rfl,⟨wW j,trivial⟩,rfl,⟨rfl,rfl,trivial⟩,?_,K,fun y o=>L y ((R y).2 (o.imp id .inl))⟩;show cW (fE b hl (k+2) [x,h]) r _;rw[nN (by omega)];exact eY p1 O m (fun _=>Iff.rfl)
 | [],h=>exact h.elim
 | [_],h=>exact h.2.elim
 | _::_::_::_,h=>exact h.2.2.elim
theorem d7y {ν:Nat→Int} (hh:qK hl):Eng.e6v.Ok Tryz.prog ν (fE b hl):=by
 intro w d f i F j c l x;have c:dN (fE b hl 0 d) w i:=c;obtain⟨v,h,rfl⟩:=wX (by omega) c;rw[nN (by omega)] at c;obtain⟨m,y⟩:=c.at_ 1 _ rfl
 match f,j with
 | [u0],⟨a,_⟩ =>
  have a:some h=some u0:=a;cases a;refine(yL w h hl m.rd (by have:=hh.1;omega) hh.2).mono ?_;rintro e o ⟨g,rfl,z,A,p⟩;obtain⟨r,s,t,u⟩:=c.step0 l (uL p);refine⟨_,[.pointer (some ⟨g,0,none⟩)],[v,h],r,rfl,⟨⟨g,rfl⟩,trivial⟩,⟨_,rfl,rfl,rfl,trivial⟩,⟨rfl,rfl,trivial⟩,?_,t,u⟩;show cW (fE b hl 0 [v,h]) o _;rw[nN (by omega)];exact s
 | [],h=>exact h.elim
 | _::_::_,h=>exact h.2.elim
theorem b4h {ν:Nat→Int} (hh:qK hl):∀ T∈Eng.wP,T.Ok Tryz.prog ν (fE b hl):=by
 intro T hT;rcases aG.1 hT with rfl|hT
 ·exact d7y hh
 rcases aI.1 hT with hT|h
 ·rcases aI.1 hT with h|h
  ·obtain⟨k,a,rfl⟩:=List.mem_map.1 h;exact d7v k (by have:=List.mem_range.1 a;omega)
  ·obtain⟨k,a,rfl⟩:=List.mem_map.1 h;exact d7w k (by have:=List.mem_range.1 a;omega)
 ·obtain⟨k,a,rfl⟩:=List.mem_map.1 h;exact d7x k (by have:=List.mem_range.1 a;omega)
theorem b4i (hh:qK hl):∀ c∈Eng.wQ,c.Ok Tryz.prog (fE b hl):=by
 intro c u;rcases aI.1 u with h|h
 ·obtain⟨k,f,rfl⟩:=List.mem_map.1 h;have f:=List.mem_range.1 f;intro g v w F o d;have d:cW (fE b hl k g) w F:=d;obtain⟨x,a,rfl⟩:∃ x a,g=[x,a]:=by obtain⟨y,q,_⟩:=d;exact wX (by omega) q
  obtain rfl:a=v:=aK (show some a=some v from o);rw[nN (by omega)] at d;obtain⟨F1,F2,z,j,p,r⟩:=iI d;refine⟨⟨hl.toArray⟩,yC Tryz.underlying33 Tryz.underlying5 Tryz.underlying9 w a hl j.1.rd,?_⟩;show cW (fE b hl (100+k) [x,a,.string ⟨hl.toArray⟩]) w F;rw[d3f (by omega)];have i:(⟨hl.toArray⟩:ByteArray).size=hl.length:=by show hl.toArray.size=_;simp
  exact Eng.cW.join (l:=[_,_]) (m:=[_]) (F1:=F) (F2:=fun _=>False) (eY z j p r) (Eng.cW.one.2 ⟨⟨_,rfl,by rw[i];exact hh.1⟩,fun _ q=>q⟩) (fun _ _ q=>q) (fun x=>⟨.inl,fun q=>q.elim id False.elim⟩)
 ·obtain⟨k,f,rfl⟩:=List.mem_map.1 h;have f:=List.mem_range.1 f;intro g v w F o d;have d:cW (fE b hl (k+1) g) w F:=d;obtain⟨x,a,rfl⟩:∃ x a,g=[x,a]:=by obtain⟨y,q,_⟩:=d;exact wX (by omega) q
  obtain rfl:x=v:=aK (show some x=some v from o);rw[nN (by omega)] at d;obtain⟨F1,F2,⟨l,s,B,t,A⟩,j,p,r⟩:=iI d;refine⟨⟨l.toArray⟩,yC Tryz.underlying33 Tryz.underlying5 Tryz.underlying9 w x l s.rd,?_⟩;have e:fE b hl 300 [x,a,.string ⟨l.toArray⟩]=[byA b x 100,jC b a hl]++[Eng.dQ (∃ str:ByteArray,Value.string ⟨l.toArray⟩ = .string str∧1≤str.size∧str.size≤900)]:=by unfold fE;rw[if_neg (by omega),if_neg (by omega)];rfl
  show cW (fE b hl 300 [x,a,.string ⟨l.toArray⟩]) w F;rw[e];have i:(⟨l.toArray⟩:ByteArray).size=l.length:=by show l.toArray.size=_;simp
  exact Eng.cW.join (l:=[_,_]) (m:=[_]) (F1:=F) (F2:=fun _=>False) (eY ⟨l,s,by omega,fun _=>t (by omega),A⟩ j p r) (Eng.cW.one.2 ⟨⟨_,rfl,by rw[i];exact t (by omega),by rw[i];omega⟩,fun _ q=>q⟩) (fun _ _ q=>q) (fun x=>⟨.inl,fun q=>q.elim id False.elim⟩)
theorem b4j {gs:List Value} {w:World} {F:Nat→Prop} (h:cW (fE b hl 300 gs) w F):∃ (v h:Value) (str:ByteArray) (F1 F2:Nat→Prop),gs=[v,h,.string str]∧1≤str.size∧str.size≤900∧(jC b h hl).P w F2∧(∀ x,F1 x→¬ F2 x)∧∀ x,F x↔F1 x∨F2 x:=by
 unfold fE at h;rw[if_neg (by omega),if_neg (by omega)] at h
 match gs,h with
 | [v,u,s],h =>
  obtain⟨d,f,r,p1,g,i,a,j,l,m⟩:=iJ h;obtain⟨⟨str,rfl,o,p⟩,c⟩:=i;exact⟨v,u,str,d,f,rfl,o,p,g,a,fun x=>by rw[m];exact⟨fun q=>q.elim .inl fun q=>q.elim .inr fun q=>absurd q (c x),fun q=>q.elim .inl fun q => .inr (.inl q)⟩⟩
 | [],⟨fs,h,_⟩=>exact(cL h).elim
 | [_],⟨fs,h,_⟩=>exact(cL h).elim
 | [_,_],⟨fs,h,_⟩=>exact(cL h).elim
 | _::_::_::_::_,⟨fs,h,_⟩=>exact(cL h).elim
end
section
variable {b : Nat} {w : World} {F : Nat → Prop} {vr : Value}
def e9l (b:Nat) (vr:Value) (T:cR b) (w:World) (F:Nat→Prop) (e:Ending) (w':World):Prop :=
 ∃ str F1 F3,e = .returned (.string str)∧1≤str.size∧str.size≤900∧(cD b vr).P w' F1∧T.P w' F3∧(∀ x,F1 x→¬ F3 x)∧cJ F w w'∧tF F w F1∧tF F w F3
def d7z (k:iV):Prop:=∃ X Y:Nat,Eng.eX (Eng.call (Eng.EBc k.bdE (Eng.hks k.bdE Eng.wP) (Eng.a3c Eng.wQ)) 300 75 [.ptr 1 0,.agg (Eng.ptK k)] ⟨[],(0,.gho 0 [.nils,Eng.hdX])::Eng.ofH k,12,[],[]⟩) (.opq Y) 300 [.opq X,Eng.hdX,.opq Y]
 [⟨List.range 8,Eng.wO,8,[.ptr 1 0],[.ptr 1 0]⟩,⟨[0,9,10],Eng.gJ k.sb (Eng.vG k.mk),3,[.slc 1 0 1],[.slc 9 0 1]⟩]=true
theorem d3h:d7z .S∧d7z .H∧d7z .D∧d7z .E:=⟨⟨_,_,Eng.e2e⟩,⟨_,_,Eng.e2f⟩,⟨_,_,Eng.e2g⟩,⟨_,_,Eng.e2h⟩⟩
theorem f2b {k:iV} {x0 q a line j:Nat} {hd hs ino:Int} (h:@Eng.BD (bQ b (iW x0 q a line j hd hs ino)) k.bd) (h1:0≤hd∧hd≤16) (h2:0≤hs∧hs≤4294967295) (h3:1≤ino∧ino≤12):@Eng.BD (bQ b (iW x0 q a line j hd hs ino)) k.bdE:=by
 have key:∀ l:Eng.Bd,l.length=5→@Eng.BD (bQ b (iW x0 q a line j hd hs ino)) l→@Eng.BD (bQ b (iW x0 q a line j hd hs ino)) (l++[(0,16),(0,4294967295),(1,12)]):=by
  intro l d h i p c
  match l,d with
  | [b0,b1,b2,b3,b4],_ =>
   match i with
   | 0=>exact h 0 p c
   | 1=>exact h 1 p c
   | 2=>exact h 2 p c
   | 3=>exact h 3 p c
   | 4=>exact h 4 p c
   | 5=>cases c;exact h1
   | 6=>cases c;exact h2
   | 7=>cases c;exact h3
   | _+8=>cases c
 exact key k.bd (by cases k<;>rfl) h
theorem d3i {at_:Nat} {lv pv held ls:Value} {hd hs ino:Int} {F2 F3:Nat→Prop} (h:(cD b vr).P w F2) (hs':(mD b at_ lv pv held ls).P w F3) (hdj:∀ x,F2 x→¬ F3 x) (hF:∀ x,F x↔F2 x∨F3 x) (hb:b≤w.heap.size) (hl:at_≤110) (h4:0≤hd∧hd≤16) (h5:0≤hs∧hs≤4294967295) (h6:1≤ino∧ino≤12) :
  Calls Tryz.prog 75 #[vr,.agg (zY ino 1 hd hs (yR at_ lv pv held ls)).toArray] w (e9l b vr (mD b at_ lv pv held ls) w F):=by
 obtain⟨⟨line,d,md,pl⟩,⟨rfl,rfl,y,L,M⟩,A1,A2,N,T,s3,O⟩:=hs';dsimp only at y L M N T ⊢;have hj:=y.1;obtain⟨k,f,q,a,A,X,Y,ht⟩:=d3c L (by omega) d3h;have r:@Eng.BD (bQ b (iW f q a line d.length hd hs ino)) k.bdE:=f2b (A.bd.2.2.2 line _ (by omega) hj b _ _ _) h4 h5 h6;have s:∀ i,fQ i=match Eng.bT (List.replicate 8 (Eng.kx 0 [])) i with
   | some e=>@Eng.eK.val (bQ 0 (iW f q a line d.length hd hs ino)) e
   | none=>iW f q a line d.length hd hs ino i:=fun i=>by
  match i with
  | 0=>rfl
  | 1=>rfl
  | 2=>rfl
  | 3=>rfl
  | 4=>rfl
  | 5=>rfl
  | 6=>rfl
  | 7=>rfl
  | _+8=>rfl
 have e1:(cY b (iW f q a line d.length hd hs ino) Eng.wO 8 [.ptr 1 0] [vr]).P w F2:=Eng.iY (σ:=List.replicate 8 (Eng.kx 0 [])) (H:=Eng.wO) (rt:=[.ptr 1 0]) s rfl rfl h;have e2:=e0k (line:=line) (j:=d.length) (hd:=hd) (hs:=hs) (ino:=ino) A T;have D:=Eng.yI e1 e2 (fun x p q=>hdj x p ((O x).2 (.inr q))) rfl (by cases k<;>rfl) (by cases k<;>rfl) hb;obtain⟨o,g,rfl⟩:∃ o g,held = .slice o d.length g:=by
  obtain⟨a0,g,rfl,-⟩:=N.1.rd;exact⟨a0,g,rfl⟩
 have E:=b4e (a:=o) (m:=d.length) (c:=g) (e:=⟨0,[(4,1)]⟩) D (by show (d.length:Int)=0+(1*(d.length:Int)+0);omega);have t:cW (fE b d 0 [.slice none 0 0,.slice o d.length g]++[cY b (iW f q a line d.length hd hs ino) (Eng.ofH k) 12 [.ptr 1 0,.slc 9 0 1,Eng.hdX] [vr,ls,.slice o d.length g]]) w F:=by
  rw[nN (by omega)];have I:(byA b (.slice none 0 0) 0).P w (fun _=>False):=⟨[],bK _ _ _ _,by simp,by omega,fun x=>by simp[blk]⟩
  exact Eng.cW.join (l:=[_]) (m:=[_,_]) (F1:=fun _=>False) (F2:=F) (cC.2 I) (eY N E (fun x p q=>q.elim (fun q=>hdj x q ((O x).2 (.inl p))) fun q=>s3 x p q) (fun x=>by rw[hF,O];exact⟨fun h=>h.elim (fun q => .inr (.inl q)) fun h=>h.elim .inl fun q => .inr (.inr q),fun h=>h.elim (fun q => .inr (.inl q)) fun h=>h.elim .inl fun q => .inr (.inr q)⟩)) (fun _ q=>q.elim) (fun x=>⟨.inr,fun q=>q.elim False.elim id⟩)
 have hE:@Eng.sL (Eng.cA b (iW f q a line d.length hd hs ino) (fE b d)) Tryz.prog (Eng.EBc k.bdE (Eng.hks k.bdE Eng.wP) (Eng.a3c Eng.wQ)):=@Eng.b5s (Eng.cA b (iW f q a line d.length hd hs ino) (fE b d)) k.bdE r _ _ (Eng.lG r (b4h y)) (Eng.c1m (b4i y));have I:Eng.cK (Eng.ofH k) 0=none:=by cases k<;>rfl
 refine(Eng.iT (us:=[vr,.agg (zY ino 1 hd hs (yR at_ _ _ _ ls)).toArray]) hE ht (by omega) I hb t (fun G hG=>?_)).mono ?_
 ·obtain⟨Q,R,B⟩:=dW hG;refine⟨a2i rfl B,@Eng.cZ (bQ b _) _ _ _ Q,?_,trivial⟩;have:=e0m A B R;rw[M] at this;have e5:@Eng.dn (bQ b (iW f q a line d.length hd hs ino)) G (Eng.l64 [(5,1)])=some (.int .i64 hd):=by
   show some (Value.int .i64 (0+(1*hd+0)))=_;rw[show (0+(1*hd+0):Int)=hd by clear h4 h5 h6;omega]
  have e6:@Eng.dn (bQ b (iW f q a line d.length hd hs ino)) G (.sym .u32 ⟨0,[(6,1)]⟩)=some (.int .u32 hs):=by
   show some (Value.int .u32 (0+(1*hs+0)))=_;rw[show (0+(1*hs+0):Int)=hs by clear h4 h5 h6;omega]
  have e7:@Eng.dn (bQ b (iW f q a line d.length hd hs ino)) G (Eng.l64 [(7,1)])=some (.int .i64 ino):=by
   show some (Value.int .i64 (0+(1*ino+0)))=_;rw[show (0+(1*ino+0):Int)=ino by clear h4 h5 h6;omega]
  show Option.map (fun us=>Value.agg us.toArray) (@Eng.dG (bQ b (iW f q a line d.length hd hs ino)) G (Eng.ptK k))=_;have J:@Eng.dG (bQ b (iW f q a line d.length hd hs ino)) G (Eng.ptK k)=some ([.bool true,.int .i64 ino,.int .i64 1,.int .i64 hd,.int .u32 hs]++yR at_ (.int .i64 (line:Int)) (.int .i64 (pl:Int)) (.slice o d.length g) ls):=by
   refine(@Eng.eL (bQ b _) _ _ _ _).2 ⟨_,_,?_,this,rfl⟩;have en:∀ k:Int,@Eng.dn (bQ b (iW f q a line d.length hd hs ino)) G (.int .i64 k)=some (.int .i64 k):=fun k=>rfl
   have eb:∀ k:Bool,@Eng.dn (bQ b (iW f q a line d.length hd hs ino)) G (.bool k)=some (.bool k):=fun k=>rfl
   simp only[Eng.dG,e5,e6,e7,Eng.n6,en,eb];rfl
  rw[J];rfl
 ·rintro e U ⟨u,a1,G,rfl,z,k2,-,k4,k5,G0,k6,k7⟩;have rr:=@Eng.cT (bQ b (iW f q a line d.length hd hs ino)) _ _ k6 _ _ k7;obtain⟨Q,R,B⟩:=dW rr;obtain⟨F',b1,V⟩:=k4 [[vr],[ls]] ⟨gN Q,gN R,trivial⟩;obtain⟨S1,S2,c1,K,W,Z⟩:=b1.split;obtain⟨v,hh,S,B1,B2,rfl,z1,z2,z3,z4,z5⟩:=b4j c1;obtain⟨d1,d2,d3⟩:=dW k2;rw[B] at d2;cases d2;have z:@Eng.dn (bQ b (iW f q a line d.length hd hs ino)) G (.opq Y)=some u:=z;rw[d3] at z;cases z;have K:cW [cY b (iW f q a line d.length hd hs ino) Eng.wO 8 [.ptr 1 0] [vr],cY b (iW f q a line d.length hd hs ino) (Eng.gJ k.sb (Eng.vG k.mk)) 3 [.slc 1 0 1] [ls]] U S2:=K;obtain⟨D1,D2,p1,p2,p3,C⟩:=iI K;have y1:(cD b vr).P U D1:=Eng.fH (σ:=List.replicate 8 (Eng.kx 0 [])) (H:=Eng.wO) (rt:=[.ptr 1 0]) s rfl rfl p1;have y2:=e0l A p2;refine⟨S,D1,fun x=>B2 x∨D2 x,rfl,z1,z2,y1,⟨⟨line,d,md,pl⟩,⟨rfl,rfl,y,L,M⟩,B2,D2,z3,y2,fun x p q=>W x ((z5 x).2 (.inr p)) ((C x).2 (.inr q)),fun _=>Iff.rfl⟩,fun x p q=>q.elim (fun q=>W x ((z5 x).2 (.inr q)) ((C x).2 (.inl p))) fun q=>p3 x p q,k5,fun x p=>V x ((Z x).2 (.inr ((C x).2 (.inl p)))),fun x p=>V x ((Z x).2 (p.elim (fun p => .inl ((z5 x).2 (.inr p))) fun p => .inr ((C x).2 (.inr p))))⟩
def iN (ino:Int):List Value:=[.bool false,.int .i64 ino,.int .i64 1,.int .i64 0,.int .u32 0,.int .i64 0,.int .i64 0,.bool false,.bool false,.int .i64 0,.int .i64 0,.slice none 0 0,.slice none 0 0,.int .i64 0,.slice none 0 0,.slice none 0 0,.int .i64 0,.slice none 0 0,.slice none 0 0,.int .i64 0,.slice none 0 0]
theorem c6d {ino:Int} (h:(cD b vr).P w F) (hb:b≤w.heap.size) (h6:1≤ino∧ino≤12) :
  Calls Tryz.prog 75 #[vr,.agg (iN ino).toArray] w fun e w'=>∃ str F1,e = .returned (.string str)∧1≤str.size∧str.size≤900∧(cD b vr).P w' F1∧cJ F w w'∧tF F w F1:=by
 have c:@Eng.BD (bQ b (iW 0 0 0 0 0 0 0 ino)) Eng.yM:=by
  intro i p a
  match i with
  | 0=>cases a;exact⟨by show (0:Int)≤0;omega,by show (0:Int)≤0;omega⟩
  | 1=>cases a;exact⟨by show (0:Int)≤0;omega,by show (0:Int)≤0;omega⟩
  | 2=>cases a;exact⟨by show (0:Int)≤0;omega,by show (0:Int)≤0;omega⟩
  | 3=>cases a;exact⟨by show (0:Int)≤0;omega,by show (0:Int)≤0;omega⟩
  | 4=>cases a;exact⟨by show (0:Int)≤0;omega,by show (0:Int)≤0;omega⟩
  | 5=>cases a;exact⟨by show (0:Int)≤0;omega,by show (0:Int)≤0;omega⟩
  | 6=>cases a;exact⟨by show (0:Int)≤0;omega,by show (0:Int)≤0;omega⟩
  | 7=>cases a;exact h6
  | _+8=>cases a
 have d:∀ i,fQ i=match Eng.bT (List.replicate 8 (Eng.kx 0 [])) i with
   | some e=>@Eng.eK.val (bQ 0 (iW 0 0 0 0 0 0 0 ino)) e
   | none=>iW 0 0 0 0 0 0 0 ino i:=fun i=>by
  match i with
  | 0=>rfl
  | 1=>rfl
  | 2=>rfl
  | 3=>rfl
  | 4=>rfl
  | 5=>rfl
  | 6=>rfl
  | 7=>rfl
  | _+8=>rfl
 have r:(cY b (iW 0 0 0 0 0 0 0 ino) Eng.wO 8 [.ptr 1 0] [vr]).P w F:=Eng.iY (σ:=List.replicate 8 (Eng.kx 0 [])) (H:=Eng.wO) (rt:=[.ptr 1 0]) d rfl rfl h;have j:qK []:=⟨by simp,.inl rfl⟩
 have f:cW (fE b [] 0 [.slice none 0 0,.slice none 0 0]++[cY b (iW 0 0 0 0 0 0 0 ino) Eng.wO 8 [.ptr 1 0] [vr]]) w F:=by
  rw[nN (by omega)];have s:(byA b (.slice none 0 0) 0).P w (fun _=>False):=⟨[],bK _ _ _ _,by simp,by omega,fun x=>by simp[blk]⟩
  have t:(jC b (.slice none 0 0) []).P w (fun _=>False):=⟨bK _ _ _ _,fun x=>by simp[blk]⟩
  exact Eng.cW.join (l:=[_,_]) (m:=[_]) (F1:=fun _=>False) (F2:=F) (eY s t (fun _ q=>q.elim) (fun x=>⟨fun q=>q.elim,fun q=>q.elim id id⟩)) (cC.2 r) (fun _ q=>q.elim) (fun x=>⟨.inr,fun q=>q.elim False.elim id⟩)
 have y:@Eng.sL (Eng.cA b (iW 0 0 0 0 0 0 0 ino) (fE b [])) Tryz.prog (Eng.EBc Eng.yM (Eng.hks Eng.yM Eng.wP) (Eng.a3c Eng.wQ)):=@Eng.b5s (Eng.cA b (iW 0 0 0 0 0 0 0 ino) (fE b [])) Eng.yM c _ _ (Eng.lG c (b4h j)) (Eng.c1m (b4i j));refine(Eng.iT (us:=[vr,.agg (iN ino).toArray]) y Eng.c4y (by omega) rfl hb f (fun G U=>⟨rfl,@Eng.cZ (bQ b _) _ _ _ (rL U),?_,trivial⟩)).mono ?_
 ·have z:@Eng.dn (bQ b (iW 0 0 0 0 0 0 0 ino)) G (Eng.l64 [(7,1)])=some (.int .i64 ino):=by
   show some (Value.int .i64 (0+(1*ino+0)))=_;rw[show (0+(1*ino+0):Int)=ino by clear h6;omega]
  show Option.map (fun us=>Value.agg us.toArray) (@Eng.dG (bQ b (iW 0 0 0 0 0 0 0 ino)) G Eng.b7n)=_;simp only[Eng.b7n,Eng.dG,z];rfl
 ·rintro e w' ⟨u,C,G,rfl,g,D,-,E,I,G0,J,K⟩;have A:=@Eng.cT (bQ b (iW 0 0 0 0 0 0 0 ino)) _ _ J _ _ K;obtain⟨V,L,M⟩:=E [[vr]] ⟨A,trivial⟩;obtain⟨W,o,N,O,X,Q⟩:=L.split;obtain⟨v,Y,str,Z,B2,rfl,R,S,z3,z4,z5⟩:=b4j N;obtain⟨d1,d2,T⟩:=dW D;have g:@Eng.dn (bQ b (iW 0 0 0 0 0 0 0 ino)) G (.opq 18)=some u:=g;rw[T] at g;cases g;have B:(cD b vr).P w' o:=Eng.fH (σ:=List.replicate 8 (Eng.kx 0 [])) (H:=Eng.wO) (rt:=[.ptr 1 0]) d rfl rfl (cC.1 O);exact⟨str,o,rfl,R,S,B,I,fun x p=>M x ((Q x).2 (.inr p))⟩
end
end Go.Proofs.YthgnlfikneipiaaGreat
namespace Go.Proofs.YthgnlfikneipiaaGreat
open Go.RowKit
open Go.Eng (cR cJ TS dN cW)
theorem a9f {w0 w:World} {vd vl vj:Value} {rl:List kC} {n k n' k':Nat} {G:List Nat} (h:StQ w0 vd vl vj rl n k w G) (h1:n≤n') (h2:k≤k'):StQ w0 vd vl vj rl n' k' w G:=by
 obtain⟨b,c,d,F,D,K,s,f,g,i,j,l,m,o,a,p⟩:=h;exact⟨b,c,d,F,D,K,s,f,g,i,j,l,m,o,⟨a.ok,aL a.tot h1,aL a.num h2,by have:=a.log;omega⟩,p⟩
def flL (B:List UInt8):FL:=[((1:Int),e9e,B)]
theorem a9g {gs:List Value} {n:Nat} (h:gs.length=n) (vs:List Value) (j:Nat) {v:Value} (hv:Eng.bT vs j=some v):gv (gs++vs) (n+j)=v:=eD (by rw[dY h,hv])
theorem a3q {gs:List Value} {i:Nat} (h:i < gs.length):Eng.bT gs i=some (gv gs i):=by
 unfold gv;rw[gW,aO h];rfl
end Go.Proofs.YthgnlfikneipiaaGreat
namespace Go.Proofs.YthgnlfikneipiaaGreat
open Go.RowKit
open Go.Eng (cR cJ TS dN cW cY bQ)
theorem d3j {b:Nat} {l:List (cR b)} {A A':cR b} {w:World} {F:Nat→Prop} (h:cW (l++[A]) w F) (k:∀ F,A.P w F→A'.P w F):cW (l++[A']) w F:=by
 obtain⟨g,i,a,c,d,f⟩:=h.split;exact a.join (Eng.cW.one.2 (k _ (Eng.cW.one.1 c))) d f
theorem wY {b:Nat} {ν:Nat→Int} {G:Eng.GM} {l:List Eng.AV} {a:Eng.AV} {gs:List Value} {v:Value} (h:@Eng.dG (bQ b ν) G (l++[a])=some (gs++[v])):@Eng.dG (bQ b ν) G l=some gs∧@Eng.dn (bQ b ν) G a=some v:=by
 obtain⟨x,y,c,d,f⟩:=(@Eng.eL (bQ b ν) _ _ _ _).1 h;obtain⟨u,r,g,i,j⟩:=(@Eng.bS (bQ b ν) _ _ _ _).1 d;cases i;subst j;obtain⟨m,o⟩:=List.append_inj' f rfl;subst m;cases o;exact⟨c,g⟩
theorem a0z {b:Nat} {ν:Nat→Int} {G:Eng.GM} {l:List Eng.AV} {a:Eng.AV} {gs:List Value} {v:Value} (h1:@Eng.dG (bQ b ν) G l=some gs) (h2:@Eng.dn (bQ b ν) G a=some v):@Eng.dG (bQ b ν) G (l++[a])=some (gs++[v]):=(@Eng.eL (bQ b ν) _ _ _ _).2 ⟨_,_,h1,gN h2,rfl⟩
def out0:Value := .agg #[.int .i64 0,.int .i64 0,.slice none 0 0,.slice none 0 0]
theorem b4k [Eng.fP] (R:List Value):∀ (M P:List Value),Eng.mos (P++(M++R)) ((List.range' P.length M.length).map Eng.oW.at) M
 | [],P=>trivial
 | v::M,P=>by
  refine⟨?_,?_⟩
  ·show Eng.bT (P++(v::M++R)) P.length=some v;rw[gW];simp
  ·have:=b4k R M (P++[v]);rw[bN,aE] at this;exact this
theorem d3k {b:Nat} {pre post:List (cR b)} {X:cR b} {w:World} {F f:Nat→Prop} (h:cW (pre++Eng.dZ::post) w F) (hx:X.P w f) (hd:∀ x,f x→¬ F x):cW (pre++X::post) w fun x=>F x∨f x:=by
 obtain⟨s,F2,g,i,j,a⟩:=h.split;obtain⟨E,o,d,r,t,c⟩:=cW.split (l:=[Eng.dZ]) (m:=post) i;have d:=Eng.cW.one.1 d;refine g.join (F2:=fun x=>f x∨o x) (Eng.cW.join (l:=[X]) (Eng.cW.one.2 hx) r (fun x p q=>hd x p ((a x).2 (.inr ((c x).2 (.inr q))))) fun x=>Iff.rfl) (fun x p q=>?_) fun x=>?_
 ·rcases q with q|q
  ·exact hd x q ((a x).2 (.inl p))
  ·exact j x p ((c x).2 (.inr q))
 ·constructor
  ·rintro(q|q)
   ·rcases (a x).1 q with q|q
    ·exact .inl q
    ·rcases (c x).1 q with q|q
     ·exact absurd q (d x)
     ·exact .inr (.inr q)
   ·exact .inr (.inl q)
  ·rintro(q|q|q)
   ·exact .inl ((a x).2 (.inl q))
   ·exact .inr q
   ·exact .inl ((a x).2 (.inr ((c x).2 (.inr q))))
theorem a9h {b:Nat} {pre post:List (cR b)} {X:cR b} {w:World} {F:Nat→Prop} (h:cW (pre++X::post) w F):∃ F0 f,cW (pre++Eng.dZ::post) w F0∧X.P w f∧(∀ x,f x→¬ F0 x)∧∀ x,F x↔F0 x∨f x:=by
 obtain⟨F1,F2,i,j,d,o⟩:=h.split;obtain⟨f,g,a,r,s,c⟩:=cW.split (l:=[X]) (m:=post) j;have a:=Eng.cW.one.1 a;refine⟨fun x=>F1 x∨g x,f,i.join (F2:=g) (Eng.cW.join (l:=[Eng.dZ]) (F1:=fun _=>False) (Eng.cW.one.2 (fun _ q=>q)) r (fun x p q=>p) fun x=>by simp) (fun x p q=>d x p ((c x).2 (.inr q))) (fun x=>Iff.rfl),a,fun x p q=>?_,fun x=>?_⟩
 ·rcases q with q|q
  ·exact d x q ((c x).2 (.inl p))
  ·exact s x p q
 ·rw[o,c];constructor
  ·rintro(q|q|q)
   ·exact .inl (.inl q)
   ·exact .inr q
   ·exact .inl (.inr q)
  ·rintro((q|q)|q)
   ·exact .inl q
   ·exact .inr (.inr q)
   ·exact .inr (.inl q)
end Go.Proofs.YthgnlfikneipiaaGreat
namespace Go.Proofs.YthgnlfikneipiaaGreat
open Go.RowKit
open Go.Eng (cR cJ TS dN cW)
section
variable {b : Nat}
def b8z:List (cR b)→List Nat→List (cR b)→List (cR b)
 | L,p::ps,A::As=>b8z (Eng.put L p A) ps As
 | L,_,_=>L
def nO:List Nat→Nat→Option Nat
 | [],_=>none
 | p::ps,j=>match nO ps j with
  | some k=>some (k+1)
  | none=>if j=p then some 0 else none
theorem tH:∀ {ps:List Nat} {j k:Nat},nO ps j=some k→Eng.bT ps k=some j
 | [],j,k,h=>by cases h
 | p::ps,j,k,h=>by
  simp only[nO] at h;cases hq:nO ps j with
  | some i=>rw[hq] at h;cases h;exact tH (ps:=ps) hq
  | none =>
   rw[hq] at h;dsimp only at h;split at h
   ·rename_i e;cases h;rw[e];rfl
   ·cases h
theorem a6k:∀ {ps:List Nat} {j:Nat},nO ps j=none→∀ k,Eng.bT ps k≠some j
 | [],j,_,k,h=>by cases k<;>cases h
 | p::ps,j,h,k,hk=>by
  simp only[nO] at h;cases hq:nO ps j with
  | some i=>rw[hq] at h;cases h
  | none =>
   rw[hq] at h;dsimp only at h;split at h
   ·cases h
   ·rename_i e;cases k with
    | zero=>cases hk;exact e rfl
    | succ k=>exact a6k (ps:=ps) hq k hk
theorem b4l:∀ (ps:List Nat) (L As:List (cR b)),As.length=ps.length→(∀ p∈ps,p≤L.length)→∀ j,Eng.bT (b8z L ps As) j=match nO ps j with
  | some k=>Eng.bT As k
  | none=>Eng.bT L j
 | [],L,As,_,_,j=>by simp[b8z,nO]
 | p::ps,L,[],h,_,j=>by simp at h
 | p::ps,L,A::As,h,hp,j=>by
  have h1:=b4l ps (Eng.put L p A) As (by simpa using h) (fun q a=>aL (hp q (by simp[a])) (Eng.c0l L p A)) j;simp only[b8z,nO];rw[h1];cases nO ps j with
  | some k=>rfl
  | none =>
   dsimp only;rw[Eng.a0t L p A (hp p (by simp)) j];by_cases e:j=p
   ·rw[if_pos e,if_pos e];rfl
   ·rw[if_neg e,if_neg e]
def e9m [Eng.fP] (gs:List Value):Eng.Out→Value→Prop
 | .s x,u=>Eng.mo gs x u
 | .g l,u=>∃ us:List Value,u = .agg us.toArray∧Eng.mos gs l us
 | .t l,u=>∃ us:List Value,u = .tuple us.toArray∧Eng.mos gs l us
 | .ta l r,u=>∃ us vs:List Value,u = .tuple (.agg us.toArray::vs).toArray∧Eng.mos gs l us∧Eng.mos gs r vs
 | .row _ _ _ _,_=>False
theorem e3s [Eng.fP] {gs:List Value} {Fo F':Nat→Prop} {w w':World} {o:Eng.Out} {u:Value} (h:e9m gs o u):Eng.a7l gs Fo w w' F' o u:=by
 cases o<;>first|exact h|exact h.elim
theorem c2i [Eng.fP]:∀ {l:List Eng.Nw} {vs:List Value},Eng.a5m l vs→vs.length=l.length
 | [],[],_=>rfl
 | [],_::_,h=>h.elim
 | _::_,[],h=>h.elim
 | x::l,v::m,h=>by simp[c2i h.2]
theorem a3r {α}:∀ {l:List α} {i:Nat} {p:α},Eng.bT l i=some p→p∈l
 | [],i,p,h=>by cases i<;>cases h
 | a::l,0,p,h=>by cases h;simp
 | a::l,i+1,p,h=>aT _ (a3r (l:=l) h)
theorem a6l:∀ {ps:List Nat},ps.Nodup→∀ i j p,Eng.bT ps i=some p→Eng.bT ps j=some p→i=j
 | [],_,i,j,p,h,_=>by cases i<;>cases h
 | a::l,h,0,0,p,_,_=>rfl
 | a::l,h,0,j+1,p,h1,h2=>by
  cases h1;exact absurd (a3r (l:=l) h2) (List.nodup_cons.1 h).1
 | a::l,h,i+1,0,p,h1,h2=>by
  cases h2;exact absurd (a3r (l:=l) h1) (List.nodup_cons.1 h).1
 | a::l,h,i+1,j+1,p,h1,h2=>by
  rw[a6l (List.nodup_cons.1 h).2 i j p h1 h2]
theorem dU [Eng.fP] {gs vs:List Value} {n m:Nat} (h:gs.length=n) (k:vs.length=m):Eng.mos (gs++vs) (Eng.kN n m) (vs++gs):=by
 have c:=a9e vs gs;rw[h,k] at c;have d:=b4k vs gs [];rw[List.nil_append,List.length_nil,h,← List.range_eq_range'] at d;have key:∀ (A:List Eng.oW) (x:List Value),Eng.mos (gs++vs) A x→Eng.mos (gs++vs) (A++Eng.ats n) (x++gs):=by
  intro A
  induction A with
  | nil=>intro x b;cases x with
   | nil=>exact d
   | cons _ _=>exact b.elim
  | cons a A ih=>intro x b;cases x with
   | nil=>exact b.elim
   | cons y x=>exact⟨b.1,ih x b.2⟩
 exact key _ _ c
section
variable {P : Program} {ν : Nat → Int} {st : Nat → List Value → List (cR b)}
theorem okN {T:TS} {n m n':Nat} {M:List Value→List (cR b)} (ps:List Nat) {X:List Value→List (cR b)} {Y:List Value→List Value→List (cR b)} {sel:List Value→List Value→List Value}
  (h0:∀ gs,st T.k gs=Eng.dQ (gs.length=n)::M gs) (hm:T.nw.length=m) (hX:∀ gs,ps.map (Eng.bT (M gs))=(X gs).map some) (hY:∀ gs vs,(Y gs vs).length=ps.length) (hps:ps.Nodup)
  (h1:∀ gs vs,gs.length=n→vs.length=m→st T.k' (sel gs vs)=Eng.dQ ((sel gs vs).length=n')::b8z (M gs) ps (Y gs vs)) (hs:∀ gs vs,gs.length=n→vs.length=m→(sel gs vs).length=n')
  (hmos:∀ gs vs,gs.length=n→vs.length=m→@Eng.mos (Eng.cA b ν st) (gs++vs) T.az' (sel gs vs))
  (hc:∀ gs us w f F,gs.length=n→cW (X gs) w f→(∀ x,f x→F x)→@Eng.zP (Eng.cA b ν st) gs w F T.args us→b≤w.heap.size→Calls P T.f us.toArray w fun e w'=>∃ u vs f',e = .returned u∧@Eng.a5m (Eng.cA b ν st) T.nw vs∧@e9m (Eng.cA b ν st) (gs++vs) T.out u∧cW (Y gs vs) w' f'∧cJ f w w'∧tF f w f'):T.Ok P ν st:=by
 intro w gs us v F ha y Z hb;rw[h0] at y;have V:=(y.at_ 0 _ rfl).1;have L:(X gs).length=ps.length:=by have:=congrArg List.length (hX gs);simpa using this.symm
 have D:∀ j p,Eng.bT ps j=some p→∃ A,Eng.bT (M gs) p=some A∧Eng.bT (X gs) j=some A:=fun j p a=>by
  have W:Eng.bT (ps.map (Eng.bT (M gs))) j=Eng.bT ((X gs).map some) j:=by rw[hX]
  rw[gW,gW,List.getElem?_map,List.getElem?_map,← gW,← gW,a] at W;have d:j < (X gs).length:=by rw[L];rw[gW] at a;exact(aU.1 a).1
  rw[gW (X gs),aO d] at W;simp only[Option.map_some,Option.some.injEq] at W;exact⟨_,W,by rw[gW,aO d]⟩
 have N:=a6l hps
 let f:Nat→Prop:=fun x=>∃ j p,Eng.bT ps j=some p∧v (p+1) x
 have a0:cW (X gs) w f:=by
  refine⟨fun j x=>∃ p,Eng.bT ps j=some p∧v (p+1) x,⟨fun j A d=>?_,fun i j x ⟨p,p1,s⟩ ⟨q,q1,q2⟩=>?_,fun j d x ⟨p,p1,s⟩=>?_⟩,fun x=>⟨fun ⟨j,p,p1,s⟩=>⟨j,p,p1,s⟩,fun ⟨j,p,p1,s⟩=>⟨j,p,p1,s⟩⟩⟩
  ·have a3:j < ps.length:=by rw[← L];rw[gW] at d;exact(aU.1 d).1
   have a:Eng.bT ps j=some ps[j]:=by rw[gW,aO a3]
   obtain⟨A',I,S⟩:=D j _ a;rw[d] at S;cases S;have:=y.at_ (ps[j]+1) A I;have e:(fun x=>∃ p,Eng.bT ps j=some p∧v (p+1) x)=v (ps[j]+1):=by
    funext x;apply propext;constructor
    ·rintro⟨p,p1,s⟩;rw[a] at p1;cases p1;exact s
    ·intro q;exact⟨_,a,q⟩
   rw[e];exact this
  ·have:=y.ap (p+1) (q+1) x s q2;have:p=q:=by omega
   subst this;exact N i j p p1 q1
  ·obtain⟨A,I,S⟩:=D j p p1;rw[d] at S;cases S
 refine(hc gs us w f F V a0 (fun x ⟨j,p,p1,s⟩=>(Z x).2 ⟨_,s⟩) ha hb).mono ?_;rintro e w' ⟨u,vs,f',rfl,q1,q2,⟨U,q3,a6⟩,K,q5⟩;have E:vs.length=m:=by rw[← hm];exact @c2i (Eng.cA b ν st) _ _ q1
 have O:=hY gs vs;have a4:∀ j p,Eng.bT ps j=some p→∃ A,Eng.bT (Y gs vs) j=some A:=fun j p a=>by
  have d:j < (Y gs vs).length:=by rw[O];rw[gW] at a;exact(aU.1 a).1
  exact⟨_,by rw[gW];exact aO d⟩
 have Q:∀ p∈ps,p≤(M gs).length:=fun p a=>by
  obtain⟨j,d,rfl⟩:=List.mem_iff_getElem.1 a;obtain⟨A,I,-⟩:=D j ps[j] (by rw[gW,aO d]);rw[gW] at I;exact Nat.le_of_lt (aU.1 I).1
 have C:=b4l ps (M gs) (Y gs vs) O Q;have G:∀ k x,U k x→f x∨w.heap.size≤x:=fun k x o=>q5 x ((a6 x).2 ⟨k,o⟩)
 let g:Nat→Nat→Prop:=fun i=>match i with
  | 0=>v 0
  | j+1=>match nO ps j with
   | some k=>U k
   | none=>v (j+1)
 have z:∀ {j k},nO ps j=some k→g (j+1)=U k:=fun {j k} h=>by show (match nO ps j with|some k=>U k|none=>v (j+1))=_;rw[h]
 have t:∀ {j},nO ps j=none→g (j+1)=v (j+1):=fun {j} h=>by show (match nO ps j with|some k=>U k|none=>v (j+1))=_;rw[h]
 have B:∀ j x,nO ps j=none→v (j+1) x→¬ f x:=fun j x d o ⟨k,p,p1,s⟩=>by
  have:=y.ap (j+1) (p+1) x o s;have:p=j:=by omega
  subst this;exact a6k d k p1
 have r:∀ x,v 0 x→False:=fun x o=>(y.at_ 0 _ rfl).2 x o
 have a5:∀ i A,Eng.bT (Eng.dQ (gs.length=n)::M gs) i=some A→(∀ x,v i x→¬ f x)→A.P w' (v i):=fun i A c o=>A.up (y.at_ i A c) K o (fun x ⟨k,p,p1,s⟩=>(y.lt _ x s).1)
 have R:cW (st T.k' (sel gs vs)) w' (fun x=>∃ i,g i x):=by
  rw[h1 gs vs V E];refine⟨g,⟨fun i A c=>?_,fun i j x c d=>?_,fun i c x o=>?_⟩,fun x=>Iff.rfl⟩
  ·cases i with
   | zero=>cases c;exact⟨hs gs vs V E,fun x o=>r x o⟩
   | succ i =>
    have c:Eng.bT (b8z (M gs) ps (Y gs vs)) i=some A:=c;rw[C] at c;cases a:nO ps i with
    | some k =>
     rw[a] at c;rw[z a];exact q3.at_ k A c
    | none =>
     rw[a] at c;rw[t a];exact a5 (i+1) A c (fun x o=>B i x a o)
  ·cases i with
   | zero=>exact(r x c).elim
   | succ i =>
    cases j with
    | zero=>exact(r x d).elim
    | succ j =>
     cases a:nO ps i with
     | some k =>
      rw[z a] at c;cases J:nO ps j with
      | some l =>
       rw[z J] at d;have:=q3.ap k l x c d;subst this;have e1:=tH a;rw[tH J] at e1;cases e1;rfl
      | none =>
       rw[t J] at d;rcases G k x c with q|q
       ·exact(B j x J d q).elim
       ·have:=(y.lt (j+1) x d).2;omega
     | none =>
      rw[t a] at c;cases J:nO ps j with
      | some l =>
       rw[z J] at d;rcases G l x d with q|q
       ·exact(B i x a c q).elim
       ·have:=(y.lt (i+1) x c).2;omega
      | none =>
       rw[t J] at d;exact y.ap (i+1) (j+1) x c d
  ·cases i with
   | zero=>cases c
   | succ i =>
    have c:Eng.bT (b8z (M gs) ps (Y gs vs)) i=none:=c;rw[C] at c;cases a:nO ps i with
    | some k =>
     rw[a] at c;obtain⟨A,I⟩:=a4 k i (tH a);dsimp only at c;rw[I] at c;cases c
    | none =>
     rw[a] at c;rw[t a] at o;exact y.no (i+1) c x o
 refine⟨u,vs,sel gs vs,_,rfl,q1,@e3s (Eng.cA b ν st) _ _ _ _ _ _ _ q2,hmos gs vs V E,R,⟨K.os,K.tape,K.output,K.size,fun k hk hn=>K.block k hk fun ⟨j,p,p1,s⟩=>hn ((Z k).2 ⟨_,s⟩)⟩,fun x ⟨i,o⟩=>?_⟩;cases i with
 | zero=>exact(r x o).elim
 | succ i =>
  cases a:nO ps i with
  | some k =>
   rw[z a] at o;rcases G k x o with⟨j,p,p1,s⟩|q
   ·exact .inl ((Z x).2 ⟨_,s⟩)
   ·exact .inr q
  | none =>
   rw[t a] at o;exact .inl ((Z x).2 ⟨_,o⟩)
end
end
end Go.Proofs.YthgnlfikneipiaaGreat
namespace Go.Proofs.YthgnlfikneipiaaGreat
open Go.RowKit
open Go.Eng (cR cJ TS dN cW cY bQ)
theorem d3l {b:Nat} {ν:Nat→Int} {H:Eng.Hp} {n:Nat} {rt:List Eng.AV} {vals:List Value} {w:World} {F:Nat→Prop} {d:Value} (h:(cY b ν H n rt vals).P w F) (hd:d.oneCell'=true):(cY b ν H (n+1) (rt++[.opq n]) (vals++[d])).P w F:=by
 letI:Eng.fP:=bQ b ν
 obtain⟨G,o,p,v,z⟩:=h
 let G':Eng.GM:=fun i=>if i=n then some ⟨0,0,0,0,d⟩ else G i
 have a:Eng.lK G G':=fun i x e=>by
  show (if i=n then _ else G i)=_;rw[if_neg (fun q=>by rw[q,p n (aF _)] at e;cases e)];exact e
 have t:∀ i c,Eng.cK H i=some c→c.live→i≠n:=fun i c l r q=>by
  obtain⟨x,g,_⟩:=o.bs i c l r;rw[q,p n (aF _)] at g;cases g
 have m:∀ i,i≠n→G' i=G i:=fun i q=>if_neg q
 refine⟨G',⟨fun i c f r=>?_,fun i j c e x y f l u he D E s=>?_⟩,fun i f=>?_,?_,z⟩
 ·obtain⟨x,g,A,B,C⟩:=o.bs i c f r;exact⟨x,a _ _ g,A,B,C.mono a rfl⟩
 ·exact o.inj i j c e x y f l u he (by rw[← m i (t i c f l)];exact D) (by rw[← m j (t j e u he)];exact E) s
 ·rw[m i (by omega)];exact p i (by omega)
 ·refine a0z (Eng.cT a v) ?_;show (G' n).bind Eng.GI.ov=some d;rw[show G' n=some ⟨0,0,0,0,d⟩ from if_pos rfl];show (bif d.oneCell' then some d else none)=_;rw[hd];rfl
theorem b9a {b:Nat} {ν:Nat→Int}:@Eng.BD (bQ b ν) []:=fun i p h=>by cases i<;>cases h
end Go.Proofs.YthgnlfikneipiaaGreat
