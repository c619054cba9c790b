/- Texts of the proof, joined. -/
import Derived.Test.YthgnlfikneipiaaGreatMg1
import Derived.Test.YthgnlfikneipiaaGreatMg12
import Derived.Great.FillDense
import Derived.Great.BuildSlice
set_option linter.unusedSimpArgs false
set_option linter.unusedVariables false
set_option linter.unusedSectionVars false
set_option maxRecDepth 100000
set_option maxHeartbeats 4000000
namespace Go.Proofs.YthgnlfikneipiaaGreat
open Go.RowKit
open Go.Eng (cR cJ TS dN cW)
section
variable {w0 w W : World} {F : Nat → Prop} {V : FV} {fl : FL} {n0 N K : Nat} {B : List UInt8} {pts : List Pt} {l l' : List (cR w0.heap.size)}
theorem a3x {W2:World} (h:Lf l w F W) (k:∀ F',cW l W F'→Lf l' W F' W2):Lf l' w F W2:=by
 obtain⟨c,d,a,b⟩:=h;obtain⟨f,g,i,j⟩:=k c d;exact⟨f,g,a9c a i b,fun x q=>(j x q).elim (b x) fun q => .inr (aL a.size q)⟩
theorem oU {W2:World} (h:Lf l w F W) (hu:bR [] W W2):Lf l w F W2:=a3x h fun b a=>xB a hu
theorem tM (h:cW l w F):Lf l w F w:=⟨F,h,d7l F w,fun x q => .inl q⟩
def Lo {α:Type} (sz:Nat) (c:α→List Value) (e:TypeId) (l:List (cR w0.heap.size)) (w:World) (F:Nat→Prop) (W:World) (v:Value) (xs:List α):Prop :=
 ∃ F',cW l W F'∧cJ F w W∧tF F w F'∧(∀ x∈blk v,¬ F' x)∧cF sz c w.heap.size e W v xs
variable {α : Type} {sz : Nat} {c : α → List Value} {e : TypeId} {v : Value} {xs : List α}
theorem e3z (h:Lf l w F W):Lo sz c e l w F W (.slice none 0 0) ([]:List α):=by
 obtain⟨a,b,d,f⟩:=h;exact⟨a,b,d,f,fun x g=>by simp[blk] at g,cF.nil _ _ _⟩
theorem d8h {W2:World} (h:Lo sz c e l w F W v xs) (k:∀ F',cW l W F'→Lf l' W F' W2):Lo sz c e l' w F W2 v xs:=by
 obtain⟨m,o,b,d,f,g⟩:=h;obtain⟨p,s,i,j⟩:=k m o;obtain⟨L,t,u⟩:=rY i;refine⟨p,s,a9c b i d,fun x q=>(j x q).elim (d x) fun q => .inr (aL b.size q),fun x a q=>?_,g.upd t (fun x a y=>f x a (u x y))⟩;rcases j x q with r|r
 ·exact f x a r
 ·have:=(g.ge x a).2;omega
theorem b4r {fn:FuncId} {us:Array Value} {R:Ending→Prop} (h:Lo sz c e l w F W v xs) (hc:∀ F',cW l W F'→Calls Tryz.prog fn us W fun e w'=>R e∧Lf l' W F' w'):Calls Tryz.prog fn us W fun e' w'=>R e'∧Lo sz c e l' w F w' v xs:=by
 obtain⟨m,o,b,d,f,g⟩:=h;refine(hc m o).mono ?_;rintro e' A ⟨p,s,t,i,j⟩;obtain⟨L,u,y⟩:=rY i;refine⟨p,s,t,a9c b i d,fun x q=>(j x q).elim (d x) fun q => .inr (aL b.size q),fun x a q=>?_,g.upd u (fun x a z=>f x a (y x z))⟩;rcases j x q with r|r
 ·exact f x a r
 ·have:=(g.ge x a).2;omega
theorem a9m (h:Lo sz c e l w F W v xs):w.heap.size≤W.heap.size:=by
 obtain⟨b,d,a,f,g,i⟩:=h;exact a.size
theorem b9f {W2:World} (h:Lo sz c e l w F W v xs) (hu:bR [] W W2):Lo sz c e l w F W2 v xs:=d8h h fun b a=>xB a hu
theorem e4a (h:Lo sz c e l w F W v xs):cF sz c w.heap.size e W v xs:=by
 obtain⟨b,d,f,g,i,a⟩:=h;exact a
theorem e9t (h:Lo sz c e l w F W v xs):Lf l w F W:=by
 obtain⟨a,b,d,f,g,i⟩:=h;exact⟨a,b,d,f⟩
theorem e4b {W2:World} {v2:Value} {ys:List α} (hb:w0.heap.size≤w.heap.size) (h:Lo sz c e l w F W v xs) (ho:cF sz c w.heap.size e W2 v2 ys) (hu:bR (blk v) W W2) (hk:∀ x∈blk v2,x∈blk v∨W.heap.size≤x):Lo sz c e l w F W2 v2 ys:=by
 obtain⟨g,b,i,j,d,f⟩:=h;refine⟨g,b.up (a3m hu) (fun x a m=>d x m a) (fun x a=>aL hb (f.ge x a).1),c1z i hu (fun x a => .inr (f.ge x a).1),j,fun x a q=>?_,ho⟩;rcases hk x a with r|r
 ·exact d x r q
 ·have:=(b.lt x q).2;omega
theorem xD (h:cW (eI w0 V fl n0 N K B pts) W F):∃ gf,V.f = .pointer (some ⟨gf,0,none⟩)∧cU W gf 98 [V.y,V.r,V.l,V.j,V.t,V.a]∧F gf:=by
 obtain⟨p,s,u,p1,⟨gf,b,c,v,w,d⟩,x,g,i,m,o⟩:=iK h;exact⟨gf,b,c,(o gf).2 (.inr (.inl ((d gf).2 rfl)))⟩
theorem d8i {gf:Nat} (hv:V.f = .pointer (some ⟨gf,0,none⟩)) (h:Lf (eI w0 V fl n0 N K B pts) w F W):cU W gf 98 [V.y,V.r,V.l,V.j,V.t,V.a]:=by
 obtain⟨i,c,m,o⟩:=h;obtain⟨g,b,d,-⟩:=xD c;rw[hv] at b;have:gf=g:=by simpa using b
 rw[this];exact d
theorem a1a {fn:FuncId} {us:Array Value} {r:Value} (h:cW (eI w0 V fl n0 N K B pts) w F) (hc:∀ F1,jJ (cS B 0 pts)→(eU w0.heap.size V.t (cS B 0 pts)).P w F1→Calls Tryz.prog fn us w (qL w0.heap.size V.t (cS B 0 pts) r w F1)) :
  Calls Tryz.prog fn us w fun e w'=>e = .returned r∧Lf (eI w0 V fl n0 N K B pts) w F w':=by
 have u:cW ([kY w0 V.y fl n0,lO w0 V.d V.l V.j pts.length N K,cD _ V.r]++eU _ V.t (cS B 0 pts)::([yV _ V]++pts.map (qN _ B))) w F:=h;obtain⟨z,f,c,g,m,b⟩:=a9h u;have v:=(iK h).elim fun F1 q=>q.elim fun E q=>q.elim fun G q=>qO (i:=0) q.2.2.1
 refine(hc f v g).mono ?_;rintro e w' ⟨A,rfl,C,o,s⟩;have a:=c.up o (fun x p q=>m x q p) (fun x q=>((eU _ _ _).lt g x q).1);refine⟨rfl,fun x=>z x∨A x,d3k (pre:=[_,_,_]) a C (fun x p q=>?_),jP o fun x q=>(b x).2 (.inr q),fun x D=>?_⟩
 ·rcases s x p with r|r
  ·exact m x r q
  ·have:=(c.lt x q).2;omega
 ·rcases D with q|q
  ·exact .inl ((b x).2 (.inl q))
  ·exact(s x q).imp (fun q=>(b x).2 (.inr q)) id
end
def eF:Nat→List Pt→List Int
 | _,[]=>[]
 | i,none::l=>eF (i+1) l
 | i,some _::l=>((i+1:Nat):Int)::eF (i+1) l
theorem zA:∀ (l m:List Pt) (i:Nat),eF i (l++m)=eF i l++eF (i+l.length) m
 | [],m,i=>by simp[eF]
 | none::l,m,i=>by simp only[List.cons_append,eF,zA l m (i+1),aW];rw[show i+1+l.length=i+(l.length+1) by omega]
 | some q::l,m,i=>by simp only[List.cons_append,eF,zA l m (i+1),aW];rw[show i+1+l.length=i+(l.length+1) by omega]
theorem b9g (l:List Pt) (k:Nat) (hk:k < l.length):eF 0 (l.take (k+1))=eF 0 (l.take k)++eF k [l[k]]:=by
 rw[bC hk,zA,aJ,aM,Nat.min_eq_left (by omega)]
theorem tQ:∀ (l:List Pt) (i:Nat),(eF i l).length≤l.length
 | [],i=>by simp[eF]
 | none::l,i=>by have:=tQ l (i+1);simp only[eF,aW];omega
 | some q::l,i=>by have:=tQ l (i+1);simp only[eF,aW];omega
abbrev mG (n:Int):List Value:=[iv n]
theorem d3y:(Tryz.prog.info? 3).map (fun i=>(i.zero,i.size,i.bytes))=some (some (.int .i64 0),1,8):=by kernel_rfl
theorem c2m {B:List UInt8} {i:Nat} {p:Pt} (h:uN (lT B i p)):(lT B i p).toArray.size=21∧(lT B i p).toArray.all (·.oneCell')=true∧(lT B i p).toArray[0]?=some (.bool p.isSome):=by
 refine⟨by rw[List.size_toArray];exact h.1,?_,by cases p<;>rfl⟩;rw[List.all_toArray,bB];exact h.2
theorem qP (w:World) (old cs:Array Value) (t:TypeId):bR [] w ((w.alloc (.cells old t (0,0))).setRow w.heap.size cs)∧cU ((w.alloc (.cells old t (0,0))).setRow w.heap.size cs) w.heap.size t cs.toList:=by
 refine⟨((bR.refl [] w).alloc _).trans (T:=[]) (c1d _ w.heap.size cs) (by simp) (fun y a => .inr (by simp at a;omega)),?_⟩;have:=setRow_heap (w.alloc (.cells old t (0,0))) w.heap.size old cs t (0,0) (heap_alloc_new _ _);unfold cU;rw[this]
theorem d8j (W:World) (n:Int) (t:TypeId):qW 1 mG (W.alloc (.cells #[.int .i64 n] t)) (.slice (some ⟨W.heap.size,0,none⟩) 1 1) [n]:=by
 have b:=cU.new W t [.int .i64 n];refine⟨_,1,rfl,by simp,by simp[maxLen],fun _=>⟨W.heap.size,0,rfl,fun j a i c=>?_⟩⟩;simp at a;subst a;have:=b.cell i;rw[cP,show 0+(0*1+i)=i by omega];exact this
theorem a1b:(Tryz.prog.info? 90).map (·.size)=some 21:=by kernel_rfl
section
variable {w0 w W : World} {F : Nat → Prop} {V : FV} {fl : FL} {n0 N K : Nat} {B : List UInt8} {pts : List Pt}
theorem e4c {i:Nat} (hi:i < pts.length) (hp:pts.length≤9) (h:cW (eI w0 V fl n0 N K B pts) w F) (hb:w0.heap.size≤w.heap.size):Calls Tryz.prog 80 #[V.t,.int .i64 (i:Int)] w fun e w'=>e = .returned (.tuple #[.int .i64 ((i+1:Nat):Int),.agg (lT B i pts[i]).toArray,.bool true])∧Lf (eI w0 V fl n0 N K B pts) w F w':=by
 have c:=fW B pts 0;have:=a1a h fun d a b=>e3t b a hb (by omega) (i:=i) (by omega)
 rw[jZ B pts 0 i hi (by omega),aM] at this;exact this
theorem c2n {i:Nat} (hi:i < pts.length) (hp:pts.length≤9) (h:cW (eI w0 V fl n0 N K B pts) w F) (hb:w0.heap.size≤w.heap.size):Calls Tryz.prog 29 #[V.t,.int .i64 ((i+1:Nat):Int)] w fun e w'=>e = .returned (.tuple #[.agg (lT B i pts[i]).toArray,.bool true])∧Lf (eI w0 V fl n0 N K B pts) w F w':=by
 have c:=fW B pts 0;have:=a1a h fun d a b=>c2j b a hb (by omega) (i:=i) (by omega)
 rw[jZ B pts 0 i hi (by omega),aM] at this;exact this
theorem e4d {i:Nat} (hi:pts.length≤i) (hi2:i < 12) (hp:pts.length≤9) (h:cW (eI w0 V fl n0 N K B pts) w F) (hb:w0.heap.size≤w.heap.size):Calls Tryz.prog 29 #[V.t,.int .i64 ((i+1:Nat):Int)] w fun e w'=>e = .returned (.tuple #[.agg ptZ.toArray,.bool false])∧Lf (eI w0 V fl n0 N K B pts) w F w':=by
 have b:=fW B pts 0;exact a1a h fun c d a=>d3n a hb (by omega) (i:=i) (by omega) hi2
theorem d8k (hp:pts.length≤9) (h:cW (eI w0 V fl n0 N K B pts) w F) (hb:w0.heap.size≤w.heap.size):Calls Tryz.prog 79 #[V.t] w fun e w'=>e = .returned (.int .i64 (pts.length:Int))∧Lf (eI w0 V fl n0 N K B pts) w F w':=by
 have a:=fW B pts 0;have:=a1a h fun c d b=>d8a b hb (by omega)
 rw[a] at this;exact this
theorem b4s (hp:pts.length≤9) (h:cW (eI w0 V fl n0 N K B pts) w F) (hb:w0.heap.size≤w.heap.size) :
  Calls Tryz.prog 45 #[V.f] w fun e w'=>∃ u,e = .returned u∧Lo 1 mG 3 (eI w0 V fl n0 N K B pts) w F w' u (eF 0 pts):=by
 obtain⟨gf,r,Y,Z⟩:=xD h;rw[r];have HV:=bG r;have S:Hid (Lo 1 mG 3 (eI w0 V fl n0 N K B pts) w F w (.slice none 0 0) (eF 0 (pts.take 0))):=e3z (tM h);have HB:=bG hb;have HC:Hid (∀ W u j,Lo 1 mG 3 (eI w0 V fl n0 N K B pts) w F W u j→W.cell? ⟨gf,4,none⟩=some V.t):=fun W u j z=>(d8i r (e9t z)).cell 4
 have s:Hid (∀ W u j,Lo 1 mG 3 (eI w0 V fl n0 N K B pts) w F W u j→Calls Tryz.prog 79 #[V.t] W fun e w'=>e = .returned (.int .i64 (pts.length:Int))∧Lo 1 mG 3 (eI w0 V fl n0 N K B pts) w F w' u j):=fun W u j z=>b4r z fun F' A=>d8k hp A (aL hb (a9m z))
 have C:Hid (∀ W u j i (hi:i < pts.length),Lo 1 mG 3 (eI w0 V fl n0 N K B pts) w F W u j→Calls Tryz.prog 80 #[V.t,.int .i64 (i:Int)] W fun e w'=>e = .returned (.tuple #[.int .i64 ((i+1:Nat):Int),.agg (lT B i pts[i]).toArray,.bool true])∧Lo 1 mG 3 (eI w0 V fl n0 N K B pts) w F w' u j):=fun W u j i hi z=>b4r z fun F' A=>e4c hi hp A (aL hb (a9m z))
 have D:Hid (∀ k (hk:k < pts.length),uN (lT B k pts[k])):=fun k hk=>by
  have hl:=fW B pts 0;obtain⟨F1,F2,F3,_,_,p3,_⟩:=iK h;have:=qO (i:=0) p3 _ (bP (show k < (cS B 0 pts).length by omega));rw[jZ B pts 0 k hk (by omega),aM] at this;exact this
 have P:=HC.out _ _ _ S.out;clear r h Y Z hb;go_enter Tryz.func45,Tryz.ntmps45;go_wp2_with fail
 (with_reducible refine(s.out _ _ _ S.out).mono ?_)
 rintro e w1 ⟨rfl,I⟩;have H1:=bG I;clear I S P s;go_wp2_with fail
 go_loopw [3,13] (fun v i wr=>∃ k:Nat,k≤pts.length∧i = .int .i64 k∧Hid (Lo 1 mG 3 (eI w0 V fl n0 N K B pts) w F wr v (eF 0 (pts.take k)))) (fun _ i _=>pts.length-(intOf i).toNat)
 case atStart=>exact⟨0,aS _,rfl,H1⟩
 case round =>
  obtain⟨k,hk,rfl,J⟩:=hrel;by_cases y:k < pts.length
  ·have E:=bG (C.out wr u3 _ k y J.out);have d:=bG (b9g pts k y);have G:Hid ((eF 0 (pts.take k)).length≤9):=by
    have:=tQ (pts.take k) 0;rw[aJ] at this;unfold Hid;omega
   have P:=HC.out _ _ _ J.out;have q0:(0:Int)≤k:=by omega
   have q1:(k:Int) < pts.length:=by omega
   have T:=c2m (D.out k y);clear J C;generalize pts[k]=p at *
   generalize (lT B k p).toArray=cs at *
   obtain⟨z1,z2,z3⟩:=T;have Q:=bG z1;have Z2:=bG z2;have Z3:=bG z3;clear z1 z2 z3;cases p with
   | none =>
    have d:Hid (eF 0 (pts.take (k+1))=eF 0 (pts.take k)):=by
     have:=d.out;rw[show eF k [(none:Pt)]=[] from rfl,bA] at this;exact this
    generalize ((k+1:Nat):Int)=ino at E;generalize eF 0 (pts.take k)=j at *
    go_wp2_with fail
    (with_reducible refine E.out.mono ?_)
    rintro e g ⟨rfl,o⟩;have U:=bG o;clear o E P;go_wp2_with (first|((refine wpList_store_row rfl 90 (.tmp 6) (.tmp 24) rfl g.heap.size cs rfl rfl _ _ (heap_alloc_new _ _) (by rw[Q.out];exact a1b) (by rw[Q.out];rfl) Z2.out ?_);(have a:=bG (qP g ptZ.toArray cs 90));(generalize b:World.setRow _ g.heap.size cs=w3);(have l:bR [] g w3:=(by rw[← b];exact a.out.1));(have m:cU w3 g.heap.size 90 cs.toList:=(by rw[← b];exact a.out.2));(have X:=bG (b9f U.out l));(have e0:w3.cell? ⟨g.heap.size,0,none⟩=some (.bool false):=(by rw[m.cell 0,Array.getElem?_toList];exact Z3.out));(clear b l m a))|fail)
    go_roundw
    case rel=>exact⟨k+1,by omega,by go_num,by rw[d.out];exact X⟩
    case measure=>simp[intOf];omega
   | some q =>
    have d:Hid (eF 0 (pts.take (k+1))=eF 0 (pts.take k)++[((k+1:Nat):Int)]):=d;generalize ((k+1:Nat):Int)=ino at *
    generalize eF 0 (pts.take k)=j at *
    go_wp2_with fail
    (with_reducible refine E.out.mono ?_)
    rintro e g ⟨rfl,o⟩;have U:=bG o;clear o E P;go_wp2_with (first|((refine wpList_store_row rfl 90 (.tmp 6) (.tmp 24) rfl g.heap.size cs rfl rfl _ _ (heap_alloc_new _ _) (by rw[Q.out];exact a1b) (by rw[Q.out];rfl) Z2.out ?_);(have a:=bG (qP g ptZ.toArray cs 90));(generalize b:World.setRow _ g.heap.size cs=w3);(have l:bR [] g w3:=(by rw[← b];exact a.out.1));(have m:cU w3 g.heap.size 90 cs.toList:=(by rw[← b];exact a.out.2));(have X:=bG (b9f U.out l));(have e0:w3.cell? ⟨g.heap.size,0,none⟩=some (.bool true):=(by rw[m.cell 0,Array.getElem?_toList];exact Z3.out));(clear b l m a))|(at_builtin;go_must ((have R:=bG (b9f X.out ((bR.refl [] w3).alloc (.cells #[.int .i64 ino] 3))));refine cQ rfl _ _ rfl u3 (.slice (some ⟨w3.heap.size,0,none⟩) 1 1) rfl rfl (fR (c:=mG) (sz:=1) (fun _=>rfl) (by decide) (fun x u hu=>by rw[List.mem_singleton.1 hu];rfl) Tryz.underlying22 d3y rfl _ _ j [ino] (e4a R.out) (d8j w3 ino _) (by have:=G.out;simp;omega) (by have:=G.out;unfold maxLen;simp;omega) (a9m R.out)) ?_;rintro v5 w5 ⟨L,M,O⟩;have H5:=bG (e4b HB.out R.out L M O);clear L M O R))|fail)
    go_roundw
    case rel=>exact⟨k+1,by omega,by go_num,by rw[d.out];exact H5⟩
    case measure=>simp[intOf];omega
  ·obtain rfl:k=pts.length:=by omega
   rw[aV] at J;go_wp2_with fail
   go_ret;exact⟨_,rfl,J.out⟩
end
def cG {α:Type} (b sz:Nat) (c:α→List Value) (e:TypeId) (v:Value) (xs:List α):cR b where
 P w F:=cF sz c b e w v xs∧∀ x,F x↔x∈blk v
 up:=by
  rintro w w' F S ⟨h1,h2⟩ hu hs hb;obtain⟨L,l1,l2⟩:=rY hu;exact⟨h1.upd l1 (fun x hx hl=>hs x ((h2 x).2 hx) (l2 x hl)),h2⟩
 lt:=by
  rintro w F ⟨h1,h2⟩ x hx;exact h1.ge x ((h2 x).1 hx)
def cM (b g:Nat) (t:TypeId) (cs:List Value):cR b where
 P w F:=cU w g t cs∧b≤g∧∀ x,F x↔x=g
 up:=by
  rintro w w' F S ⟨h1,h2,h3⟩ hu hs hb;obtain⟨L,l1,l2⟩:=rY hu;exact⟨h1.upd l1 (fun q=>hs g ((h3 g).2 rfl) (l2 g q)),h2,h3⟩
 lt:=by
  rintro w F ⟨h1,h2,h3⟩ x hx;rw[(h3 x).1 hx];exact⟨h2,h1.lt⟩
section
variable {w0 w W : World} {F : Nat → Prop} {l m : List (cR w0.heap.size)} {A A' : cR w0.heap.size}
theorem eO (h:Lf l w F W):w.heap.size≤W.heap.size:=by
 obtain⟨b,c,a,d⟩:=h;exact a.size
theorem sG {i:Nat} (h:Lf l w F W) (hi:Eng.bT l i=some A):∃ f,A.P W f:=by
 obtain⟨b,⟨c,a,d⟩,g,j⟩:=h;exact⟨_,a.at_ i A hi⟩
theorem a3y {i:Nat} {W2:World} (h:Lf l w F W) (hi:Eng.bT l i=some A) (hl:i < l.length) (k:∀ f,A.P W f→∃ f',A'.P W2 f'∧cJ f W W2∧tF f W f'):Lf (Eng.put l i A') w F W2 :=
 a3x h fun o j=>by
  obtain⟨m,a,b⟩:=j;obtain⟨f',c,d,g⟩:=k _ (a.at_ i A hi);exact a.step1 b i (Nat.le_of_lt hl) c d g
theorem oV {f:Nat→Prop} {W2:World} (h:Lf (A::l) w F W) (hu:bR [] W W2) (hA:A'.P W2 f) (hf:∀ x,f x→W.heap.size≤x):Lf (A::A'::l) w F W2 :=
 a3x h fun c g=>by
  have i:cW (A::l) W2 c:=g.up (uL hu) (fun _ _ q=>q) (fun _ q=>q.elim);obtain⟨t,j,o,r,s,b⟩:=Eng.cW.split (l:=[A]) (m:=l) i;have a:∀ x,c x→x < W.heap.size:=fun x d=>(g.lt x d).2
  refine⟨fun x=>c x∨f x,Eng.cW.join (l:=[A]) (m:=A'::l) o (Eng.cW.join (l:=[A']) (m:=l) (F:=fun x=>f x∨j x) (Eng.cW.one.2 hA) r (fun x p q=>?_) fun x=>Iff.rfl) (fun x p q=>?_) (fun x=>?_),a9d hu,fun x d=>d.imp id (hf x)⟩
  ·have:=a x ((b x).2 (.inr q));have:=hf x p;omega
  ·rcases q with q|q
   ·have:=a x ((b x).2 (.inl p));have:=hf x q;omega
   ·exact s x p q
  ·rw[b];constructor
   ·rintro((p|p)|p)
    ·exact .inl p
    ·exact .inr (.inr p)
    ·exact .inr (.inl p)
   ·rintro(p|p|p)
    ·exact .inl (.inl p)
    ·exact .inr p
    ·exact .inl (.inr p)
theorem eZ (h:Lf (A::A'::l) w F W):Lf (A::l) w F W:=by
 obtain⟨u,b,c,d⟩:=h;obtain⟨f,v,g,i,j,o⟩:=Eng.cW.split (l:=[A]) (m:=A'::l) b;obtain⟨y,r,z,s,B,a⟩:=Eng.cW.split (l:=[A']) (m:=l) i;refine⟨fun x=>f x∨r x,Eng.cW.join (l:=[A]) (m:=l) g s (fun x p q=>j x p ((a x).2 (.inr q))) fun x=>Iff.rfl,c,fun x t=>d x ((o x).2 ?_)⟩;exact t.imp id fun q=>(a x).2 (.inr q)
theorem dR {fn:FuncId} {us:Array Value} {R:Ending→List (cR w0.heap.size)→Prop} (h:Lf (A::l) w F W) (hc:∀ f,A.P W f→Calls Tryz.prog fn us W fun e w'=>∃ l2,R e l2∧Lf l2 W f w'):Calls Tryz.prog fn us W fun e w'=>∃ l2,R e l2∧Lf (l2++l) w F w':=by
 obtain⟨B,s,c,a⟩:=h;obtain⟨t,u,d,g,i,b⟩:=Eng.cW.split (l:=[A]) (m:=l) s;refine(hc t (cC.1 d)).mono ?_;rintro e w' ⟨l2,v,y,z,j,o⟩;refine⟨l2,v,fun x=>y x∨u x,Eng.cW.join z (g.up j (fun x p q=>i x q p) fun x q=>(d.lt x q).1) (fun x p q=>?_) fun x=>Iff.rfl,?_,?_⟩
 ·rcases o x p with r|r
  ·exact i x r q
  ·have:=(g.lt x q).2;omega
 ·exact a9c c (jP j fun x q=>(b x).2 (.inl q)) a
 ·rintro x (q|q)
  ·rcases o x q with r|r
   ·exact a x ((b x).2 (.inl r))
   ·exact .inr (aL c.size r)
  ·exact a x ((b x).2 (.inr q))
theorem e9u {W2:World} {A2:cR w0.heap.size} (h:Lf (A::l) w F W) (k:∀ f,A.P W f→∃ f',A2.P W2 f'∧cJ f W W2∧tF f W f'):Lf (A2::l) w F W2:=a3y (i:=0) h rfl (by simp) k
theorem xE {A2:cR w0.heap.size} (h:Lf (A::l) w F W) (k:∀ f,A.P W f→A2.P W f):Lf (A2::l) w F W:=e9u h fun f a=>⟨f,k f a,d7l f W,fun x q => .inl q⟩
end
section
variable {b : Nat}
theorem d3z {w:World} (t:TypeId) (cs:List Value) (hb:b≤w.heap.size):(cM b w.heap.size t cs).P (w.alloc (.cells cs.toArray t)) (fun x=>x=w.heap.size):=⟨cU.new w t cs,hb,fun x=>Iff.rfl⟩
end
section
variable {w0 w W : World} {F : Nat → Prop} {l : List (cR w0.heap.size)} {A : cR w0.heap.size}
theorem eJ (t:TypeId) (cs:List Value) (hb:w0.heap.size≤w.heap.size) (h:Lf (A::l) w F W):Lf (A::cM _ W.heap.size t cs::l) w F (W.alloc (.cells cs.toArray t)):=oV h ((bR.refl [] W).alloc _) (d3z t cs (aL hb (eO h))) fun x a=>Nat.le_of_eq a.symm
theorem jE (h:Lf l w F W):Lf l w F W.drew:=oU h (bR.refl [] W).drew
theorem a9n {α:Type} {sz:Nat} {c:α→List Value} {e:TypeId} {v v2:Value} {xs ys:List α} {W2:World} {i:Nat} (h:Lf l w F W) (hi:Eng.bT l i=some (cG _ sz c e v xs)) (hl:i < l.length) (ho:cF sz c w0.heap.size e W2 v2 ys) (hu:bR (blk v) W W2) (hk:∀ x∈blk v2,x∈blk v∨W.heap.size≤x):Lf (Eng.put l i (cG _ sz c e v2 ys)) w F W2 :=
 a3y h hi hl fun f a=>⟨fun x=>x∈blk v2,⟨ho,fun x=>Iff.rfl⟩,jP (a3m hu) fun x q=>(a.2 x).2 q,fun x q=>(hk x q).imp (fun r=>(a.2 x).2 r) id⟩
end
def dV:Nat→List Bool→List Int
 | _,[]=>[]
 | i,false::l=>dV (i+1) l
 | i,true::l=>((i+1:Nat):Int)::dV (i+1) l
theorem xF:∀ (l:List Pt) (i:Nat),eF i l=dV i (l.map Option.isSome)
 | [],i=>rfl
 | none::l,i=>xF l (i+1)
 | some q::l,i=>by show _::_=_::_;rw[xF l (i+1)]
section
variable (w0 : World)
def cE (V:FV) (fl:FL) (n0 N K:Nat) (B:List UInt8) (pat:List Bool):cR w0.heap.size where
 P w F:=∃ pts n N' K',pts.map Option.isSome=pat∧n≤n0∧N'≤N∧K'≤K∧cW (eI w0 V fl n N' K' B pts) w F
 up:=by
  rintro w w' F S ⟨pts,n,N',K',h1,h2,h3,h4,h5⟩ hu hs hb;exact⟨pts,n,N',K',h1,h2,h3,h4,h5.up hu hs hb⟩
 lt:=by
  rintro w F ⟨pts,n,N',K',h1,h2,h3,h4,h5⟩ x hx;exact h5.lt x hx
end
def xG (cs:Array Value) (q:Bool):Prop:=cs.size=21∧cs.all (·.oneCell')=true∧cs[0]?=some (.bool q)
theorem d8l {B:List UInt8} {i:Nat} {p:Pt} (h:uN (lT B i p)):xG (lT B i p).toArray p.isSome:=c2m h
theorem c6h {B:List UInt8} {i:Nat} {p:Pt}:(lT B i p).toArray[2]?=some (.int .i64 1):=by cases p<;>rfl
theorem e9v:xG ptZ.toArray false:=⟨by rfl,by kernel_rfl,by rfl⟩
section
variable {w0 w W : World} {F : Nat → Prop} {V : FV} {fl : FL} {n0 N K : Nat} {B : List UInt8} {pat : List Bool}
theorem tT {n1 N1 K1:Nat} (h:(cE w0 V fl n0 N K B pat).P w F) (a:n0≤n1) (b:N≤N1) (c:K≤K1):(cE w0 V fl n1 N1 K1 B pat).P w F:=by
 obtain⟨d,n,f,g,i,l,m,o,j⟩:=h;exact⟨d,n,f,g,i,by omega,by omega,by omega,j⟩
theorem sH (h:(cE w0 V fl n0 N K B pat).P w F):∃ gf,V.f = .pointer (some ⟨gf,0,none⟩)∧cU w gf 98 [V.y,V.r,V.l,V.j,V.t,V.a]∧F gf:=by
 obtain⟨b,n,d,g,i,m,o,p,c⟩:=h;exact xD c
theorem c6i (h:(cE w0 V fl n0 N K B pat).P w F):(∃ g,V.y = .pointer (some ⟨g,0,none⟩))∧(∃ g,V.d = .pointer (some ⟨g,0,none⟩))∧(∃ g,V.l = .pointer (some ⟨g,0,none⟩))∧(∃ g,V.j = .pointer (some ⟨g,0,none⟩))∧(∃ g,V.r = .pointer (some ⟨g,0,none⟩))∧∃ g,V.t = .pointer (some ⟨g,0,none⟩):=by
 obtain⟨a,n,c,f,i,m,o,p,b⟩:=h;obtain⟨s,u,v,p1,_⟩:=iK b;exact sF p1
theorem oH {pts:List Pt} (h:pts.map Option.isSome=pat):pts.length=pat.length:=by rw[← h,aP]
theorem d4a {pts:List Pt} (h:pts.map Option.isSome=pat) (i:Nat) (hi:i < pat.length):(pts[i]'(by rw[oH h];exact hi)).isSome=pat[i]:=by subst h;simp
theorem b9h (hp:pat.length≤9) (hb:w0.heap.size≤w.heap.size) (h:(cE w0 V fl n0 N K B pat).P w F):Calls Tryz.prog 45 #[V.f] w fun e w'=>∃ l2,(∃ u,e = .returned u∧l2=[cE w0 V fl n0 N K B pat,cG _ 1 mG 3 u (dV 0 pat)])∧Lf l2 w F w':=by
 obtain⟨a,n,d,g,b,i,j,l,m⟩:=h;refine(b4s (by rw[oH b];exact hp) m hb).mono ?_;rintro e w' ⟨u,rfl,o,r,s,t,v,c⟩;rw[xF,b] at c;refine⟨_,⟨u,rfl,rfl⟩,fun x=>o x∨x∈blk u,eY (A:=cE w0 V fl n0 N K B pat) (B:=cG _ 1 mG 3 u (dV 0 pat)) ⟨a,n,d,g,b,i,j,l,r⟩ ⟨c.base_le hb,fun x=>Iff.rfl⟩ (fun x p q=>v x q p) fun x=>Iff.rfl,s,fun x q=>q.elim (t x) fun q => .inr (c.ge x q).1⟩
theorem e9w {fn:FuncId} {us:Array Value} {R:Ending→Prop} (h:(cE w0 V fl n0 N K B pat).P w F) (hc:∀ pts n N' K',pts.map Option.isSome=pat→n≤n0→N'≤N→K'≤K→cW (eI w0 V fl n N' K' B pts) w F→Calls Tryz.prog fn us w fun e w'=>R e∧Lf (eI w0 V fl n N' K' B pts) w F w'):Calls Tryz.prog fn us w fun e w'=>∃ l2,(R e∧l2=[cE w0 V fl n0 N K B pat])∧Lf l2 w F w':=by
 obtain⟨pts,n,N',K',a,b,c,d,f⟩:=h;refine(hc pts n N' K' a b c d f).mono ?_;rintro e w' ⟨g,i,j,l,m⟩;exact⟨_,⟨g,rfl⟩,i,(cC (A:=cE w0 V fl n0 N K B pat)).2 ⟨pts,n,N',K',a,b,c,d,j⟩,l,m⟩
theorem e0o {i:Nat} (hi:i < pat.length) (hp:pat.length≤9) (hb:w0.heap.size≤w.heap.size) (h:(cE w0 V fl n0 N K B pat).P w F):Calls Tryz.prog 29 #[V.t,.int .i64 ((i+1:Nat):Int)] w fun e w'=>∃ l2,((∃ cs,e = .returned (.tuple #[.agg cs,.bool true])∧xG cs pat[i]∧cs[2]?=some (.int .i64 1))∧l2=[cE w0 V fl n0 N K B pat])∧Lf l2 w F w':=by
 refine e9w (R:=fun e=>∃ cs,e = .returned (.tuple #[.agg cs,.bool true])∧xG cs pat[i]∧cs[2]?=some (.int .i64 1)) h fun a n o p b r s u c=>?_
 have g:=oH b;refine(c2n (by omega) (by omega) c hb).mono ?_;rintro e w' ⟨rfl,d⟩;refine⟨⟨_,rfl,?_,c6h⟩,d⟩;obtain⟨j,l,m,_,_,f,_⟩:=iK c;have:=qO (i:=0) f _ (bP (show i < (cS B 0 a).length by rw[fW];omega));rw[jZ B a 0 i (by omega),aM] at this;have:=d8l this;rw[d4a b i hi] at this;exact this
theorem e9x {i:Nat} (hi:pat.length≤i) (hi2:i < 12) (hp:pat.length≤9) (hb:w0.heap.size≤w.heap.size) (h:(cE w0 V fl n0 N K B pat).P w F):Calls Tryz.prog 29 #[V.t,.int .i64 ((i+1:Nat):Int)] w fun e w'=>∃ l2,((∃ cs,e = .returned (.tuple #[.agg cs,.bool false])∧xG cs false)∧l2=[cE w0 V fl n0 N K B pat])∧Lf l2 w F w':=by
 refine e9w (R:=fun e=>∃ cs,e = .returned (.tuple #[.agg cs,.bool false])∧xG cs false) h fun b n g j c l m o d=>?_
 have f:=oH c;refine(e4d (by omega) hi2 (by omega) d hb).mono ?_;rintro e w' ⟨rfl,a⟩;exact⟨⟨_,rfl,e9v⟩,a⟩
theorem e9y (hp:pat.length≤8) (hb:w0.heap.size≤w.heap.size) (hin:cB fA fl ((pat.length+1:Nat):Int)=true) (hcont:(bT fl (below fA fl ((pat.length+1:Nat):Int))).2.2=B) (hn0:n0≤900) (hBl:1≤B.length∧B.length≤110) (hK:K≤3800) (hN:N≤238000) (nm:ByteArray) (h:(cE w0 V fl n0 N K B pat).P w F) :
  Calls Tryz.prog 69 #[V.f,.agg #[.int .i64 ((pat.length+1:Nat):Int),.string nm,.int .i64 (B.length:Int)]] w fun e w'=>∃ l2,(e = .returned (.int .i64 0)∧l2=[cE w0 V fl (n0+2) (N+23938) (K+111) B (pat++[true])])∧Lf l2 w F w':=by
 obtain⟨b,n,m,o,c,p,r,s,d⟩:=h;have a:=oH c;have:=d3w d hb (by omega) (by rw[a];exact hin) (by rw[a];exact hcont) (by omega) hBl (by omega) (by omega) nm;rw[a] at this;refine this.mono ?_;rintro e w' ⟨rfl,q,g,i,j,l⟩;exact⟨_,⟨rfl,rfl⟩,g,(cC (A:=cE w0 V fl (n0+2) (N+23938) (K+111) B (pat++[true]))).2 ⟨b++[some q],_,_,_,by rw[List.map_append,c];rfl,by omega,by omega,by omega,i⟩,j,l⟩
theorem e9z {i:Nat} (hi:i < pat.length) (hq:pat[i]=true) (hp:pat.length≤9) (hb:w0.heap.size≤w.heap.size) (hin:cB fA fl ((i+1:Nat):Int)=true) (hcont:(bT fl (below fA fl ((i+1:Nat):Int))).2.2=B) (hn0:n0≤900) (hBl:1≤B.length∧B.length≤110) (hK:K≤3800) (hN:N≤238000) (nm:ByteArray) (h:(cE w0 V fl n0 N K B pat).P w F) :
  Calls Tryz.prog 69 #[V.f,.agg #[.int .i64 ((i+1:Nat):Int),.string nm,.int .i64 (B.length:Int)]] w fun e w'=>∃ l2,(e = .returned (.int .i64 0)∧l2=[cE w0 V fl (n0+2) N K B pat])∧Lf l2 w F w':=by
 obtain⟨a,n,o,p,b,r,s,t,c⟩:=h;have m:=oH b;have hs:=d4a b i hi;rw[hq] at hs;obtain⟨q,hq⟩:=Option.isSome_iff_exists.1 hs;refine(d3x (by omega) hq c hb (by omega) hin hcont (by omega) hBl (by omega) (by omega) nm).mono ?_;rintro e w' ⟨rfl,d,g,j,l⟩;exact⟨_,⟨rfl,rfl⟩,d,(cC (A:=cE w0 V fl (n0+2) N K B pat)).2 ⟨a,_,_,_,b,by omega,by omega,by omega,g⟩,j,l⟩
theorem e4e {i:Nat} (hi:i < pat.length) (hp:pat.length≤8) (hb:w0.heap.size≤w.heap.size) (hK:K≤3800) (hN:N≤238000) (h:(cE w0 V fl n0 N K B pat).P w F) :
  Calls Tryz.prog 68 #[V.f,.agg (iN ((i+1:Nat):Int)).toArray] w fun e w'=>∃ l2,(e = .returned (.int .i64 0)∧l2=[cE w0 V fl n0 (N+938) (K+1) B (pat.set i false)])∧Lf l2 w F w':=by
 obtain⟨a,n,o,p,b,r,s,t,c⟩:=h;have m:=oH b;refine(c6g (by omega) c hb (by omega) (by omega) (by omega)).mono ?_;rintro e w' ⟨rfl,d,g,j,l⟩;refine⟨_,⟨rfl,rfl⟩,d,(cC (A:=cE w0 V fl n0 (N+938) (K+1) B (pat.set i false))).2 ⟨a.set i none,_,_,_,by rw[List.map_set,b];rfl,by omega,by omega,by omega,g⟩,j,l⟩
theorem d8m (hb:w0.heap.size≤w.heap.size) (h:(cE w0 V fl n0 N K B pat).P w F):Calls Tryz.prog 65 #[V.y] w fun e w'=>∃ l2,(∃ u,e = .returned u∧l2=[cE w0 V fl n0 N K B pat,cG _ 3 dA 178 u (bW fl)])∧Lf l2 w F w':=by
 have b:=h;obtain⟨c,n,m,o,p,r,s,t,d⟩:=h;obtain⟨v,z,A,p1,_⟩:=iK d;obtain⟨C,D,E,I,⟨G,g,_⟩,_⟩:=rZ p1;refine(d2p g).mono ?_;rintro e w' ⟨u,rfl,a,i⟩;refine⟨_,⟨u,rfl,rfl⟩,?_⟩;exact oV (l:=[]) (tM (cC.2 b)) i (A':=cG _ 3 dA 178 u (bW fl)) (f:=fun x=>x∈blk u) ⟨a.base_le hb,fun x=>Iff.rfl⟩ fun x j=>(a.ge x j).1
theorem e0p {i:Nat} (hi:i < pat.length) (hp:pat.length≤9) (hb:w0.heap.size≤w.heap.size) (h:(cE w0 V fl n0 N K B pat).P w F):Calls Tryz.prog 15 #[V.f,.int .i64 ((i+1:Nat):Int)] w fun e w'=>∃ l2,(e = .returned (.int .i64 1)∧l2=[cE w0 V fl n0 N K B pat])∧Lf l2 w F w':=by
 obtain⟨L,b,l,o⟩:=sH h;rw[b];have G:=bG b;have p:Lf [cE w0 V fl n0 N K B pat] w F w:=tM (cC.2 h);have r:=bG (dR p fun f E=>e0o hi hp hb E);have x:=l.cell 4;have I:=bG hb;clear b h l o hb p;generalize ((i+1:Nat):Int)=ino at *
 go_enter Tryz.func15,Tryz.ntmps15;go_wp2_with fail
 (with_reducible refine r.out.mono ?_)
 rintro e d ⟨_,⟨⟨cs,rfl,⟨t,u,D⟩,v⟩,rfl⟩,m⟩;have y:=bG m;have s:=bG t;have z:=bG u;have A:=bG v;clear m r x t u D v;go_wp2_with (first|((refine wpList_store_row rfl 90 (.tmp 5) (.tmp 14) rfl d.heap.size cs rfl rfl _ _ (heap_alloc_new _ _) (by rw[s.out];exact a1b) (by rw[s.out];rfl) z.out ?_);(have a:=bG (qP d ptZ.toArray cs 90));(generalize c:World.setRow _ d.heap.size cs=w3);(have g:bR [] d w3:=(by rw[← c];exact a.out.1));(have j:cU w3 d.heap.size 90 cs.toList:=(by rw[← c];exact a.out.2));(have C:=bG (oU y.out g));(have J:w3.cell? ⟨d.heap.size,2,none⟩=some (.int .i64 1):=(by rw[j.cell 2,Array.getElem?_toList];exact A.out));(clear c g j a))|fail)
 go_ret;exact⟨_,⟨rfl,rfl⟩,C.out⟩
end
def xH (fs:List AF) (ino:Int):Bool:=fs.any fun f=>f.1==ino
theorem c6j (fs:List AF) (ino:Int) (k:Nat) (hk:k < fs.length):xH (fs.take (k+1)) ino=(xH (fs.take k) ino||((bT fs k).1==ino)):=by
 unfold xH;rw[bC hk,List.any_append,cO _ _ hk];simp
theorem d4b (fs:List AF) (ino:Int) (k:Nat) (hk:k < fs.length) (h:(bT fs k).1=ino):xH fs ino=true:=by
 unfold xH;rw[List.any_eq_true];exact⟨bT fs k,by rw[cO _ _ hk];exact bP _,by simp[h]⟩
theorem c6k (w:World) (f:AF) (gi:Nat) (ino:Int) (hi:w.cell? ⟨gi,0,none⟩=some (.int .i64 ino)) :
  Calls Tryz.prog 67 #[.agg #[.int .i64 f.1,.string f.2.1,.int .i64 f.2.2],.pointer (some ⟨gi,0,none⟩)] w fun e w'=>e = .returned (.bool (f.1==ino))∧bR [] w w':=by
 obtain⟨a,b,c⟩:=f;have c0:=((bR.refl [] w).alloc (.cells #[.int .i64 a,.string b,.int .i64 c] 178)).cell hi (by simp);clear hi;dsimp only;go_enter Tryz.func67,Tryz.ntmps67;go_wp2_with fail
 go_ret;exact⟨rfl,(bR.refl [] w).alloc _⟩
theorem a4r (w:World) (u:Value) (fs:List AF) (hu:qW 3 dA w u fs) (gi:Nat) (ino:Int) (hi:w.cell? ⟨gi,0,none⟩=some (.int .i64 ino)) :
  Calls Tryz.prog 106 #[u,.func (.func 67) #[] #[.pointer (some ⟨gi,0,none⟩)]] w fun e w'=>∃ r:Int,e = .returned (.int .i64 r)∧(0≤r↔xH fs ino=true)∧bR [] w w':=by
 obtain⟨Q,G,rfl,t,j,b⟩:=hu;have I:fs.length≤9223372036854775807:=by unfold maxLen at j;omega
 have y:=bG b;have z:=bG hi;clear t j b hi;go_enter Tryz.func106,Tryz.ntmps106;go_wp2_with fail
 go_loopw [8] (fun i wr=>∃ k:Nat,k≤fs.length∧i = .int .i64 k∧Hid (xH (fs.take k) ino=false)∧Hid (bR [] w wr)) (fun i _=>fs.length-(intOf i).toNat)
 case atStart=>exact⟨0,aS _,rfl,(rfl:xH (fs.take 0) ino=false),bR.refl [] w⟩
 case round =>
  obtain⟨k,R,rfl,m,a⟩:=hrel;by_cases c:k < fs.length
  ·obtain⟨C,d,rfl,g⟩:=y.out (by intro h;simp[h] at c);have P:(k:Int) < fs.length:=by omega
   have J:(0:Int)≤k:=by omega
   have K:wr.cell? ⟨C,d+k*3,none⟩=some (.int .i64 (bT fs k).1):=a.out.cell (g k c 0 (by omega)) (by simp);have L:wr.cell? ⟨C,d+k*3+1,none⟩=some (.string (bT fs k).2.1):=a.out.cell (g k c 1 (by omega)) (by simp);have d2:wr.cell? ⟨C,d+k*3+2,none⟩=some (.int .i64 (bT fs k).2.2):=a.out.cell (g k c 2 (by omega)) (by simp);have M:wr.cell? ⟨gi,0,none⟩=some (.int .i64 ino):=a.out.cell z.out (by simp);have A:=bG (c6j fs ino k c);have B:=bG (d4b fs ino k c);have s:Hid (∀ F,bR [] wr F→bR [] w F):=fun F O=>a.out.seq O
   clear g a;generalize bT fs k=x at *
   obtain⟨o,D,E⟩:=x;dsimp only at K L d2;have v:=bG (c6k wr (o,D,E) gi ino M);cases p:(o==ino) with
   | true =>
    rw[show ((o,D,E).1==ino)=true from p] at v;have he:Hid (o=ino):=by simpa [Hid] using p
    clear p;go_wp2_with fail
    (with_reducible refine v.out.mono ?_)
    rintro e N ⟨rfl,f⟩;have l:=bG f;clear f;go_wp2_with fail
    go_ret;exact⟨(k:Int),rfl,⟨fun _=>B.out he.out,fun _=>J⟩,s.out _ l.out⟩
   | false =>
    rw[show ((o,D,E).1==ino)=false from p] at v;have he:Hid (¬ o=ino):=by simpa [Hid] using p
    clear p;go_wp2_with fail
    (with_reducible refine v.out.mono ?_)
    rintro e N ⟨rfl,f⟩;have l:=bG f;clear f;go_wp2_with fail
    go_roundw
    case rel=>exact⟨k+1,by omega,by go_num,by rw[Hid,A.out,m.out];simpa using he.out,s.out _ l.out⟩
    case measure=>simp[intOf];omega
  ·obtain rfl:k=fs.length:=by omega
   rw[aV] at m;go_wp2_with fail
   go_ret;exact⟨-1,rfl,⟨fun h=>by omega,fun h=>by rw[m.out] at h;cases h⟩,a.out⟩
theorem a9o (w:World) (u:Value) (fs:List AF) (hu:qW 3 dA w u fs) (gi:Nat) (ino:Int) (hi:w.cell? ⟨gi,0,none⟩=some (.int .i64 ino)) :
  Calls Tryz.prog 66 #[u,.func (.func 67) #[] #[.pointer (some ⟨gi,0,none⟩)]] w fun e w'=>e = .returned (.bool (xH fs ino))∧bR [] w w':=by
 have c:=bG (a4r w u fs hu gi ino hi);clear hu hi;cases d:xH fs ino with
 | true =>
  rw[d] at c;go_enter Tryz.func66,Tryz.ntmps66;go_wp2_with fail
  (with_reducible refine c.out.mono ?_)
  rintro e h ⟨r,rfl,b,a⟩;have f:0≤r:=by simpa using b
  clear b d;go_wp2_with fail
  go_ret;exact⟨by simp[f],a⟩
 | false =>
  rw[d] at c;go_enter Tryz.func66,Tryz.ntmps66;go_wp2_with fail
  (with_reducible refine c.out.mono ?_)
  rintro e h ⟨r,rfl,b,a⟩;have f:¬ 0≤r:=by simpa using b
  clear b d;have g:r < 0:=by omega
  go_wp2_with fail
  go_ret;exact⟨by simp[g],a⟩
theorem zB:∀ (l:List Bool) (i:Nat) (x:Int),x∈dV i l→∃ j,j < l.length∧x=((i+j+1:Nat):Int)
 | [],i,x,h=>by cases h
 | false::l,i,x,h=>by
  obtain⟨j,h1,h2⟩:=zB l (i+1) x h;exact⟨j+1,by simpa using h1,by rw[h2];congr 1;omega⟩
 | true::l,i,x,h=>by
  rcases aG.1 h with rfl|h
  ·exact⟨0,by simp,rfl⟩
  ·obtain⟨j,h1,h2⟩:=zB l (i+1) x h;exact⟨j+1,by simpa using h1,by rw[h2];congr 1;omega⟩
theorem tU:∀ (l:List Bool) (i:Nat),(dV i l).length≤l.length
 | [],i=>by simp[dV]
 | false::l,i=>by have:=tU l (i+1);simp only[dV,aW];omega
 | true::l,i=>by have:=tU l (i+1);simp only[dV,aW];omega
def uO (fs:List AF) (pat:List Bool) (ino:Int):List Bool:=if xH fs ino then pat else pat.set (ino.toNat-1) false
theorem c6l (fs:List AF) (pat:List Bool) (ino:Int):(uO fs pat ino).length=pat.length:=by unfold uO;split<;>simp
def mH (fs:List AF) (pat:List Bool) (l:List Int):List Bool:=l.foldl (uO fs) pat
theorem a6n (fs:List AF):∀ (l:List Int) (pat:List Bool),(mH fs pat l).length=pat.length
 | [],pat=>rfl
 | x::l,pat=>by show (mH fs (uO fs pat x) l).length=_;rw[a6n fs l,c6l]
theorem b9i (fs:List AF) (pat:List Bool) (l:List Int) (k:Nat) (hk:k < l.length):mH fs pat (l.take (k+1))=uO fs (mH fs pat (l.take k)) (bT l k):=by
 unfold mH;rw[bC hk,List.foldl_append,cO _ _ hk];rfl
theorem d8n:∀ x,(mG x).length=1:=fun _=>rfl
def e0q (s:List Bool×Nat) (ino:Int) (s':List Bool×Nat):Prop :=
 s.1.length≤9∧((∃ i,∃ h:i < s.1.length,s.1[i]=true∧ino=((i+1:Nat):Int)∧s'=s) ∨
 (s.1.length≤8∧(dV 0 s.1).length < 8∧ino=((s.1.length+1:Nat):Int)∧s'=(s.1++[true],s.2)) ∨
 ∃ i,s.1.length≤i∧i < 12∧8≤(dV 0 s.1).length∧ino=((i+1:Nat):Int)∧s'=(s.1,s.2+1))
abbrev qT (p:Int×Int):List Value:=[iv p.1,iv p.2]
theorem c2o:∀ p,(qT p).length=2:=fun _=>rfl
theorem d8o:∀ p,∀ u∈qT p,u.oneCell'=true:=by
 rintro⟨a,b⟩ u c;rcases aG.1 c with rfl|c
 ·rfl
 ·rw[List.mem_singleton.1 c];rfl
theorem e4f:(Tryz.prog.info? 182).map (fun i=>(i.zero,i.size,i.bytes))=some (some (.agg #[.int .i64 0,.int .i64 0]),2,16):=by kernel_rfl
theorem f0a:Tryz.prog.underlying 39=some (.slice 182):=by kernel_rfl
theorem pN {P:Program} {o:Oper} {a:Act} {next:Act→World→Prop} {Q:Exit→Act→World→Prop} {X:Result Next} {W:World} {g:Nat} {t:TypeId} {old cs:Array Value} (hg:W.heap[g]?=some (.cells old t (0,0))) (ho:old.size=21) (hs:cs.size=21) (h1:cs.all (·.oneCell')=true) (h:next (a.put o.dst undef) (W.setRow g cs)) :
  Oper.upon P o a next Q (if cs.size=21 then (Sem.run P (storeCells ⟨g,0,none⟩ cs.toList) W).andThen fun _ w' => .ok .skip w' else X):=by
 have b:(storeCells ⟨g,0,none⟩ cs.toList).run P W = .ok () (W.setRow g cs):=by
  have:=run_storeCells_from (P:=P) g t cs.toList 0 old W hg (by simp;omega) (fun v c=>(Array.all_eq_true_iff_forall_mem.1 h1) v (by simpa using c));simpa using this
 rw[if_pos hs,b];exact h
theorem d8p (W:World) (m n:Int) (t:TypeId):qW 2 qT (W.alloc (.cells #[.int .i64 m,.int .i64 n] t)) (.slice (some ⟨W.heap.size,0,none⟩) 1 1) [(m,n)]:=by
 have b:=cU.new W t [.int .i64 m,.int .i64 n];refine⟨_,1,rfl,by simp,by simp[maxLen],fun _=>⟨W.heap.size,0,rfl,fun j a i c=>?_⟩⟩;simp at a;subst a;have:=b.cell i;rw[cP,show 0+(0*2+i)=i by omega];exact this
theorem zC {w0 w W:World} {F:Nat→Prop} {l:List (cR w0.heap.size)} {i g:Nat} {t:TypeId} {cs0:List Value} (h:Lf l w F W) (hi:Eng.bT l i=some (cM _ g t cs0)) (hl:i < l.length) (cs:Array Value):Lf (Eng.put l i (cM _ g t cs.toList)) w F (W.setRow g cs) :=
 a3y h hi hl fun f a=>⟨f,⟨by
  have:=setRow_heap W g _ cs t (0,0) a.1;unfold cU;rw[this],a.2.1,a.2.2⟩,jP (a3m (c1d W g cs)) fun x q=>(a.2.2 x).2 (by simpa using q),fun x q => .inl q⟩
theorem d4c {w0 w W:World} {F:Nat→Prop} {l m:List (cR w0.heap.size)} (h:Lf (l++m) w F W):Lf l w F W:=by
 obtain⟨j,a,b,c⟩:=h;obtain⟨d,o,f,p,r,g⟩:=Eng.cW.split (l:=l) (m:=m) a;exact⟨d,f,b,fun x i=>c x ((g x).2 (.inl i))⟩
section
variable (w0 : World)
def c2p (V:FV) (fl:FL) (n0 N K:Nat) (B:List UInt8) (pat:List Bool) (v3:Value) (tl:List (Int×Int)) (lv:Value) (inos:List Int) (u4:Value):List (cR w0.heap.size) :=
 [cE w0 V fl n0 N K B pat,cG _ 2 qT 182 v3 tl,cG _ 1 mG 3 lv inos,cG _ 3 dA 178 u4 (bW fl)]
end
section
variable {w0 w W : World} {F : Nat → Prop} {V : FV} {fl : FL} {n0 N K : Nat} {B : List UInt8} {pat : List Bool} {v3 : Value} {tl : List (Int × Int)} {lv : Value} {inos : List Int} {u4 : Value}
theorem d4d {l:List (cR w0.heap.size)} {i:Nat} (h:Lf l w F W) (hi:Eng.bT l i=some (cG _ 3 dA 178 u4 (bW fl))):qW 3 dA W u4 (bW fl):=by
 obtain⟨f,a,b⟩:=sG h hi;exact a.rd rV
theorem a6o {l:List (cR w0.heap.size)} {i:Nat} (h:Lf l w F W) (hi:Eng.bT l i=some (cG _ 1 mG 3 lv inos)):qW 1 mG W lv inos:=by
 obtain⟨f,a,b⟩:=sG h hi;exact a.rd d8n
theorem bX {l:List (cR w0.heap.size)} {i g:Nat} {t:TypeId} {cs:List Value} (h:Lf l w F W) (hi:Eng.bT l i=some (cM _ g t cs)):cU W g t cs:=by
 obtain⟨f,a,b⟩:=sG h hi;exact a
theorem e4g {l:List (cR w0.heap.size)} {gf:Nat} (hv:V.f = .pointer (some ⟨gf,0,none⟩)) (h:Lf (cE w0 V fl n0 N K B pat::l) w F W):cU W gf 98 [V.y,V.r,V.l,V.j,V.t,V.a]:=by
 obtain⟨f,c⟩:=sG (i:=0) h rfl;obtain⟨g,b,d,-⟩:=sH c;rw[hv] at b;have:gf=g:=by simpa using b
 rw[this];exact d
theorem c2q {l:List (cR w0.heap.size)} {i:Nat} (h:Lf l w F W) (hi:Eng.bT l i=some (cG _ 2 qT 182 v3 tl)):cF 2 qT w0.heap.size 182 W v3 tl:=by
 obtain⟨f,a,b⟩:=sG h hi;exact a
end
section
variable {w0 w W : World} {F : Nat → Prop} {V : FV} {fl : FL} {n0 N K : Nat} {B : List UInt8} {pat : List Bool}
theorem d4e (hp:pat.length≤8) (hb:w0.heap.size≤w.heap.size) (hBl:1≤B.length∧B.length≤110) (st:Nat→List Bool×Nat) (hs0:st 0=(mH (bW fl) pat (dV 0 pat),0))
  (hst:∀ k,k < (bW fl).length→e0q (st k) (bT (bW fl) k).1 (st (k+1)))
  (hfl:∀ k,k < (bW fl).length→(bT (bW fl) k).2.2=(B.length:Int)∧cB fA fl (bT (bW fl) k).1=true∧(bT fl (below fA fl (bT (bW fl) k).1)).2.2=B)
  (hn12:(bW fl).length≤12) (hn0:n0≤870) (hK:K+8+111*9≤3800+111*pat.length) (hN:N+938*8+23938*9≤238000+23938*pat.length) (h:(cE w0 V fl n0 N K B pat).P w F) :
  Calls Tryz.prog 42 #[V.f] w fun e w'=>∃ v tl,e = .returned v∧tl.length=(st (bW fl).length).2∧Lf [cE w0 V fl (n0+2*(bW fl).length) (N+938*8+23938*((st (bW fl).length).1.length-pat.length)) (K+8+111*((st (bW fl).length).1.length-pat.length)) B (st (bW fl).length).1,cG _ 2 qT 182 v tl] w F w':=by
 obtain⟨gf,d5,f2,j6⟩:=sH h;obtain⟨gr,f3⟩:=(c6i h).2.2.2.2.1;have hl:Lf [cE w0 V fl n0 N K B pat] w F w:=tM (cC.2 h);have f5:=bG (dR hl fun f J=>d8m hb J);have f6:Hid (∀ W l,Lf (cE w0 V fl n0 N K B pat::l) w F W→_):=fun W l z=>dR z fun f J=>b9h (by omega) (aL hb (eO z)) J
 have i9:Hid (∀ W u fs gi b,qW 3 dA W u fs→W.cell? ⟨gi,0,none⟩=some (.int .i64 b)→_):=fun W u fs gi b h1 h2=>a9o W u fs h1 gi b h2
 have HB:=bG hb;have b1:=bG d5;have d8:=bG hst;have b5:=bG hs0;have d9:=bG hfl;have HP:=bG hp;have e4:=bG hN;have e5:=bG hK;have f7:=bG hn0;have f8:=bG hBl;have f9:=bG hn12;have k4:=bG f3;have c0:=f2.cell 0;have c1:=f2.cell 1;dsimp only[List.getElem?_cons_zero,List.getElem?_cons_succ] at c0 c1;rw[f3] at c1;have j0:Hid (∀ n N K pat l W,Lf (cE w0 V fl n N K B pat::l) w F W→cU W gf 98 [V.y,V.r,V.l,V.j,V.t,V.a]):=fun n N K pat l W z=>e4g d5 z
 rw[d5];clear h hl hst hs0 hfl hp hN hK hn0 hBl hb f2 j6 hn12 f3;go_enter Tryz.func42,Tryz.ntmps42;go_wp2_with fail
 (with_reducible refine f5.out.mono ?_)
 rintro e w1 ⟨_,⟨u4,rfl,rfl⟩,g7⟩;have H1:Hid (Lf (cE w0 V fl n0 N K B pat::[cG _ 3 dA 178 u4 (bW fl)]) w F w1):=g7;clear g7 f5 c0 c1;go_wp2_with fail
 rw[← d5]
 (with_reducible refine(f6.out _ _ H1.out).mono ?_)
 rintro e w2 ⟨_,⟨lv,rfl,rfl⟩,g8⟩;have H2:Hid (Lf [cE w0 V fl n0 N K B pat,cG _ 1 mG 3 lv (dV 0 pat),cG _ 3 dA 178 u4 (bW fl)] w F w2):=g8;clear g8 H1 f6;have j1:=a6o (i:=1) H2.out rfl;obtain⟨al,Q,rfl,j7,g9,-⟩:=j1;have j9:(dV 0 pat).length≤9223372036854775807:=by unfold maxLen at g9;omega
 have j2:=d4d (i:=2) H2.out rfl;obtain⟨af,L,rfl,j8,h0,-⟩:=j2;have k3:(bW fl).length≤9223372036854775807:=by unfold maxLen at h0;omega
 clear g9 h0 j7 j8;have H3:Hid (Lf (c2p w0 V fl n0 (N+938*0) (K+0) B (mH (bW fl) pat ((dV 0 pat).take 0)) (.slice none 0 0) [] (.slice al (dV 0 pat).length Q) (dV 0 pat) (.slice af (bW fl).length L)) w F w2):=oV H2.out (bR.refl [] w2) (A':=cG _ 2 qT 182 (.slice none 0 0) []) (f:=fun x=>False) ⟨cF.nil _ _ _,fun x=>by simp[blk]⟩ (fun x q=>q.elim);clear H2;have e6:Hid ((dV 0 pat).length≤pat.length):=tU _ _;have b6:Hid (∀ k,k < (dV 0 pat).length→∃ j,j < pat.length∧bT (dV 0 pat) k=((j+1:Nat):Int)):=fun k hk=>by
  obtain⟨j,h1,h2⟩:=zB pat 0 (bT (dV 0 pat) k) (by rw[cO _ _ hk];exact bP _);exact⟨j,h1,by rw[h2,aM]⟩
 have b7:Hid (∀ k,k < (dV 0 pat).length→mH (bW fl) pat ((dV 0 pat).take (k+1))=uO (bW fl) (mH (bW fl) pat ((dV 0 pat).take k)) (bT (dV 0 pat) k)):=fun k hk=>b9i _ _ _ k hk
 have d3:Hid (∀ l,(mH (bW fl) pat l).length=pat.length):=fun l=>a6n _ l _
 generalize dV 0 pat=inos at *
 go_wp2_with fail
 go_loopw [3,26] (fun v3 i wr=>∃ k:Nat,k≤inos.length∧i = .int .i64 k∧v3 = .slice none 0 0∧Hid (Lf (c2p w0 V fl n0 (N+938*k) (K+k) B (mH (bW fl) pat (inos.take k)) (.slice none 0 0) [] (.slice al inos.length Q) inos (.slice af (bW fl).length L)) w F wr)) (fun _ i _=>inos.length-(intOf i).toNat)
 case atStart=>exact⟨0,aS _,rfl,rfl,H3⟩
 case round =>
  clear H3;obtain⟨k,hk,rfl,rfl,ho⟩:=hrel;by_cases X:k < inos.length
  ·clear d8 b5 d9;have q0:(0:Int)≤k:=by omega
   have q1:(k:Int) < inos.length:=by omega
   obtain⟨a',c',he,-,-,c5⟩:=a6o (i:=2) ho.out rfl;injection he with e1 e2 e3;subst e1;clear e2 e3;obtain⟨M,g,rfl,b0⟩:=c5 (by intro h;simp[h] at X);have d0:wr.cell? ⟨M,g+k,none⟩=some (.int .i64 (bT inos k)):=by have:=b0 k X 0 (by omega);simpa using this
   obtain⟨j,hj,h5⟩:=b6.out k X;have b7:=bG (b7.out k X);have e7:Hid (bT inos k=((j+1:Nat):Int)):=h5;have HJ:=bG hj;have d6:=bG (d3.out (inos.take k));have b2:Hid (k < 8):=by have:=e6.out;have:=HP.out;unfold Hid;omega
   clear b0 c5 h5 hj b6 d3 e6;generalize mH (bW fl) pat (inos.take k)=d at *
   generalize bT inos k=b at *
   have b3:=bG (eJ 3 [iv b] HB.out ho.out);have b4:=bG (i9.out _ (.slice af (bW fl).length L) (bW fl) wr.heap.size b (d4d (i:=4) b3.out rfl) ((bX (i:=1) b3.out rfl).cell 0));cases hh:xH (bW fl) b with
   | true =>
    rw[hh] at b4;have e8:Hid (mH (bW fl) pat (inos.take (k+1))=d):=by rw[Hid,b7.out];unfold uO;rw[hh];rfl
    clear hh ho;go_wp2_with fail
    (with_reducible refine b4.out.mono ?_)
    rintro e w3 ⟨rfl,c8⟩;have H5:=bG (xE (A2:=cE w0 V fl n0 (N+938*(k+1)) (K+(k+1)) B d) (eZ (oU b3.out c8)) fun f J=>tT J (aF _) (by omega) (by omega));clear c8 b3 b4 d0;go_wp2_with fail
    go_roundw
    case rel=>exact⟨k+1,by omega,by go_num,rfl,by rw[e8.out];exact H5⟩
    case measure=>simp[intOf];omega
   | false =>
    rw[hh] at b4;have e8:Hid (mH (bW fl) pat (inos.take (k+1))=d.set j false):=by
     rw[Hid,b7.out];unfold uO;rw[hh,e7.out,show (((j+1:Nat):Int)).toNat-1=j by omega];rfl
    clear hh ho;go_wp2_with fail
    (with_reducible refine b4.out.mono ?_)
    rintro e w3 ⟨rfl,c8⟩;have H5:Hid (Lf (cE w0 V fl n0 (N+938*k) (K+k) B d::[cM _ wr.heap.size 3 [iv b],cG _ 2 qT 182 (.slice none 0 0) [],cG _ 1 mG 3 (.slice (some ⟨M,g,none⟩) inos.length Q) inos,cG _ 3 dA 178 (.slice af (bW fl).length L) (bW fl)]) w F w3):=oU b3.out c8;clear c8 b3 b4 d0;have C:Hid (∀ W,Lf (cE w0 V fl n0 (N+938*k) (K+k) B d::[cM _ wr.heap.size 3 [iv b],cG _ 2 qT 182 (.slice none 0 0) [],cG _ 1 mG 3 (.slice (some ⟨M,g,none⟩) inos.length Q) inos,cG _ 3 dA 178 (.slice af (bW fl).length L) (bW fl)]) w F W→W.cell? ⟨wr.heap.size,0,none⟩=some (.int .i64 b)):=fun W z=>(bX (i:=1) z rfl).cell 0
    have d7:Hid (∀ W,Lf (cE w0 V fl n0 (N+938*k) (K+k) B d::[cM _ wr.heap.size 3 [iv b],cG _ 2 qT 182 (.slice none 0 0) [],cG _ 1 mG 3 (.slice (some ⟨M,g,none⟩) inos.length Q) inos,cG _ 3 dA 178 (.slice af (bW fl).length L) (bW fl)]) w F W→Calls Tryz.prog 15 #[.pointer (some ⟨gf,0,none⟩),.int .i64 b] W fun e w'=>∃ l2,(e = .returned (.int .i64 1)∧l2=[cE w0 V fl n0 (N+938*k) (K+k) B d])∧Lf (l2++[cM _ wr.heap.size 3 [iv b],cG _ 2 qT 182 (.slice none 0 0) [],cG _ 1 mG 3 (.slice (some ⟨M,g,none⟩) inos.length Q) inos,cG _ 3 dA 178 (.slice af (bW fl).length L) (bW fl)]) w F w'):=fun W z=>by
     rw[e7.out] at z ⊢;rw[← b1.out];have q1:=d6.out;have q2:=HP.out;have q3:=HJ.out;exact dR z fun f J=>e0p (by omega) (by omega) (aL HB.out (eO z)) J
    have b8:Hid (∀ W,Lf (cE w0 V fl n0 (N+938*k) (K+k) B d::[cM _ wr.heap.size 3 [iv b],cG _ 2 qT 182 (.slice none 0 0) [],cG _ 1 mG 3 (.slice (some ⟨M,g,none⟩) inos.length Q) inos,cG _ 3 dA 178 (.slice af (bW fl).length L) (bW fl)]) w F W→Calls Tryz.prog 68 #[.pointer (some ⟨gf,0,none⟩),.agg #[.bool false,.int .i64 b,.int .i64 1,.int .i64 0,.int .u32 0,.int .i64 0,.int .i64 0,.bool false,.bool false,.int .i64 0,.int .i64 0,.slice none 0 0,.slice none 0 0,.int .i64 0,.slice none 0 0,.slice none 0 0,.int .i64 0,.slice none 0 0,.slice none 0 0,.int .i64 0,.slice none 0 0]] W fun e w'=>∃ l2,(e = .returned (.int .i64 0)∧l2=[cE w0 V fl n0 (N+938*k+938) (K+k+1) B (d.set j false)])∧Lf (l2++[cM _ wr.heap.size 3 [iv b],cG _ 2 qT 182 (.slice none 0 0) [],cG _ 1 mG 3 (.slice (some ⟨M,g,none⟩) inos.length Q) inos,cG _ 3 dA 178 (.slice af (bW fl).length L) (bW fl)]) w F w'):=fun W z=>by
     rw[e7.out] at z ⊢;rw[← b1.out];have q1:=d6.out;have q2:=HP.out;have q3:=HJ.out;have q4:=e5.out;have q5:=e4.out;have q6:=b2.out;exact dR z fun f J=>e4e (by omega) (by omega) (aL HB.out (eO z)) (by omega) (by omega) J
    have ce:=C.out _ H5.out;go_wp2_with fail
    go_region_held3 (fun W=>W.cell? ⟨wr.heap.size,0,none⟩=some (.int .i64 b)) (first|go_keep|exact j3|exact j4) (first
     | (go_at_call 15;(with_reducible refine(d7.out _ (jE H5.out)).mono ?_);(rintro _ w4 ⟨_,⟨rfl,rfl⟩,p⟩;have H6:Hid (Lf (cE w0 V fl n0 (N+938*k) (K+k) B d::[cM _ wr.heap.size 3 [iv b],cG _ 2 qT 182 (.slice none 0 0) [],cG _ 1 mG 3 (.slice (some ⟨M,g,none⟩) inos.length Q) inos,cG _ 3 dA 178 (.slice af (bW fl).length L) (bW fl)]) w F w4):=p;have j3:=C.out _ H6.out;clear p;dsimp only))
     | (go_at_call 68;(with_reducible refine(b8.out _ H6.out).mono ?_);(rintro _ S ⟨_,⟨rfl,rfl⟩,h7⟩;have U:Hid (Lf (cE w0 V fl n0 (N+938*(k+1)) (K+(k+1)) B (d.set j false)::[cM _ wr.heap.size 3 [iv b],cG _ 2 qT 182 (.slice none 0 0) [],cG _ 1 mG 3 (.slice (some ⟨M,g,none⟩) inos.length Q) inos,cG _ 3 dA 178 (.slice af (bW fl).length L) (bW fl)]) w F S):=h7;have j4:S.cell? ⟨wr.heap.size,0,none⟩=some (.int .i64 b):=(bX (i:=1) h7 rfl).cell 0;clear h7;dsimp only)))
    clear ce d7 b8 C H5;go_wp2_with fail
    go_roundw
    case rel=>exact⟨k+1,by omega,by go_num,rfl,by rw[e8.out];exact eZ U.out⟩
    case measure=>simp[intOf];omega
  ·obtain rfl:k=inos.length:=by omega
   rw[aV] at ho;have H4:Hid (∃ tl,tl.length=(st 0).2∧tl.length≤0∧pat.length≤(st 0).1.length∧Lf (c2p w0 V fl (n0+2*0) (N+938*8+23938*((st 0).1.length-pat.length)) (K+8+111*((st 0).1.length-pat.length)) B (st 0).1 (.slice none 0 0) tl (.slice al inos.length Q) inos (.slice af (bW fl).length L)) w F wr):=by
    have q1:=e6.out;have q2:=HP.out;refine⟨[],by rw[b5.out];rfl,aF _,by rw[b5.out];exact Nat.le_of_eq (d3.out _).symm,?_⟩;rw[b5.out];exact xE ho.out fun f J=>tT J (by omega) (by omega) (by omega)
   clear ho b5 b6 b7 d3;go_wp2_with fail
   go_loopw [3,52] (fun v3 i wr=>∃ (k:Nat) (tl:List (Int×Int)),k≤(bW fl).length∧i = .int .i64 k∧tl.length=(st k).2∧tl.length≤k∧pat.length≤(st k).1.length∧Hid (Lf (c2p w0 V fl (n0+2*k) (N+938*8+23938*((st k).1.length-pat.length)) (K+8+111*((st k).1.length-pat.length)) B (st k).1 v3 tl (.slice al inos.length Q) inos (.slice af (bW fl).length L)) w F wr)) (fun _ i _=>(bW fl).length-(intOf i).toNat)
   case atStart =>
    obtain⟨tl,h1,h2,h3,h4⟩:=H4.out;exact⟨0,tl,aS _,rfl,h1,h2,h3,h4⟩
   case round =>
    clear H4;obtain⟨k,tl,hk,rfl,f4,i2,i3,ho⟩:=hrel;by_cases X:k < (bW fl).length
    ·have q0:(0:Int)≤k:=by omega
     have q1:(k:Int) < (bW fl).length:=by omega
     obtain⟨a',c',he,-,-,c5⟩:=d4d (i:=3) ho.out rfl;injection he with e1 e2 e3;subst e1;clear e2 e3;obtain⟨M,g,rfl,b0⟩:=c5 (by intro h;simp[h] at X);have d0:wr.cell? ⟨M,g+k*3,none⟩=some (.int .i64 (bT (bW fl) k).1):=b0 k X 0 (by omega);have d1:wr.cell? ⟨M,g+k*3+1,none⟩=some (.string (bT (bW fl) k).2.1):=b0 k X 1 (by omega);have d2:wr.cell? ⟨M,g+k*3+2,none⟩=some (.int .i64 (bT (bW fl) k).2.2):=b0 k X 2 (by omega);have d4:=bG (d8.out k X);have a5:=bG (d9.out k X);have e9:=bG f4;have b9:=bG i2;have c2:=bG i3;have b2:Hid (k < 12):=by have:=f9.out;unfold Hid;omega
     have k5:=bG X;clear b0 c5 f4 i2 i3 d8 d9;generalize i8:st (k+1)=s' at *
     have a4:=bG i8;clear i8;generalize st k=s at *
     obtain⟨d,tn⟩:=s;generalize bT (bW fl) k=x at *
     obtain⟨b,I,sz⟩:=x;dsimp only at d0 d1 d2;have c3:Hid (sz=(B.length:Int)):=a5.out.1;have H5:Hid (Lf (cE w0 V fl (n0+2*k) (N+938*8+23938*(d.length-pat.length)) (K+8+111*(d.length-pat.length)) B d::cM _ wr.heap.size 178 [iv b,sv I,iv sz]::[cG _ 2 qT 182 u3 tl,cG _ 1 mG 3 (.slice al inos.length Q) inos,cG _ 3 dA 178 (.slice (some ⟨M,g,none⟩) (bW fl).length L) (bW fl)]) w F (wr.alloc (.cells #[.int .i64 b,.string I,.int .i64 sz] 178))):=eJ 178 [iv b,sv I,iv sz] HB.out ho.out;have O:Hid (∀ n N K pat l W,Lf (cE w0 V fl n N K B pat::l) w F W→W.cell? ⟨gf,4,none⟩=some V.t):=fun n N K pat l W z=>(j0.out n N K pat l W z).cell 4
     have c4:=O.out _ _ _ _ _ _ H5.out;obtain⟨x9,⟨i,xi,i4,T,rfl⟩|⟨x8,c9,T,rfl⟩|⟨i,x1,x2,c9,T,rfl⟩⟩:=d4.out
     ·have h9:d.length≤9:=x9;have G:b=((i+1:Nat):Int):=T;have hi:i < d.length:=xi;have f0:d[i]=true:=i4;clear i4 xi x9 T;have R:Hid (∀ W l,Lf (cE w0 V fl (n0+2*k) (N+938*8+23938*(d.length-pat.length)) (K+8+111*(d.length-pat.length)) B d::l) w F W→Calls Tryz.prog 29 #[V.t,.int .i64 b] W fun e w'=>∃ cs,e = .returned (.tuple #[.agg cs,.bool true])∧xG cs true∧Lf (cE w0 V fl (n0+2*k) (N+938*8+23938*(d.length-pat.length)) (K+8+111*(d.length-pat.length)) B d::l) w F w'):=fun W l z=>by
       rw[G];refine(dR z fun f J=>e0o hi h9 (aL HB.out (eO z)) J).mono ?_;rintro e w' ⟨_,⟨⟨cs,rfl,z1,z2⟩,rfl⟩,p⟩;rw[f0] at z1;exact⟨cs,rfl,z1,p⟩
      have Y:Hid (∀ W l,Lf (cE w0 V fl (n0+2*k) (N+938*8+23938*(d.length-pat.length)) (K+8+111*(d.length-pat.length)) B d::l) w F W→Calls Tryz.prog 69 #[.pointer (some ⟨gf,0,none⟩),.agg #[.int .i64 b,.string I,.int .i64 sz]] W fun e w'=>e = .returned (.int .i64 0)∧Lf (cE w0 V fl (n0+2*(k+1)) (N+938*8+23938*(d.length-pat.length)) (K+8+111*(d.length-pat.length)) B d::l) w F w'):=fun W l z=>by
       rw[← b1.out,c3.out];have q9:b=((i+1:Nat):Int):=G;have q1:cB fA fl b=true:=a5.out.2.1;have q2:(bT fl (below fA fl b)).2.2=B:=a5.out.2.2;rw[q9] at q1 q2 ⊢;have q3:=f7.out;have q4:=e5.out;have q5:=e4.out;have q6:=b2.out;have q7:=HP.out;have q8:=c2.out;dsimp only at q8;refine(dR z fun f J=>e9z hi f0 h9 (aL HB.out (eO z)) q1 q2 (by omega) f8.out (by omega) (by omega) I J).mono ?_;rintro e w' ⟨_,⟨rfl,rfl⟩,p⟩;exact⟨rfl,p⟩
      clear f0 h9 hi G a5 c3 d4;have C:Hid (∀ (A:cR w0.heap.size) l W,Lf (A::l) w F W→Eng.bT l 0=some (cM _ wr.heap.size 178 [iv b,sv I,iv sz])→W.cell? ⟨wr.heap.size,0,none⟩=some (.int .i64 b)):=fun A l W z h2=>(bX (i:=1) z h2).cell 0
      have ce:=C.out _ _ _ H5.out rfl;have a6:Hid (∀ W,Lf (cE w0 V fl (n0+2*k) (N+938*8+23938*(d.length-pat.length)) (K+8+111*(d.length-pat.length)) B d::cM _ wr.heap.size 178 [iv b,sv I,iv sz]::[cG _ 2 qT 182 u3 tl,cG _ 1 mG 3 (.slice al inos.length Q) inos,cG _ 3 dA 178 (.slice (some ⟨M,g,none⟩) (bW fl).length L) (bW fl)]) w F W→Lf (cE w0 V fl (n0+2*k) (N+938*8+23938*(d.length-pat.length)) (K+8+111*(d.length-pat.length)) B d::cM _ W.heap.size 90 ptZ::cM _ wr.heap.size 178 [iv b,sv I,iv sz]::[cG _ 2 qT 182 u3 tl,cG _ 1 mG 3 (.slice al inos.length Q) inos,cG _ 3 dA 178 (.slice (some ⟨M,g,none⟩) (bW fl).length L) (bW fl)]) w F ((W.alloc (.cells #[.bool false,.int .i64 0,.int .i64 0,.int .i64 0,.int .u32 0,.int .i64 0,.int .i64 0,.bool false,.bool false,.int .i64 0,.int .i64 0,.slice none 0 0,.slice none 0 0,.int .i64 0,.slice none 0 0,.slice none 0 0,.int .i64 0,.slice none 0 0,.slice none 0 0,.int .i64 0,.slice none 0 0] 90)).drew)):=fun W z=>jE (eJ 90 ptZ HB.out z)
      go_wp2_with fail
      generalize wr.alloc (.cells #[.int .i64 b,.string I,.int .i64 sz] 178)=w3 at *
      go_region_held3 (fun W=>W.cell? ⟨gf,4,none⟩=some V.t∧W.cell? ⟨wr.heap.size,0,none⟩=some (.int .i64 b)) (first|go_keep|exact⟨c7,a8⟩|exact⟨c6,a7⟩) (first
       | (go_at_call 29;(with_reducible refine(R.out _ _ (jE H5.out)).mono ?_);(rintro _ w4 ⟨cs,rfl,E,p⟩;have H6:=bG p;have o:=bG E;have c6:=O.out _ _ _ _ _ _ p;have a7:=C.out _ _ _ p rfl;clear p E;dsimp only))
       | (go_at_call 29;(with_reducible refine(R.out _ _ (a6.out _ H5.out)).mono ?_);(rintro _ w4 ⟨cs,rfl,E,p⟩;have Z:=bG p;have o:=bG E;have c6:=O.out _ _ _ _ _ _ p;have a7:=(bX (i:=2) p rfl).cell 0;clear p E;dsimp only))
       | ((refine pN (heap_alloc_new _ _) (by rfl) o.out.1 o.out.2.1 ?_);(have a0:=bG (qP w4 ptZ.toArray cs 90));(generalize a3:World.setRow _ w4.heap.size cs=S);(have a1:bR [] w4 S:=(by rw[← a3];exact a0.out.1));(have D:cU S w4.heap.size 90 cs.toList:=(by rw[← a3];exact a0.out.2));(have U:=bG (oU H6.out a1));(have e0:S.cell? ⟨w4.heap.size,0,none⟩=some (.bool true):=(by rw[D.cell 0,Array.getElem?_toList];exact o.out.2.2));(have c7:=O.out _ _ _ _ _ _ U.out);(have a8:=C.out _ _ _ U.out rfl);(clear a3 a1 D a0 H6);dsimp only)
       | ((refine pN (bX (i:=1) Z.out rfl) (by rfl) o.out.1 o.out.2.1 ?_);(have a2:=bG (zC (i:=1) Z.out rfl (by simp) cs));(generalize World.setRow _ _ cs=S at *);(have D:=bX (i:=1) a2.out rfl);(have U:=bG (eZ a2.out));(have e0:=D.cell 0);(rw[Array.getElem?_toList,o.out.2.2] at e0);(have c7:=O.out _ _ _ _ _ _ U.out);(have a8:=C.out _ _ _ U.out rfl);(clear D Z a2);dsimp only)
       | fail)
      all_goals
       have HY:Hid (Lf (cE w0 V fl (n0+2*k) (N+938*8+23938*(d.length-pat.length)) (K+8+111*(d.length-pat.length)) B d::cM _ wr.heap.size 178 [iv b,sv I,iv sz]::[cG _ 2 qT 182 u3 tl,cG _ 1 mG 3 (.slice al inos.length Q) inos,cG _ 3 dA 178 (.slice (some ⟨M,g,none⟩) (bW fl).length L) (bW fl)]) w F S):=U.out;have g1:S.cell? ⟨wr.heap.size,1,none⟩=some (sv I):=(bX (i:=1) HY.out rfl).cell 1;have g2:S.cell? ⟨wr.heap.size,2,none⟩=some (iv sz):=(bX (i:=1) HY.out rfl).cell 2;clear U o a6;go_wp2_with fail
       (with_reducible refine(Y.out _ _ HY.out).mono ?_)
       rintro e w7 ⟨rfl,h8⟩;have H8:Hid (Lf (cE w0 V fl (n0+2*(k+1)) (N+938*8+23938*(d.length-pat.length)) (K+8+111*(d.length-pat.length)) B d::[cG _ 2 qT 182 u3 tl,cG _ 1 mG 3 (.slice al inos.length Q) inos,cG _ 3 dA 178 (.slice (some ⟨M,g,none⟩) (bW fl).length L) (bW fl)]) w F w7):=eZ h8;clear h8 Y;go_wp2_with fail
       go_roundw
       case rel=>exact⟨k+1,tl,by omega,by go_num,by rw[a4.out];exact e9.out,by have:=b9.out;omega,by rw[a4.out];exact c2.out,by rw[a4.out];exact H8.out⟩
       case measure=>simp[intOf];omega
     ·have h9:d.length≤9:=x9;have h8:d.length≤8:=x8;have f1:(dV 0 d).length < 8:=c9;have G:b=((d.length+1:Nat):Int):=T;clear x9 x8 c9 T;have R:Hid (∀ W l,Lf (cE w0 V fl (n0+2*k) (N+938*8+23938*(d.length-pat.length)) (K+8+111*(d.length-pat.length)) B d::l) w F W→Calls Tryz.prog 29 #[V.t,.int .i64 b] W fun e w'=>∃ cs,e = .returned (.tuple #[.agg cs,.bool false])∧xG cs false∧Lf (cE w0 V fl (n0+2*k) (N+938*8+23938*(d.length-pat.length)) (K+8+111*(d.length-pat.length)) B d::l) w F w'):=fun W l z=>by
       rw[G];refine(dR z fun f J=>e9x (i:=d.length) (aF _) (by omega) h9 (aL HB.out (eO z)) J).mono ?_;rintro e w' ⟨_,⟨⟨cs,rfl,z1⟩,rfl⟩,p⟩;exact⟨cs,rfl,z1,p⟩
      have Y:Hid (∀ W l,Lf (cE w0 V fl (n0+2*k) (N+938*8+23938*(d.length-pat.length)) (K+8+111*(d.length-pat.length)) B d::l) w F W→Calls Tryz.prog 69 #[.pointer (some ⟨gf,0,none⟩),.agg #[.int .i64 b,.string I,.int .i64 sz]] W fun e w'=>e = .returned (.int .i64 0)∧Lf (cE w0 V fl (n0+2*(k+1)) (N+938*8+23938*((d++[true]).length-pat.length)) (K+8+111*((d++[true]).length-pat.length)) B (d++[true])::l) w F w'):=fun W l z=>by
       rw[← b1.out,c3.out];have q9:b=((d.length+1:Nat):Int):=G;have q1:cB fA fl b=true:=a5.out.2.1;have q2:(bT fl (below fA fl b)).2.2=B:=a5.out.2.2;rw[q9] at q1 q2 ⊢;have q3:=f7.out;have q4:=e5.out;have q5:=e4.out;have q6:=b2.out;have q7:=HP.out;have q8:=c2.out;dsimp only at q8;refine(dR z fun f J=>e9y h8 (aL HB.out (eO z)) q1 q2 (by omega) f8.out (by omega) (by omega) I J).mono ?_;rintro e w' ⟨_,⟨rfl,rfl⟩,p⟩;exact⟨rfl,xE p fun f J=>tT J (by omega) (by rw[aE,List.length_singleton];omega) (by rw[aE,List.length_singleton];omega)⟩
      have a9:Hid (∀ W l,Lf (cE w0 V fl (n0+2*k) (N+938*8+23938*(d.length-pat.length)) (K+8+111*(d.length-pat.length)) B d::l) w F W→Calls Tryz.prog 45 #[.pointer (some ⟨gf,0,none⟩)] W fun e w'=>∃ a c,e = .returned (.slice a (dV 0 d).length c)∧Lf (cE w0 V fl (n0+2*k) (N+938*8+23938*(d.length-pat.length)) (K+8+111*(d.length-pat.length)) B d::l) w F w'):=fun W l z=>by
       rw[← b1.out];refine(dR z fun f J=>b9h h9 (aL HB.out (eO z)) J).mono ?_;rintro e w' ⟨_,⟨u,rfl,rfl⟩,p⟩;have p:Lf (cE w0 V fl (n0+2*k) (N+938*8+23938*(d.length-pat.length)) (K+8+111*(d.length-pat.length)) B d::cG _ 1 mG 3 u (dV 0 d)::l) w F w':=p;obtain⟨a,c,rfl,-⟩:=a6o (i:=1) p rfl;exact⟨a,c,rfl,eZ p⟩
      clear G a5 c3 d4 h8 h9;have hm:((dV 0 d).length:Int) < 8:=by omega
      clear f1;generalize (dV 0 d).length=m at *
      have C:Hid (∀ (A:cR w0.heap.size) l W,Lf (A::l) w F W→Eng.bT l 0=some (cM _ wr.heap.size 178 [iv b,sv I,iv sz])→W.cell? ⟨wr.heap.size,0,none⟩=some (.int .i64 b)):=fun A l W z h2=>(bX (i:=1) z h2).cell 0
      have ce:=C.out _ _ _ H5.out rfl;have a6:Hid (∀ W,Lf (cE w0 V fl (n0+2*k) (N+938*8+23938*(d.length-pat.length)) (K+8+111*(d.length-pat.length)) B d::cM _ wr.heap.size 178 [iv b,sv I,iv sz]::[cG _ 2 qT 182 u3 tl,cG _ 1 mG 3 (.slice al inos.length Q) inos,cG _ 3 dA 178 (.slice (some ⟨M,g,none⟩) (bW fl).length L) (bW fl)]) w F W→Lf (cE w0 V fl (n0+2*k) (N+938*8+23938*(d.length-pat.length)) (K+8+111*(d.length-pat.length)) B d::cM _ W.heap.size 90 ptZ::cM _ wr.heap.size 178 [iv b,sv I,iv sz]::[cG _ 2 qT 182 u3 tl,cG _ 1 mG 3 (.slice al inos.length Q) inos,cG _ 3 dA 178 (.slice (some ⟨M,g,none⟩) (bW fl).length L) (bW fl)]) w F ((W.alloc (.cells #[.bool false,.int .i64 0,.int .i64 0,.int .i64 0,.int .u32 0,.int .i64 0,.int .i64 0,.bool false,.bool false,.int .i64 0,.int .i64 0,.slice none 0 0,.slice none 0 0,.int .i64 0,.slice none 0 0,.slice none 0 0,.int .i64 0,.slice none 0 0,.slice none 0 0,.int .i64 0,.slice none 0 0] 90)).drew)):=fun W z=>jE (eJ 90 ptZ HB.out z)
      go_wp2_with fail
      generalize wr.alloc (.cells #[.int .i64 b,.string I,.int .i64 sz] 178)=w3 at *
      go_region_held3 (fun W=>W.cell? ⟨gf,4,none⟩=some V.t∧W.cell? ⟨wr.heap.size,0,none⟩=some (.int .i64 b)) (first|go_keep|exact⟨c7,a8⟩|exact⟨c6,a7⟩) (first
       | (go_at_call 29;(with_reducible refine(R.out _ _ (jE H5.out)).mono ?_);(rintro _ w4 ⟨cs,rfl,E,p⟩;have H6:=bG p;have o:=bG E;have c6:=O.out _ _ _ _ _ _ p;have a7:=C.out _ _ _ p rfl;clear p E;dsimp only))
       | (go_at_call 29;(with_reducible refine(R.out _ _ (a6.out _ H5.out)).mono ?_);(rintro _ w4 ⟨cs,rfl,E,p⟩;have Z:=bG p;have o:=bG E;have c6:=O.out _ _ _ _ _ _ p;have a7:=(bX (i:=2) p rfl).cell 0;clear p E;dsimp only))
       | ((refine pN (heap_alloc_new _ _) (by rfl) o.out.1 o.out.2.1 ?_);(have a0:=bG (qP w4 ptZ.toArray cs 90));(generalize a3:World.setRow _ w4.heap.size cs=S);(have a1:bR [] w4 S:=(by rw[← a3];exact a0.out.1));(have D:cU S w4.heap.size 90 cs.toList:=(by rw[← a3];exact a0.out.2));(have U:=bG (oU H6.out a1));(have e0:S.cell? ⟨w4.heap.size,0,none⟩=some (.bool false):=(by rw[D.cell 0,Array.getElem?_toList];exact o.out.2.2));(have c7:=O.out _ _ _ _ _ _ U.out);(have a8:=C.out _ _ _ U.out rfl);(clear a3 a1 D a0 H6);dsimp only)
       | ((refine pN (bX (i:=1) Z.out rfl) (by rfl) o.out.1 o.out.2.1 ?_);(have a2:=bG (zC (i:=1) Z.out rfl (by simp) cs));(generalize World.setRow _ _ cs=S at *);(have D:=bX (i:=1) a2.out rfl);(have U:=bG (eZ a2.out));(have e0:=D.cell 0);(rw[Array.getElem?_toList,o.out.2.2] at e0);(have c7:=O.out _ _ _ _ _ _ U.out);(have a8:=C.out _ _ _ U.out rfl);(clear D Z a2);dsimp only)
       | fail)
      all_goals
       have HY:Hid (Lf (cE w0 V fl (n0+2*k) (N+938*8+23938*(d.length-pat.length)) (K+8+111*(d.length-pat.length)) B d::cM _ wr.heap.size 178 [iv b,sv I,iv sz]::[cG _ 2 qT 182 u3 tl,cG _ 1 mG 3 (.slice al inos.length Q) inos,cG _ 3 dA 178 (.slice (some ⟨M,g,none⟩) (bW fl).length L) (bW fl)]) w F S):=U.out;have g1:S.cell? ⟨wr.heap.size,1,none⟩=some (sv I):=(bX (i:=1) HY.out rfl).cell 1;have g2:S.cell? ⟨wr.heap.size,2,none⟩=some (iv sz):=(bX (i:=1) HY.out rfl).cell 2;clear U o a6;go_wp2_with fail
       (with_reducible refine(a9.out _ _ HY.out).mono ?_)
       rintro e w6 ⟨la,lc,rfl,h8⟩;have HZ:=bG h8;have k0:w6.cell? ⟨wr.heap.size,0,none⟩=some (iv b):=(bX (i:=1) HZ.out rfl).cell 0;have k1:w6.cell? ⟨wr.heap.size,1,none⟩=some (sv I):=(bX (i:=1) HZ.out rfl).cell 1;have k2:w6.cell? ⟨wr.heap.size,2,none⟩=some (iv sz):=(bX (i:=1) HZ.out rfl).cell 2;clear h8 HY g1 g2 e0 a9;go_wp2_with fail
       (with_reducible refine(Y.out _ _ HZ.out).mono ?_)
       rintro e w7 ⟨rfl,h8⟩;have H8:Hid (Lf (cE w0 V fl (n0+2*(k+1)) (N+938*8+23938*((d++[true]).length-pat.length)) (K+8+111*((d++[true]).length-pat.length)) B (d++[true])::[cG _ 2 qT 182 u3 tl,cG _ 1 mG 3 (.slice al inos.length Q) inos,cG _ 3 dA 178 (.slice (some ⟨M,g,none⟩) (bW fl).length L) (bW fl)]) w F w7):=eZ h8;clear h8 Y;go_wp2_with fail
       go_roundw
       case rel=>exact⟨k+1,tl,by omega,by go_num,by rw[a4.out];exact e9.out,by have:=b9.out;omega,by rw[a4.out];(rw[aE];exact aL c2.out (Nat.le_add_right _ _)),by rw[a4.out];exact H8.out⟩
       case measure=>simp[intOf];omega
     ·have h9:d.length≤9:=x9;have f1:8≤(dV 0 d).length:=c9;have G:b=((i+1:Nat):Int):=T;have g0:d.length≤i:=x1;have g3:i < 12:=x2;clear x9 c9 T x1 x2;have R:Hid (∀ W l,Lf (cE w0 V fl (n0+2*k) (N+938*8+23938*(d.length-pat.length)) (K+8+111*(d.length-pat.length)) B d::l) w F W→Calls Tryz.prog 29 #[V.t,.int .i64 b] W fun e w'=>∃ cs,e = .returned (.tuple #[.agg cs,.bool false])∧xG cs false∧Lf (cE w0 V fl (n0+2*k) (N+938*8+23938*(d.length-pat.length)) (K+8+111*(d.length-pat.length)) B d::l) w F w'):=fun W l z=>by
       rw[G];refine(dR z fun f J=>e9x (i:=i) g0 g3 h9 (aL HB.out (eO z)) J).mono ?_;rintro e w' ⟨_,⟨⟨cs,rfl,z1⟩,rfl⟩,p⟩;exact⟨cs,rfl,z1,p⟩
      have a9:Hid (∀ W l,Lf (cE w0 V fl (n0+2*k) (N+938*8+23938*(d.length-pat.length)) (K+8+111*(d.length-pat.length)) B d::l) w F W→Calls Tryz.prog 45 #[.pointer (some ⟨gf,0,none⟩)] W fun e w'=>∃ a c,e = .returned (.slice a (dV 0 d).length c)∧Lf (cE w0 V fl (n0+2*k) (N+938*8+23938*(d.length-pat.length)) (K+8+111*(d.length-pat.length)) B d::l) w F w'):=fun W l z=>by
       rw[← b1.out];refine(dR z fun f J=>b9h h9 (aL HB.out (eO z)) J).mono ?_;rintro e w' ⟨_,⟨u,rfl,rfl⟩,p⟩;have p:Lf (cE w0 V fl (n0+2*k) (N+938*8+23938*(d.length-pat.length)) (K+8+111*(d.length-pat.length)) B d::cG _ 1 mG 3 u (dV 0 d)::l) w F w':=p;obtain⟨a,c,rfl,-⟩:=a6o (i:=1) p rfl;exact⟨a,c,rfl,eZ p⟩
      clear G a5 c3 d4 g0 g3 h9;have hm:(8:Int)≤((dV 0 d).length:Int):=by omega
      clear f1;generalize (dV 0 d).length=m at *
      have C:Hid (∀ (A:cR w0.heap.size) l W,Lf (A::l) w F W→Eng.bT l 0=some (cM _ wr.heap.size 178 [iv b,sv I,iv sz])→W.cell? ⟨wr.heap.size,0,none⟩=some (.int .i64 b)):=fun A l W z h2=>(bX (i:=1) z h2).cell 0
      have ce:=C.out _ _ _ H5.out rfl;have a6:Hid (∀ W,Lf (cE w0 V fl (n0+2*k) (N+938*8+23938*(d.length-pat.length)) (K+8+111*(d.length-pat.length)) B d::cM _ wr.heap.size 178 [iv b,sv I,iv sz]::[cG _ 2 qT 182 u3 tl,cG _ 1 mG 3 (.slice al inos.length Q) inos,cG _ 3 dA 178 (.slice (some ⟨M,g,none⟩) (bW fl).length L) (bW fl)]) w F W→Lf (cE w0 V fl (n0+2*k) (N+938*8+23938*(d.length-pat.length)) (K+8+111*(d.length-pat.length)) B d::cM _ W.heap.size 90 ptZ::cM _ wr.heap.size 178 [iv b,sv I,iv sz]::[cG _ 2 qT 182 u3 tl,cG _ 1 mG 3 (.slice al inos.length Q) inos,cG _ 3 dA 178 (.slice (some ⟨M,g,none⟩) (bW fl).length L) (bW fl)]) w F ((W.alloc (.cells #[.bool false,.int .i64 0,.int .i64 0,.int .i64 0,.int .u32 0,.int .i64 0,.int .i64 0,.bool false,.bool false,.int .i64 0,.int .i64 0,.slice none 0 0,.slice none 0 0,.int .i64 0,.slice none 0 0,.slice none 0 0,.int .i64 0,.slice none 0 0,.slice none 0 0,.int .i64 0,.slice none 0 0] 90)).drew)):=fun W z=>jE (eJ 90 ptZ HB.out z)
      go_wp2_with fail
      generalize wr.alloc (.cells #[.int .i64 b,.string I,.int .i64 sz] 178)=w3 at *
      go_region_held3 (fun W=>W.cell? ⟨gf,4,none⟩=some V.t∧W.cell? ⟨wr.heap.size,0,none⟩=some (.int .i64 b)) (first|go_keep|exact⟨c7,a8⟩|exact⟨c6,a7⟩) (first
       | (go_at_call 29;(with_reducible refine(R.out _ _ (jE H5.out)).mono ?_);(rintro _ w4 ⟨cs,rfl,E,p⟩;have H6:=bG p;have o:=bG E;have c6:=O.out _ _ _ _ _ _ p;have a7:=C.out _ _ _ p rfl;clear p E;dsimp only))
       | (go_at_call 29;(with_reducible refine(R.out _ _ (a6.out _ H5.out)).mono ?_);(rintro _ w4 ⟨cs,rfl,E,p⟩;have Z:=bG p;have o:=bG E;have c6:=O.out _ _ _ _ _ _ p;have a7:=(bX (i:=2) p rfl).cell 0;clear p E;dsimp only))
       | ((refine pN (heap_alloc_new _ _) (by rfl) o.out.1 o.out.2.1 ?_);(have a0:=bG (qP w4 ptZ.toArray cs 90));(generalize a3:World.setRow _ w4.heap.size cs=S);(have a1:bR [] w4 S:=(by rw[← a3];exact a0.out.1));(have D:cU S w4.heap.size 90 cs.toList:=(by rw[← a3];exact a0.out.2));(have U:=bG (oU H6.out a1));(have e0:S.cell? ⟨w4.heap.size,0,none⟩=some (.bool false):=(by rw[D.cell 0,Array.getElem?_toList];exact o.out.2.2));(have c7:=O.out _ _ _ _ _ _ U.out);(have a8:=C.out _ _ _ U.out rfl);(clear a3 a1 D a0 H6);dsimp only)
       | ((refine pN (bX (i:=1) Z.out rfl) (by rfl) o.out.1 o.out.2.1 ?_);(have a2:=bG (zC (i:=1) Z.out rfl (by simp) cs));(generalize World.setRow _ _ cs=S at *);(have D:=bX (i:=1) a2.out rfl);(have U:=bG (eZ a2.out));(have e0:=D.cell 0);(rw[Array.getElem?_toList,o.out.2.2] at e0);(have c7:=O.out _ _ _ _ _ _ U.out);(have a8:=C.out _ _ _ U.out rfl);(clear D Z a2);dsimp only)
       | fail)
      all_goals
       have HY:Hid (Lf (cE w0 V fl (n0+2*k) (N+938*8+23938*(d.length-pat.length)) (K+8+111*(d.length-pat.length)) B d::cM _ wr.heap.size 178 [iv b,sv I,iv sz]::[cG _ 2 qT 182 u3 tl,cG _ 1 mG 3 (.slice al inos.length Q) inos,cG _ 3 dA 178 (.slice (some ⟨M,g,none⟩) (bW fl).length L) (bW fl)]) w F S):=U.out;have g1:S.cell? ⟨wr.heap.size,1,none⟩=some (sv I):=(bX (i:=1) HY.out rfl).cell 1;have g2:S.cell? ⟨wr.heap.size,2,none⟩=some (iv sz):=(bX (i:=1) HY.out rfl).cell 2;clear U o a6;go_wp2_with fail
       (with_reducible refine(a9.out _ _ HY.out).mono ?_)
       rintro e w6 ⟨la,lc,rfl,h8⟩;have HZ:=bG h8;have k0:w6.cell? ⟨wr.heap.size,0,none⟩=some (iv b):=(bX (i:=1) HZ.out rfl).cell 0;have k1:w6.cell? ⟨wr.heap.size,1,none⟩=some (sv I):=(bX (i:=1) HZ.out rfl).cell 1;have k2:w6.cell? ⟨wr.heap.size,2,none⟩=some (iv sz):=(bX (i:=1) HZ.out rfl).cell 2;clear h8 HY g1 g2 e0 a9;have g4:Hid ((tl.length+[(b,(13:Int))].length)*16≤140737488355328):=by have:=b9.out;have:=b2.out;unfold Hid;simp only[List.length_singleton];omega
       have g5:Hid (tl.length+[(b,(13:Int))].length≤maxLen):=by have:=b9.out;have:=b2.out;unfold Hid maxLen;simp only[List.length_singleton];omega
       go_wp2_with (at_builtin;go_must ((have H8:Hid (Lf (cE w0 V fl (n0+2*k) (N+938*8+23938*(d.length-pat.length)) (K+8+111*(d.length-pat.length)) B d::(cM _ w6.heap.size 182 [iv b,iv 13])::cM _ wr.heap.size 178 [iv b,sv I,iv sz]::[cG _ 2 qT 182 u3 tl,cG _ 1 mG 3 (.slice al inos.length Q) inos,cG _ 3 dA 178 (.slice (some ⟨M,g,none⟩) (bW fl).length L) (bW fl)]) w F (w6.alloc (.cells #[.int .i64 b,.int .i64 13] 182))):=eJ 182 [iv b,iv 13] HB.out HZ.out);refine cQ rfl _ _ rfl u3 (.slice (some ⟨w6.heap.size,0,none⟩) 1 1) rfl rfl (fR (c:=qT) (sz:=2) c2o (by decide) d8o f0a e4f rfl _ _ tl [(b,13)] (c2q (i:=3) H8.out rfl) (d8p w6 b 13 _) g4.out g5.out (aL HB.out (eO H8.out))) ?_;rintro v5 w8 ⟨i5,a1,i7⟩;have H9:=bG (a9n (i:=3) H8.out rfl (by simp) i5 a1 i7);clear i5 a1 i7 H8))
       have g6:Lf (cE w0 V fl (n0+2*k) (N+938*8+23938*(d.length-pat.length)) (K+8+111*(d.length-pat.length)) B d::(cM _ w6.heap.size 182 [iv b,iv 13])::cM _ wr.heap.size 178 [iv b,sv I,iv sz]::[cG _ 2 qT 182 v5 (tl++[(b,13)]),cG _ 1 mG 3 (.slice al inos.length Q) inos,cG _ 3 dA 178 (.slice (some ⟨M,g,none⟩) (bW fl).length L) (bW fl)]) w F w8:=H9.out;have j5:Hid (Lf (cE w0 V fl (n0+2*(k+1)) (N+938*8+23938*(d.length-pat.length)) (K+8+111*(d.length-pat.length)) B d::[cG _ 2 qT 182 v5 (tl++[(b,13)]),cG _ 1 mG 3 (.slice al inos.length Q) inos,cG _ 3 dA 178 (.slice (some ⟨M,g,none⟩) (bW fl).length L) (bW fl)]) w F w8):=xE (eZ (eZ g6)) fun f J=>tT J (by omega) (aF _) (aF _)
       clear g6 H9;go_roundw
       case rel=>exact⟨k+1,tl++[(b,13)],by omega,by go_num,by rw[a4.out,aE,e9.out];rfl,by have:=b9.out;simp;omega,by rw[a4.out];exact c2.out,by rw[a4.out];exact j5.out⟩
       case measure=>simp[intOf];omega
    ·obtain rfl:k=(bW fl).length:=by omega
     go_wp2_with fail
     go_ret;exact⟨_,tl,rfl,f4,d4c (l:=[_,_]) ho.out⟩
end
section
variable {w0 w W : World} {F : Nat → Prop} {l m : List (cR w0.heap.size)} {A A' : cR w0.heap.size}
theorem all_nil {b:Nat} {w:World}:cW ([]:List (cR b)) w fun _=>False:=⟨fun _ _=>False,⟨(fun i A h=>by cases i<;>cases h),(fun i j x h=>False.elim h),(fun i h x q=>q)⟩,fun x=>⟨fun q=>q.elim,fun ⟨i,q⟩=>q⟩⟩
theorem a9p (h:Lf (A::A'::l) w F W):Lf (A'::A::l) w F W:=by
 obtain⟨F1,c,d,f⟩:=h;obtain⟨g,y,i,j,b,o⟩:=Eng.cW.split (l:=[A]) (m:=A'::l) c;obtain⟨r,s,t,u,v,a⟩:=Eng.cW.split (l:=[A']) (m:=l) j;refine⟨F1,Eng.cW.join (l:=[A']) (m:=A::l) (F1:=r) (F2:=fun x=>g x∨s x) t (Eng.cW.join (l:=[A]) (m:=l) i u (fun x p q=>b x p ((a x).2 (.inr q))) fun x=>Iff.rfl) (fun x p q=>?_) (fun x=>?_),d,f⟩
 ·rcases q with q|q
  ·exact b x q ((a x).2 (.inl p))
  ·exact v x p q
 ·rw[o,a];constructor
  ·rintro(p|p|p)
   ·exact .inr (.inl p)
   ·exact .inl p
   ·exact .inr (.inr p)
  ·rintro(p|p|p)
   ·exact .inr (.inl p)
   ·exact .inl p
   ·exact .inr (.inr p)
end
def enC (B:List UInt8) (p:Nat×Q4):List Value := .int .i64 ((p.1+1:Nat):Int) :: .int .i64 1 :: .int .i64 ((min (B.take 16).length 16:Nat):Int) :: .int .u32 ((kM (B.take 16)).toNat:Int)::yR B.length p.2.1 p.2.2.1 p.2.2.2.1 p.2.2.2.2
def c6m (q:Q4):Prop:=q.1.oneCell'=true∧q.2.1.oneCell'=true∧q.2.2.1.oneCell'=true∧q.2.2.2.oneCell'=true
theorem c2r {n:Nat} {q:Q4} (h:c6m q):∀ u∈yR n q.1 q.2.1 q.2.2.1 q.2.2.2,u.oneCell'=true:=fun u a=>by
 simp only[yR,aG,bF,or_false] at a;obtain⟨b,c,d,f⟩:=h
 rcases a with rfl|rfl|rfl|rfl|rfl|rfl|rfl|rfl|rfl|rfl|rfl|rfl|rfl|rfl|rfl|rfl<;>first
  | rfl
  | exact b
  | exact c
  | exact d
  | exact f
theorem c2s {B:List UInt8} {p:Nat×Q4} (h:c6m p.2):∀ u∈enC B p,u.oneCell'=true:=fun u a=>by
 unfold enC at a;rcases aG.1 a with rfl|a
 ·rfl
 rcases aG.1 a with rfl|a
 ·rfl
 rcases aG.1 a with rfl|a
 ·rfl
 rcases aG.1 a with rfl|a
 ·rfl
 exact c2r h u a
abbrev Q1:={q:Q4 // c6m q}
instance:Inhabited Q1:=⟨⟨(.bool false,.bool false,.bool false,.bool false),rfl,rfl,rfl,rfl⟩⟩
abbrev uC (B:List UInt8) (p:Nat×Q1):List Value:=enC B (p.1,p.2.1)
theorem tW (B:List UInt8):∀ p,(uC B p).length=20:=fun _=>rfl
theorem d8q (B:List UInt8):∀ p,∀ u∈uC B p,u.oneCell'=true:=fun p=>c2s p.2.2
theorem e4h (B:List UInt8) (W:World) (p:Nat×Q1) (t:TypeId):qW 20 (uC B) (W.alloc (.cells (uC B p).toArray t)) (.slice (some ⟨W.heap.size,0,none⟩) 1 1) [p]:=by
 have b:=cU.new W t (uC B p);refine⟨_,1,rfl,by simp,by simp[maxLen],fun _=>⟨W.heap.size,0,rfl,fun j a i c=>?_⟩⟩;simp at a;subst a;have:=b.cell i;rw[cP,show 0+(0*20+i)=i by omega];exact this
theorem d4f {s:Nat} (hs:0 < s) (E:List Value) (cells:Array Value) (h1:E.length=s) (h2:cells.size=1*s):Instr.fill (fun i=>some (i*s,s)) cells [(0,.agg E.toArray)]=some E.toArray:=by
 have:=Go.Great.fill_whole hs [.agg E.toArray] cells (fun v a=>by rw[List.mem_singleton.1 a];simpa [Value.cells] using h1) (by simp[h2]);simpa [Value.cells] using this
theorem d8r:∃ i z,Tryz.prog.info? 88=some i∧i.zero=some z∧i.size=20∧z.cells.size=20∧i.bytes≤1000:=by
 have d:((Tryz.prog.info? 88).bind (·.zero)).map (·.cells.size)=some 20:=by kernel_rfl
 have a:(Tryz.prog.info? 88).map (·.size)=some 20:=by kernel_rfl
 have b:(Tryz.prog.info? 88).map (fun i=>Nat.ble i.bytes 1000)=some true:=by kernel_rfl
 cases f:Tryz.prog.info? 88 with
 | none=>rw[f] at a;cases a
 | some i =>
  rw[f] at d a b;obtain⟨z,c,g⟩:=aB.1 d;have c:i.zero=some z:=c;have a:i.size=20:=by simpa using a
  have b:Nat.ble i.bytes 1000=true:=by simpa using b
  exact⟨i,z,rfl,c,a,g,aN b⟩
theorem vO {t:TypeId} (h:(Tryz.prog.underlying t).map (·.isRow)=some true):∃ d,Tryz.prog.underlying t=some d∧d.isRow=true:=by
 obtain⟨d,a,b⟩:=aB.1 h;exact⟨d,a,b⟩
theorem f0b:(Tryz.prog.underlying 88).map (·.isRow)=some true:=by kernel_rfl
theorem f0c:(Tryz.prog.underlying 86).map (·.isRow)=some true:=by kernel_rfl
def e0r (xs:List Value) (o:Nat):List Value→List Value
 | []=>xs
 | v::r=>e0r (xs.set o v) (o+1) r
theorem b4t {b:Nat} {e:TypeId}:∀ (vs:List Value) {w:World} {xs:List Value} (o:Nat),cU w b e xs→cU (w.setCells b o vs) b e (e0r xs o vs)
 | [],w,xs,o,h=>h
 | v::r,w,xs,o,h=>b4t r (o+1) (h.set_ o v)
theorem b4u (b:Nat):∀ (vs:List Value) (w:World) (o:Nat),bR [b] w (w.setCells b o vs)
 | [],w,o=>bR.refl _ _
 | v::r,w,o=>((bR.refl [b] w).setCell ⟨b,o,none⟩ v (.inl (by simp))).trans (b4u b r _ (o+1)) (fun x hx=>hx) (fun x hx => .inl hx)
theorem a6p {w:World} {b:Nat} {e:TypeId} {xs:List Value} (h:cU w b e xs) (o n:Nat) (hn:o+n≤xs.length):w.there b o n:=fun j a=>by
 rw[h.cell];exact⟨by simp;omega,h.frozen _⟩
theorem c2t {w0 w W:World} {F:Nat→Prop} {B:List UInt8} {v:Value} {es:List (Nat×Q1)} {l:List (cR w0.heap.size)} {i:Nat} (h:Lf l w F W) (hi:Eng.bT l i=some (cG _ 20 (uC B) 88 v es)):cF 20 (uC B) w0.heap.size 88 W v es:=by
 obtain⟨f,a,b⟩:=sG h hi;exact a
theorem e4i:(Tryz.prog.info? 88).map (·.size)=some 20:=by kernel_rfl
theorem e0s:Tryz.prog.underlying 75=some (.slice 88):=by kernel_rfl
theorem e4j:(Tryz.prog.info? 86).map (·.size)=some 16:=by kernel_rfl
theorem zD:∀ (l:List Pt) (i:Nat) (x:Int),x∈eF i l→∃ j,∃ h:j < l.length,∃ q,l[j]=some q∧x=((i+j+1:Nat):Int)
 | [],i,x,h=>by cases h
 | none::l,i,x,h=>by
  obtain⟨j,h1,q,h2,h3⟩:=zD l (i+1) x h;exact⟨j+1,by simpa using h1,q,by simpa using h2,by rw[h3];congr 1;omega⟩
 | some q::l,i,x,h=>by
  rcases aG.1 h with rfl|h
  ·exact⟨0,by simp,q,rfl,rfl⟩
  ·obtain⟨j,h1,q,h2,h3⟩:=zD l (i+1) x h;exact⟨j+1,by simpa using h1,q,by simpa using h2,by rw[h3];congr 1;omega⟩
section
variable {w0 w : World} {F : Nat → Prop} {V : FV} {fl : FL} {n0 N K : Nat} {B : List UInt8} {pts : List Pt}
theorem a9q (i:Nat) (hi:i < pts.length):Eng.bT (eI w0 V fl n0 N K B pts) (i+5)=some (qN _ B pts[i]):=by
 show Eng.bT (pts.map (qN w0.heap.size B)) i=_;rw[gW,List.getElem?_map,aO hi];rfl
theorem d8s {i:Nat} {q:Q4} (hi:i < pts.length) (hq:pts[i]=some q) (h:cW (eI w0 V fl n0 N K B pts) w F):c6m q:=by
 obtain⟨c,a,d⟩:=h;have b:=a.at_ (i+5) _ (a9q i hi);rw[hq] at b;exact qM b
theorem f2c {i:Nat} {q:Q4} (hi:i < pts.length) (hq:pts[i]=some q) (hBl:B.length≤110) (hb:w0.heap.size≤w.heap.size) (h:cW (eI w0 V fl n0 N K B pts) w F) :
  Calls Tryz.prog 46 #[V.r,.agg (yR B.length q.1 q.2.1 q.2.2.1 q.2.2.2).toArray] w fun e w'=>∃ vx,e = .returned (.tuple #[vx,.int .i64 0])∧(∃ g,vx = .pointer (some ⟨g,0,none⟩))∧Lf (eI w0 V fl n0 N K B pts++[fV _ V.r vx B.length]) w F w':=by
 obtain⟨m,o,A⟩:=h;have a:=o.at_ 2 (cD _ V.r) rfl;have b:=o.at_ (i+5) _ (a9q i hi);rw[hq] at b;have b:(mD w0.heap.size B.length q.1 q.2.1 q.2.2.1 q.2.2.2).P w (m (i+5)):=b;refine(c2h (F:=fun x=>m 2 x∨m (i+5) x) a b (fun x p r=>by have:=o.ap 2 (i+5) x p r;omega) (fun _=>Iff.rfl) hb hBl).mono ?_;rintro e w' ⟨vx,C,D,E,rfl,f,G,I,J,s,d2,t,L,M,O,Q⟩;refine⟨vx,rfl,f,?_⟩;refine o.stepN A [(2,cD _ V.r,C),(i+5,qN _ B pts[i],D),((eI w0 V fl n0 N K B pts).length,fV _ V.r vx B.length,E)] (fun x=>m 2 x∨m (i+5) x) (fun j=>?_) (fun p f=>?_) L (fun x c=>?_) (fun p f x c=>?_) (fun p f r z x c l=>?_)
 ·have d:(eI w0 V fl n0 N K B pts).length=pts.length+5:=by simp[eI]
  rw[gW,gW,d];simp only[Eng.kW];by_cases u:j=2
  ·subst u;rfl
  rw[if_neg u];by_cases v:j=i+5
  ·subst v;rw[if_pos rfl,bE (by omega),← gW,a9q i hi]
  rw[if_neg v];by_cases y:j=pts.length+5
  ·subst y;rw[if_pos rfl,List.getElem?_append_right (by omega),d,Nat.sub_self];rfl
  rw[if_neg y];by_cases R:j < pts.length+5
  ·rw[bE (by omega)]
  ·rw[List.getElem?_append_right (by omega),d,List.getElem?_eq_none (by simp;omega),List.getElem?_eq_none (by omega)]
 ·simp only[aG,bF,or_false] at f;rcases f with rfl|rfl|rfl
  ·exact G
  ·rw[hq];exact I
  ·exact J
 ·rcases c with q|q
  ·exact⟨_,aR ..,q⟩
  ·exact⟨_,aT _ (aR ..),q⟩
 ·simp only[aG,bF,or_false] at f;rcases f with rfl|rfl|rfl
  ·exact M x c
  ·exact O x c
  ·exact Q x c
 ·simp only[aG,bF,or_false] at f z
  rcases f with rfl|rfl|rfl<;>rcases z with rfl|rfl|rfl<;>first
   | rfl
   | exact absurd l (s x c)
   | exact absurd l (d2 x c)
   | exact absurd l (t x c)
   | exact absurd c (s x l)
   | exact absurd c (d2 x l)
   | exact absurd c (t x l)
theorem f0d {i:Nat} {q:Q4} (hi:i < pts.length) (hq:pts[i]=some q) (hBl:B.length≤110) (hb:w0.heap.size≤w.heap.size) (h:(alA (eI w0 V fl n0 N K B pts)).P w F) :
  Calls Tryz.prog 46 #[V.r,.agg (yR B.length q.1 q.2.1 q.2.2.1 q.2.2.2).toArray] w fun e w'=>∃ l2,(∃ vx,e = .returned (.tuple #[vx,.int .i64 0])∧(∃ g,vx = .pointer (some ⟨g,0,none⟩))∧l2=[alA (eI w0 V fl n0 N K B pts),fV _ V.r vx B.length])∧Lf l2 w F w':=by
 refine(f2c hi hq hBl hb h).mono ?_;rintro e w' ⟨vx,rfl,a,b,c,d,f⟩;obtain⟨p,s,j,l,m,o⟩:=Eng.cW.split c;exact⟨_,⟨vx,rfl,a,rfl⟩,b,eY (A:=alA (eI w0 V fl n0 N K B pts)) j (cC.1 l) m o,d,f⟩
theorem d4g {vr vx:Value} {at_:Nat} (hb:w0.heap.size≤w.heap.size) (hl:at_≤150) (h:(fV w0.heap.size vr vx at_).P w F) :
  Calls Tryz.prog 47 #[vx] w fun e w'=>∃ l2,(∃ q:Q4,e = .returned (.agg (yR at_ q.1 q.2.1 q.2.2.1 q.2.2.2).toArray)∧c6m q∧l2=[])∧Lf (w0:=w0) l2 w F w':=by
 refine(vM h hb hl).mono ?_;rintro e w' ⟨a,b,hd,c,g,i,rfl,j,d,l,f,m,o⟩;exact⟨_,⟨(a,b,hd,c),rfl,qM d,rfl⟩,_,all_nil,f,fun x q=>q.elim⟩
theorem d8t {fn:FuncId} {us:Array Value} {R:Ending→Prop} (h:(alA (eI w0 V fl n0 N K B pts)).P w F) (hc:cW (eI w0 V fl n0 N K B pts) w F→Calls Tryz.prog fn us w fun e w'=>R e∧Lf (eI w0 V fl n0 N K B pts) w F w'):Calls Tryz.prog fn us w fun e w'=>∃ l2,(R e∧l2=[alA (eI w0 V fl n0 N K B pts)])∧Lf l2 w F w':=by
 refine(hc h).mono ?_;rintro e w' ⟨a,b,c,d,f⟩;exact⟨_,⟨a,rfl⟩,b,(cC (A:=alA (eI w0 V fl n0 N K B pts))).2 c,d,f⟩
theorem d8u (hp:pts.length≤9) (hb:w0.heap.size≤w.heap.size) (h:(alA (eI w0 V fl n0 N K B pts)).P w F):Calls Tryz.prog 45 #[V.f] w fun e w'=>∃ l2,(∃ u,e = .returned u∧l2=[alA (eI w0 V fl n0 N K B pts),cG _ 1 mG 3 u (eF 0 pts)])∧Lf l2 w F w':=by
 refine(b4s hp h hb).mono ?_;rintro e w' ⟨u,rfl,b,c,d,g,i,a⟩;exact⟨_,⟨u,rfl,rfl⟩,fun x=>b x∨x∈blk u,eY (A:=alA (eI w0 V fl n0 N K B pts)) (B:=cG _ 1 mG 3 u (eF 0 pts)) c ⟨a.base_le hb,fun x=>Iff.rfl⟩ (fun x p q=>i x q p) fun x=>Iff.rfl,d,fun x q=>q.elim (g x) fun q => .inr (a.ge x q).1⟩
end
section
variable {w0 w : World} {F : Nat → Prop} {V : FV} {fl : FL} {n0 N K : Nat} {B : List UInt8} {pts : List Pt}
theorem b4v (hp:pts.length≤9) (hb:w0.heap.size≤w.heap.size) (hBl:B.length≤110) (h:cW (eI w0 V fl n0 N K B pts) w F) :
  Calls Tryz.prog 28 #[V.f] w fun e w'=>∃ v es,e = .returned v∧es.map (fun p:Nat×Q1=>((p.1+1:Nat):Int))=eF 0 pts∧Lf [alA (eI w0 V fl n0 N K B pts),cG _ 20 (uC B) 88 v es] w F w':=by
 obtain⟨gf,I,g1,g2⟩:=xD h;obtain⟨gr,g3⟩:∃ g,V.r = .pointer (some ⟨g,0,none⟩):=by
  obtain⟨F1,F2,F3,p1,_⟩:=iK h;exact(sF p1).2.2.2.2.1
 have hl:Lf [alA (eI w0 V fl n0 N K B pts)] w F w:=tM (cC.2 h);have a7:=bG (dR hl fun f o=>d8u hp hb o);have HB:=bG hb;have g6:=bG I;have Y:=bG g3;have HP:=bG hp;have a8:=bG hBl;have Z:Hid (∀ l W,Lf (alA (eI w0 V fl n0 N K B pts)::l) w F W→cU W gf 98 [V.y,V.r,V.l,V.j,V.t,V.a]):=fun l W A=>by
  obtain⟨f,h1⟩:=sG (i:=0) A rfl;obtain⟨g,e1,e2,-⟩:=xD h1;rw[I] at e1;have:gf=g:=by simpa using e1
  rw[this];exact e2
 have O:Hid (∀ k,k < (eF 0 pts).length→∃ j,∃ h:j < pts.length,∃ q,pts[j]=some q∧bT (eF 0 pts) k=((j+1:Nat):Int)∧c6m q):=fun k hk=>by
  obtain⟨j,h1,q,h2,h3⟩:=zD pts 0 (bT (eF 0 pts) k) (by rw[cO _ _ hk];exact bP _);exact⟨j,h1,q,h2,by rw[h3,aM],d8s h1 h2 h⟩
 rw[I];clear h hl hp hb hBl g1 g2;go_enter Tryz.func28,Tryz.ntmps28;go_wp2_with fail
 rw[← I]
 (with_reducible refine a7.out.mono ?_)
 rintro e s ⟨_,⟨lv,rfl,rfl⟩,c9⟩;have H1:Hid (Lf [alA (eI w0 V fl n0 N K B pts),cG _ 1 mG 3 lv (eF 0 pts)] w F s):=c9;clear c9 a7;obtain⟨al,cl,rfl,g4,d1,-⟩:=a6o (i:=1) H1.out rfl;have g5:(eF 0 pts).length≤9223372036854775807:=by unfold maxLen at d1;omega
 have f0:Hid ((eF 0 pts).length≤9):=by have:=tQ pts 0;have:=HP.out;unfold Hid;omega
 clear g4 d1;have H3:Hid (Lf (alA (eI w0 V fl n0 N K B pts)::[cG _ 20 (uC B) 88 (.slice none 0 0) ([]:List (Nat×Q1)),cG _ 1 mG 3 (.slice al (eF 0 pts).length cl) (eF 0 pts)]) w F s):=oV H1.out (bR.refl [] s) (A':=cG _ 20 (uC B) 88 (.slice none 0 0) []) (f:=fun x=>False) ⟨cF.nil _ _ _,fun x=>by simp[blk]⟩ (fun x q=>q.elim);clear H1;have G:Hid (∀ k,k < (eF 0 pts).length→(eF 0 pts).take (k+1)=(eF 0 pts).take k++[bT (eF 0 pts) k]):=fun k hk=>by rw[bC hk,cO _ _ hk]
 generalize e0:eF 0 pts=inos at *
 have f1:=bG e0;clear e0;obtain⟨z,zE,e1,e2,e3,e4,e5⟩:=d8r;have a9:=bG e1;have b0:=bG e2;have C:=bG e3;have f2:=bG e4;have f3:=bG e5;obtain⟨dE,e6,e7⟩:=vO f0b;have f4:=bG e6;have f5:=bG e7;obtain⟨dS,e8,e9⟩:=vO f0c;have g7:=bG e8;have g8:=bG e9;clear e1 e2 e3 e4 e5 e6 e7 e8 e9;go_wp2_with fail
 go_loopw [3,13] (fun v3 i wr=>∃ (k:Nat) (es:List (Nat×Q1)),k≤inos.length∧i = .int .i64 k∧es.map (fun p:Nat×Q1=>((p.1+1:Nat):Int))=inos.take k∧Hid (Lf (alA (eI w0 V fl n0 N K B pts)::[cG _ 20 (uC B) 88 v3 es,cG _ 1 mG 3 (.slice al inos.length cl) inos]) w F wr)) (fun _ i _=>inos.length-(intOf i).toNat)
 case atStart=>exact⟨0,[],aS _,rfl,rfl,H3⟩
 case round =>
  clear H3;obtain⟨k,es,hk,rfl,D,ho⟩:=hrel;by_cases M:k < inos.length
  ·have q0:(0:Int)≤k:=by omega
   have q1:(k:Int) < inos.length:=by omega
   obtain⟨a',c',he,-,-,d3⟩:=a6o (i:=2) ho.out rfl;injection he with e1 e2 e3;subst e1;clear e2 e3;obtain⟨lb,m,rfl,d4⟩:=d3 (by intro h;simp[h] at M);have d0:wr.cell? ⟨lb,m+k,none⟩=some (.int .i64 (bT inos k)):=by have:=d4 k M 0 (by omega);simpa using this
   obtain⟨j,hj,q,hq,d5,d6⟩:=O.out k M;have G:=bG (G.out k M);rw[d5] at G d0;have f6:=bG D;have f7:=bG d6;have HJ:=bG hj;have HQ:Hid (pts[j]=some q):=hq;have b1:Hid (k < 9):=by have:=f0.out;unfold Hid;omega
   have b2:Hid (es.length=k):=by have:=congrArg List.length D;simp at this;unfold Hid;omega
   have P:Hid (∀ W l,Lf (alA (eI w0 V fl n0 N K B pts)::l) w F W→Calls Tryz.prog 29 #[V.t,.int .i64 ((j+1:Nat):Int)] W fun e w'=>∃ cs,e = .returned (.tuple #[.agg cs,.bool true])∧cs.toList = .bool true::enC B (j,q)∧Lf (alA (eI w0 V fl n0 N K B pts)::l) w F w'):=fun W l A=>by
    refine(dR A fun f o=>d8t (R:=fun e=>e = .returned (.tuple #[.agg (.bool true::enC B (j,q)).toArray,.bool true])) o fun o=>?_).mono ?_
    ·refine(c2n hj HP.out o (aL HB.out (eO A))).mono ?_;rintro e w' ⟨rfl,E⟩;rw[hq];exact⟨rfl,E⟩
    ·rintro e w' ⟨_,⟨rfl,rfl⟩,E⟩;exact⟨_,rfl,by simp,E⟩
   have b3:Hid (∀ W l (S:Array Value),S.toList=yR B.length q.1 q.2.1 q.2.2.1 q.2.2.2→Lf (alA (eI w0 V fl n0 N K B pts)::l) w F W→Calls Tryz.prog 46 #[.pointer (some ⟨gr,0,none⟩),.agg S] W fun e w'=>∃ g,e = .returned (.tuple #[.pointer (some ⟨g,0,none⟩),.int .i64 0])∧Lf (fV _ V.r (.pointer (some ⟨g,0,none⟩)) B.length::alA (eI w0 V fl n0 N K B pts)::l) w F w'):=fun W l S hS A=>by
    rw[← Y.out,show S=(yR B.length q.1 q.2.1 q.2.2.1 q.2.2.2).toArray by rw[← hS]];refine(dR A fun f o=>f0d hj hq a8.out (aL HB.out (eO A)) o).mono ?_;rintro e w' ⟨_,⟨vx,rfl,⟨g,rfl⟩,rfl⟩,E⟩;exact⟨g,rfl,a9p E⟩
   have Q:Hid (∀ W g l,Lf (fV _ V.r (.pointer (some ⟨g,0,none⟩)) B.length::l) w F W→Calls Tryz.prog 47 #[.pointer (some ⟨g,0,none⟩)] W fun e w'=>∃ (q:Q1) (S:Array Value),e = .returned (.agg S)∧S.toList=yR B.length q.1.1 q.1.2.1 q.1.2.2.1 q.1.2.2.2∧Lf l w F w'):=fun W g l A=>by
    refine(dR A fun f o=>d4g (aL HB.out (eO A)) (by have:=a8.out;omega) o).mono ?_;rintro e w' ⟨_,⟨q,rfl,h7,rfl⟩,E⟩;exact⟨⟨q,h7⟩,_,rfl,by simp,E⟩
   have c4:wr.cell? ⟨gf,4,none⟩=some V.t:=(Z.out _ _ ho.out).cell 4;have HH:=bG ho.out;clear d4 d3 d5 hj hq d6 D ho O;generalize X:((j+1:Nat):Int)=ino at *
   have b4:=bG X;clear X;go_wp2_with fail
   (with_reducible refine(P.out _ _ HH.out).mono ?_)
   rintro e s ⟨cs,rfl,J,E⟩;have H6:=bG E;have a0:=bG J;have Z1:Hid (cs.size=21):=by rw[Hid,← bD,J];rfl
   have Z2:Hid (cs.all (·.oneCell')=true):=by
    rw[Hid,← Array.all_toList,J,bB];intro u hu;rcases aG.1 hu with rfl|hu
    ·rfl
    ·exact c2s f7.out u hu
   clear E J P HH c4;obtain⟨lv,pv,hd,ls⟩:=q;go_wp2_with (first|((refine wpList_store_row rfl 90 (.tmp 6) (.tmp 24) rfl s.heap.size cs rfl rfl _ _ (heap_alloc_new _ _) (by rw[Z1.out];exact a1b) (by rw[Z1.out];rfl) Z2.out ?_);(have a1:=bG (qP s ptZ.toArray cs 90));(generalize a6:World.setRow _ s.heap.size cs=w3);(have b5:bR [] s w3:=(by rw[← a6];exact a1.out.1));(have b6:cU w3 s.heap.size 90 cs.toList:=(by rw[← a6];exact a1.out.2));(have H7:=bG (oV H6.out b5 (A':=cM _ s.heap.size 90 cs.toList) (f:=fun x=>x=s.heap.size) ⟨b6,aL HB.out (eO H6.out),fun x=>Iff.rfl⟩ (fun x hx=>Nat.le_of_eq hx.symm)));(clear a6 b5 b6 a1))|fail)
   generalize s.heap.size=g at *
   have a2:Hid (∀ (l:List (cR w0.heap.size)) W (i:Nat),Lf l w F W→Eng.bT l i=some (cM _ g 90 cs.toList)→W.cell? ⟨g,5,none⟩=some (.int .i64 (B.length:Int))∧W.cell? ⟨g,6,none⟩=some (lv)∧W.cell? ⟨g,7,none⟩=some (.bool false)∧W.cell? ⟨g,8,none⟩=some (.bool false)∧W.cell? ⟨g,9,none⟩=some (.int .i64 0)∧W.cell? ⟨g,10,none⟩=some (.int .i64 0)∧W.cell? ⟨g,11,none⟩=some (.slice none 0 0)∧W.cell? ⟨g,12,none⟩=some (.slice none 0 0)∧W.cell? ⟨g,13,none⟩=some (.int .i64 0)∧W.cell? ⟨g,14,none⟩=some (.slice none 0 0)∧W.cell? ⟨g,15,none⟩=some (hd)∧W.cell? ⟨g,16,none⟩=some (pv)∧W.cell? ⟨g,17,none⟩=some (ls)∧W.cell? ⟨g,18,none⟩=some (.slice none 0 0)∧W.cell? ⟨g,19,none⟩=some (.int .i64 0)∧W.cell? ⟨g,20,none⟩=some (.slice none 0 0)):=fun l W i A hi=>by
    have hb:=bX (i:=i) A hi;have d:∀ n,W.cell? ⟨g,n,none⟩=(.bool true::enC B (j,(lv,pv,hd,ls)))[n]?:=fun n=>by rw[hb.cell,a0.out]
    exact⟨d 5,d 6,d 7,d 8,d 9,d 10,d 11,d 12,d 13,d 14,d 15,d 16,d 17,d 18,d 19,d 20⟩
   have b7:=a2.out _ _ 1 (jE H7.out) rfl;have c1:w3.cell? ⟨gf,1,none⟩=some (.pointer (some ⟨gr,0,none⟩)):=by rw[← Y.out];exact(Z.out _ _ H7.out).cell 1
   go_wp2_with fail
   go_region_held3 (fun W=>W.cell? ⟨gf,1,none⟩=some (.pointer (some ⟨gr,0,none⟩))∧W.cell? ⟨g,5,none⟩=some (.int .i64 (B.length:Int))∧W.cell? ⟨g,6,none⟩=some (lv)∧W.cell? ⟨g,7,none⟩=some (.bool false)∧W.cell? ⟨g,8,none⟩=some (.bool false)∧W.cell? ⟨g,9,none⟩=some (.int .i64 0)∧W.cell? ⟨g,10,none⟩=some (.int .i64 0)∧W.cell? ⟨g,11,none⟩=some (.slice none 0 0)∧W.cell? ⟨g,12,none⟩=some (.slice none 0 0)∧W.cell? ⟨g,13,none⟩=some (.int .i64 0)∧W.cell? ⟨g,14,none⟩=some (.slice none 0 0)∧W.cell? ⟨g,15,none⟩=some (hd)∧W.cell? ⟨g,16,none⟩=some (pv)∧W.cell? ⟨g,17,none⟩=some (ls)∧W.cell? ⟨g,18,none⟩=some (.slice none 0 0)∧W.cell? ⟨g,19,none⟩=some (.int .i64 0)∧W.cell? ⟨g,20,none⟩=some (.slice none 0 0)) (first|go_keep|exact⟨c1,b7⟩|exact⟨c5,T⟩) (first
    | (go_at_call 46;(with_reducible refine(b3.out _ _ #[.int .i64 (B.length:Int),lv,.bool false,.bool false,.int .i64 0,.int .i64 0,.slice none 0 0,.slice none 0 0,.int .i64 0,.slice none 0 0,hd,pv,ls,.slice none 0 0,.int .i64 0,.slice none 0 0] rfl (jE H7.out)).mono ?_);(rintro _ w5 ⟨gs,rfl,h8⟩;have H8:=bG h8;have c5:w5.cell? ⟨gf,1,none⟩=some (.pointer (some ⟨gr,0,none⟩)):=(by rw[← Y.out];exact(Z.out _ _ (a9p h8)).cell 1);have T:=a2.out _ _ 2 h8 rfl;clear h8;dsimp only))
    | fail)
   clear c1 c5 b7 T H7 b3 a2;go_wp2_with fail
   (with_reducible refine(Q.out _ _ _ H8.out).mono ?_)
   rintro e w6 ⟨b,S2,rfl,L,h9⟩;have H9:Hid (Lf (alA (eI w0 V fl n0 N K B pts)::cM _ g 90 cs.toList::[cG _ 20 (uC B) 88 u3 es,cG _ 1 mG 3 (.slice (some ⟨lb,m,none⟩) inos.length cl) inos]) w F w6):=h9;have b8:=bG L;have b9:Hid (S2.size=16):=by rw[Hid,← bD,L];rfl
   have f8:Hid (S2.all (·.oneCell')=true):=by
    rw[Hid,← Array.all_toList,L,bB];exact c2r b.2
   have f9:Hid (w6.there g 5 16):=a6p (bX (i:=1) H9.out rfl) 5 16 (by rw[a0.out];exact aF 21);have U:Hid (Lf (alA (eI w0 V fl n0 N K B pts)::cM _ g 90 (.bool true::uC B (j,b))::[cG _ 20 (uC B) 88 u3 es,cG _ 1 mG 3 (.slice (some ⟨lb,m,none⟩) inos.length cl) inos]) w F (w6.setCells g 5 S2.toList)):=by
    refine a3y (i:=1) H9.out rfl (by exact bH (Nat.succ_pos _)) fun f o=>⟨f,⟨?_,o.2.1,o.2.2⟩,jP (a3m (b4u g _ _ _)) fun x q=>(o.2.2 x).2 (by simpa using q),fun x q => .inl q⟩
    have hb:=b4t S2.toList 5 o.1;rw[a0.out,b8.out] at hb;rw[b8.out];exact hb
   have a3:Hid (Instr.fill (fun i=>some (i*z.size,z.size)) ((Array.range (1*z.size)).map (zE.cells[· % zE.cells.size]!)) [(0,.agg (uC B (j,b)).toArray)]=some (uC B (j,b)).toArray):=d4f (by rw[C.out];decide) _ _ (by rw[tW,C.out]) (by simp);have a4:Hid (∀ a:Act,a.eval (.tmp 45) = .agg (uC B (j,b)).toArray→Instr.fill (fun i=>some (i*z.size,z.size)) ((Array.range (1*z.size)).map (zE.cells[· % zE.cells.size]!)) ((#[(0,Operand.tmp 45)]:Array (Nat×Operand)).map fun (i,x)=>(i,a.eval x)).toList=some (uC B (j,b)).toArray):=fun a ha=>by
    have e:((#[(0,Operand.tmp 45)]:Array (Nat×Operand)).map fun (i,x)=>(i,a.eval x)).toList=[(0,.agg (uC B (j,b)).toArray)]:=by simp[ha]
    rw[e];exact a3.out
   have c2:Hid ((Tryz.prog.info? 88).map (fun i=>(i.zero,i.size,i.bytes))=some (some zE,20,z.bytes)):=by
    rw[Hid,a9.out];show some (z.zero,z.size,z.bytes)=_;rw[b0.out,C.out]
   have c3:Hid ((es.length+[(j,b)].length)*z.bytes≤140737488355328):=by
    have h1:=b2.out;have h2:=b1.out;refine aL (Nat.mul_le_mul (show _≤10 from ?_) f3.out) (by decide);rw[List.length_singleton];omega
   have c6:Hid (es.length+[(j,b)].length≤maxLen):=by
    have h1:=b2.out;have h2:=b1.out;unfold Hid maxLen;rw[List.length_singleton];omega
   clear L h9 H8 H9 Q
   go_upto_region 9 with(first
    | ((refine wpList_store_mid rfl 86 (.tmp 42) (.tmp 40) rfl g 5 S2 rfl rfl (by rw[b9.out];exact f9.out) (by rw[b9.out];exact e4j) f8.out ?_);(generalize w6.setCells g 5 S2.toList=w7 at *))
    | fail)
   go_wp2_with (first
    | ((refine wpList_load_mid rfl 88 (.tmp 44) rfl g 1 rfl (uC B (j,b)) dE (fun n v hv=>by rw[(bX (i:=1) U.out rfl).cell,Nat.add_comm 1 n];exact hv) f4.out f5.out (by rw[tW];exact e4i) ?_))
    | ((show wpList _ _ _ ({ dst:=_,op:=Op.buildSlice _ _ _,type:=_,pos:=_,after:=_,guard:=_ }::_) _ _);go_must ((refine Go.wpList_buildSlice rfl 75 88 1 #[(0,.tmp 45)] rfl (uC B (j,b)).toArray z zE e0s a9.out b0.out (by rw[C.out];decide) (by rw[C.out];decide) (a4.out _ rfl) ?_);(have a5:=bG (eJ 88 (uC B (j,b)) HB.out U.out))))
    | (at_builtin;go_must (refine cQ rfl _ _ rfl u3 (.slice (some ⟨w7.heap.size,0,none⟩) 1 1) rfl rfl (fR (c:=uC B) (sz:=20) (tW B) (by decide) (d8q B) e0s c2.out f2.out _ _ es [(j,b)] (c2t (i:=3) a5.out rfl) (e4h B w7 (j,b) _) c3.out c6.out (aL HB.out (eO a5.out))) ?_;rintro v5 w8 ⟨d7,d8,d9⟩;have c7:=bG (a9n (i:=3) a5.out rfl (bH (bH (bH (Nat.succ_pos _)))) d7 d8 d9);clear d7 d8 d9))
    | fail)
   have c8:Lf (alA (eI w0 V fl n0 N K B pts)::cM _ w7.heap.size 88 (uC B (j,b))::cM _ g 90 (.bool true::uC B (j,b))::[cG _ 20 (uC B) 88 v5 (es++[(j,b)]),cG _ 1 mG 3 (.slice (some ⟨lb,m,none⟩) inos.length cl) inos]) w F w8:=c7.out;have g0:=bG (eZ (eZ c8));clear c8 c7;go_roundw
   case rel=>exact⟨k+1,es++[(j,b)],by omega,by go_num,by rw[List.map_append,f6.out,G.out,← b4.out];rfl,g0⟩
   case measure=>simp[intOf];omega
  ·obtain rfl:k=inos.length:=by omega
   rw[aV] at D;go_wp2_with fail
   go_ret;exact⟨_,es,rfl,D.trans f1.out.symm,d4c (l:=[_,_]) ho.out⟩
end
def FM (nm:Nat→ByteArray) (B:List UInt8) (ms:List Nat):FL:=ms.map fun m=>(((m+1:Nat):Int),(nm m,B))
section
variable {nm : Nat → ByteArray} {B : List UInt8}
theorem a9r (ms:List Nat):(FM nm B ms).length=ms.length:=aP ..
theorem e4k (ms:List Nat) (k:Nat) (hk:k < ms.length):bT (FM nm B ms) k=(((ms[k]+1:Nat):Int),(nm ms[k],B)):=by
 rw[cO _ _ (by rw[a9r];exact hk)];simp[FM]
theorem b4w:∀ (ms:List Nat) (k:Nat) (hk:k < ms.length),ms.Pairwise (· < ·)→below fA (FM nm B ms) ((ms[k]+1:Nat):Int)=k
 | a::l,0,hk,h=>by
  unfold below FM;rw[List.map_cons,List.takeWhile_cons_of_neg]
  ·rfl
  ·simp[fA]
 | a::l,k+1,hk,h=>by
  have hk':k < l.length:=by simpa using hk
  have b:a < l[k]:=(List.pairwise_cons.1 h).1 _ (bP hk');have:=b4w l k hk' (List.pairwise_cons.1 h).2;unfold below FM at this ⊢;rw[List.map_cons,List.takeWhile_cons_of_pos]
  ·rw[aW];show _+1=k+1;rw[List.getElem_cons_succ,this]
  ·simp[fA];omega
theorem f0e (ms:List Nat) (k:Nat) (hk:k < ms.length) (h:ms.Pairwise (· < ·)):cB fA (FM nm B ms) ((ms[k]+1:Nat):Int)=true∧(bT (FM nm B ms) (below fA (FM nm B ms) ((ms[k]+1:Nat):Int))).2.2=B:=by
 unfold cB;rw[b4w ms k hk h,e4k ms k hk,a9r];exact⟨by simp[hk],rfl⟩
theorem b4x (ms:List Nat) (k:Nat) (hk:k < ms.length):bT (bW (FM nm B ms)) k=(((ms[k]+1:Nat):Int),nm ms[k],(B.length:Int)):=by
 rw[cO _ _ (by unfold bW;rw[aP,a9r];exact hk)];simp[bW,FM,c1h]
theorem a1c (ms:List Nat):(bW (FM nm B ms)).length=ms.length:=by unfold bW;rw[aP,a9r]
theorem e4l (ms:List Nat) (m:Nat):xH (bW (FM nm B ms)) ((m+1:Nat):Int)=ms.contains m:=by
 unfold xH bW FM;rw[List.map_map,List.any_map,List.contains_eq_any_beq];congr 1;funext a;show (((a+1:Nat):Int)==((m+1:Nat):Int))=(m==a)
 rw[Bool.eq_iff_iff];simp;omega
end
def stS (s:List Bool×Nat) (m:Nat):List Bool×Nat:=if m < s.1.length then s else if (dV 0 s.1).length < 8 then (s.1++[true],s.2) else (s.1,s.2+1)
def okS (s:List Bool×Nat) (m:Nat):Bool:=Nat.ble s.1.length 9&&(if m < s.1.length then s.1[m]?==some true else if (dV 0 s.1).length < 8 then Nat.ble s.1.length 8&&m==s.1.length else Nat.ble (m+1) 12)
theorem d4h {s:List Bool×Nat} {m:Nat} (h:okS s m=true):e0q s ((m+1:Nat):Int) (stS s m):=by
 unfold okS at h;rw[aD] at h;refine⟨aN h.1,?_⟩;have h:=h.2;unfold stS;split at h
 ·rename_i b;rw[if_pos b];have a:s.1[m]?=some true:=by simpa using h
  exact .inl ⟨m,b,by rw[aO b] at a;simpa using a,rfl,rfl⟩
 ·rename_i b;rw[if_neg b];split at h
  ·rename_i a;rw[if_pos a];rw[aD] at h;have c:m=s.1.length:=by simpa using h.2
   exact .inr (.inl ⟨aN h.1,a,by rw[c],rfl⟩)
  ·rename_i a;rw[if_neg a];exact .inr (.inr ⟨m,by omega,aN h,by omega,rfl,rfl⟩)
def a9s:List Bool×Nat→List Nat→Bool
 | _,[]=>true
 | s,m::l=>okS s m&&a9s (stS s m) l
theorem c2u:∀ (l:List Nat) (s:List Bool×Nat),a9s s l=true→∀ k (hk:k < l.length),okS ((l.take k).foldl stS s) l[k]=true
 | m::l,s,h,0,hk=>by
  unfold a9s at h;rw[aD] at h;exact h.1
 | m::l,s,h,k+1,hk=>by
  unfold a9s at h;rw[aD] at h;exact c2u l _ h.2 k (by simpa using hk)
def nP (ms:List Nat) (pat:List Bool) (l:List Nat):List Bool:=l.foldl (fun p m=>if ms.contains m then p else p.set m false) pat
def lU:Nat→List Bool→List Nat
 | _,[]=>[]
 | i,false::l=>lU (i+1) l
 | i,true::l=>i::lU (i+1) l
theorem a1d:∀ (l:List Bool) (i:Nat),dV i l=(lU i l).map fun m=>((m+1:Nat):Int)
 | [],i=>rfl
 | false::l,i=>a1d l (i+1)
 | true::l,i=>by show _::_=_::_;rw[a1d l (i+1)]
theorem c2v {nm:Nat→ByteArray} {B:List UInt8} (ms:List Nat):∀ (l:List Nat) (pat:List Bool),mH (bW (FM nm B ms)) pat (l.map fun m=>((m+1:Nat):Int))=nP ms pat l
 | [],pat=>rfl
 | m::l,pat=>by
  show mH _ (uO _ pat ((m+1:Nat):Int)) (l.map _)=nP ms (if ms.contains m then pat else pat.set m false) l;rw[c2v ms l];congr 1;unfold uO;rw[e4l,show (((m+1:Nat):Int)).toNat-1=m by omega]
section
variable {w0 w W : World} {F : Nat → Prop} {V : FV} {fl : FL} {n0 N K : Nat} {B : List UInt8} {pat : List Bool} {nm : Nat → ByteArray}
theorem d8v {ms:List Nat} {s1:List Bool×Nat} (hs:ms.Pairwise (· < ·)) (h12:ms.length≤12) (hp:pat.length≤8) (hok:a9s (nP ms pat (lU 0 pat),0) ms=true) (hs1:ms.foldl stS (nP ms pat (lU 0 pat),0)=s1)
  (hb:w0.heap.size≤w.heap.size) (hBl:1≤B.length∧B.length≤110) (hn0:n0≤870) (hK:K+8+111*9≤3800+111*pat.length) (hN:N+938*8+23938*9≤238000+23938*pat.length) (h:(cE w0 V (FM nm B ms) n0 N K B pat).P w F) :
  Calls Tryz.prog 42 #[V.f] w fun e w'=>∃ v tl,e = .returned v∧tl.length=s1.2∧Lf [cE w0 V (FM nm B ms) (n0+2*ms.length) (N+938*8+23938*(s1.1.length-pat.length)) (K+8+111*(s1.1.length-pat.length)) B s1.1,cG _ 2 qT 182 v tl] w F w':=by
 have:=d4e (fl:=FM nm B ms) hp hb hBl (fun k=>(ms.take k).foldl stS (nP ms pat (lU 0 pat),0)) (by rw[a1d,c2v];rfl) (fun k a=>by
  rw[a1c] at a;rw[b4x ms k a];have b:=d4h (c2u ms _ hok k a);have c:(ms.take (k+1)).foldl stS (nP ms pat (lU 0 pat),0)=stS ((ms.take k).foldl stS (nP ms pat (lU 0 pat),0)) ms[k]:=by rw[bC a,List.foldl_append];rfl
  dsimp only;rw[c];exact b) (fun k a=>by
  rw[a1c] at a;rw[b4x ms k a];exact⟨rfl,f0e ms k a hs⟩) (by rw[a1c];exact h12) hn0 hK hN h
 rw[a1c,aV,hs1] at this;exact this
theorem c6n (hp:pat.length≤9) (hb:w0.heap.size≤w.heap.size) (hBl:B.length≤110) (h:(cE w0 V fl n0 N K B pat).P w F) :
  Calls Tryz.prog 28 #[V.f] w fun e w'=>∃ l2,(∃ v es,e = .returned v∧es.map (fun p:Nat×Q1=>((p.1+1:Nat):Int))=dV 0 pat∧l2=[cE w0 V fl n0 N K B pat,cG _ 20 (uC B) 88 v es])∧Lf l2 w F w':=by
 obtain⟨a,n,c,d,b,g,i,j,l⟩:=h;refine(b4v (by rw[oH b];exact hp) hb hBl l).mono ?_;rintro e w' ⟨v,es,rfl,he,m⟩;rw[xF,b] at he;exact⟨_,⟨v,es,rfl,he,rfl⟩,xE m fun f o=>⟨a,n,c,d,b,g,i,j,o⟩⟩
end
def vP (n:Nat):List Bool:=List.replicate (min n 8) true
def ms2 (n k:Nat):List Nat:=(List.range n).erase k
def st1 (n:Nat):List Bool×Nat:=(vP n,n-8)
def st2 (n k:Nat):List Bool×Nat:=(ms2 n k).foldl stS (nP (ms2 n k) (vP n) (lU 0 (vP n)),0)
theorem b4y:∀ n,n≤12→a9s (nP (List.range n) [] (lU 0 []),0) (List.range n)=true∧(List.range n).foldl stS (nP (List.range n) [] (lU 0 []),0)=st1 n:=by decide
theorem a3z:∀ n,n≤12→∀ k,k < min n 8→a9s (nP (ms2 n k) (vP n) (lU 0 (vP n)),0) (ms2 n k)=true∧(st2 n k).1.length≤(vP n).length+1∧(st2 n k).1.length≤9∧(lU 0 (st2 n k).1).length=min (n-1) 8∧k < (st2 n k).1.length:=by decide
section
variable {w0 w W : World} {F : Nat → Prop} {V : FV} {fl fl' : FL} {n0 N K : Nat} {B : List UInt8} {pat : List Bool}
theorem e4m {fn:FuncId} {us:Array Value} {r:Int} (h:(cE w0 V fl n0 N K B pat).P w F) (hc:∀ n G,YdQ w0 V.y fl n w G→Calls Tryz.prog fn us w fun e w'=>e = .returned (.int .i64 r)∧Chg (YdQ w0 V.y fl' n) w G w') :
  Calls Tryz.prog fn us w fun e w'=>∃ l2,(e = .returned (.int .i64 r)∧l2=[cE w0 V fl' n0 N K B pat])∧Lf l2 w F w':=by
 obtain⟨a,n,g,i,j,l,m,o,I,b,p⟩:=h;obtain⟨G,hs,c⟩:=b.at_ 0 (kY w0 V.y fl n) rfl;refine(hc n G hs).mono ?_;rintro e w' ⟨rfl,d,s,t,u⟩;obtain⟨v,z,C,D⟩:=b.step1 p 0 (aS _) (A:=kY w0 V.y fl' n) (f:=fun x=>x∈d) ⟨d,s,fun _=>Iff.rfl⟩ (a4p t c) (fun x E=>(u x E).imp (c x).2 id);exact⟨_,⟨rfl,rfl⟩,v,(cC (A:=cE w0 V fl' n0 N K B pat)).2 ⟨a,n,g,i,j,l,m,o,z⟩,C,D⟩
theorem a9t (hK:K≤4000) (h:(cE w0 V fl n0 N K B pat).P w F) :
  Calls Tryz.prog 20 #[V.d] w fun e w'=>∃ l2,(e = .returned (.tuple #[])∧l2=[cE w0 V fl n0 N K B pat])∧Lf l2 w F w':=by
 obtain⟨a,n,b,c,o,p,r,s,M,g,t⟩:=h;obtain⟨u,v,G,hs,i⟩:=g.at_ 1 (lO w0 V.d V.l V.j a.length b c) rfl;refine(c1y hs (by omega)).mono ?_;rintro e w' ⟨rfl,m,y,z,C⟩;obtain⟨D,E,I,J⟩:=g.step1 t 1 (by simp[eI]) (A:=lO w0 V.d V.l V.j a.length b c) (f:=fun x=>x∈m) ⟨u,v,m,y,fun _=>Iff.rfl⟩ (a4p z i) (fun x L=>(C x L).imp (i x).2 id);exact⟨_,⟨rfl,rfl⟩,D,(cC (A:=cE w0 V fl n0 N K B pat)).2 ⟨a,n,b,c,o,p,r,s,E⟩,I,J⟩
theorem d4i {w0 w W:World} {F:Nat→Prop} {A1 A2 A3:cR w0.heap.size} {l:List (cR w0.heap.size)} (h:Lf (A1::A2::A3::l) w F W):Lf l w F W:=by
 obtain⟨j,a,b,c⟩:=h;obtain⟨o,d,p,f,r,g⟩:=Eng.cW.split (l:=[A1,A2,A3]) (m:=l) a;exact⟨d,f,b,fun x i=>c x ((g x).2 (.inr i))⟩
end
def f2d (b g:Nat):cR b where
 P w F:=b≤g∧g < w.heap.size∧∀ x,F x↔x=g
 up:=by
  rintro w w' F S ⟨h1,h2,h3⟩ hu hs hb;exact⟨h1,aX h2 hu.size,h3⟩
 lt:=by
  rintro w F ⟨h1,h2,h3⟩ x hx;rw[(h3 x).1 hx];exact⟨h1,h2⟩
section
variable {w0 w W W2 : World} {F : Nat → Prop} {l : List (cR w0.heap.size)}
theorem xI {i g:Nat} {t:TypeId} {cs:List Value} (h:Lf l w F W) (hi:Eng.bT l i=some (cM _ g t cs)) (hl:i < l.length) (hu:bR [g] W W2):Lf (Eng.put l i (f2d _ g)) w F W2 :=
 a3y h hi hl fun f a=>⟨f,⟨a.2.1,aX a.1.lt hu.size,a.2.2⟩,jP (a3m hu) fun x q=>(a.2.2 x).2 (by simpa using q),fun x q => .inl q⟩
end
theorem a4a:(Tryz.prog.underlying 41).map (·.isRow)=some true:=by kernel_rfl
theorem xJ:(Tryz.prog.info? 41).map (·.size)=some 4:=by kernel_rfl
abbrev d4j (k n:Int) (nm tn:ByteArray) (dv rv:Value) (s:ByteArray):Value := .agg #[.int .i64 k,.int .i64 n,.string nm,.string tn,dv,rv,.string s]
abbrev a7l (e:Int):Value := .agg #[.int .i64 e,.int .i64 0,.slice none 0 0,.slice none 0 0]
end Go.Proofs.YthgnlfikneipiaaGreat
