/- Texts of the proof, joined. -/
import Derived.Test.YthgnlfikneipiaaGreatMg1
import Derived.Test.YthgnlfikneipiaaGreatMg9
import Derived.Test.YthgnlfikneipiaaGreatMg8
import Derived.Test.YthgnlfikneipiaaGreatMg6
import Derived.Test.YthgnlfikneipiaaGreatMg5
import Derived.Deep.RegionHeld3
import Derived.Test.YthgnlfikneipiaaGreatMg4
import Derived.Test.YthgnlfikneipiaaGreatMg7
import Derived.Test.YthgnlfikneipiaaGreatMg3
set_option linter.unusedSimpArgs false
set_option linter.unusedVariables false
set_option linter.unusedSectionVars false
set_option maxRecDepth 100000
set_option maxHeartbeats 4000000
namespace Go.Proofs.YthgnlfikneipiaaGreat
open Go.RowKit
section
variable {w0 w w' : World} {gd gj : Nat} {F G : List Nat} {t t' : JS} {s s' : DS}
theorem c5r (u:Value) (l:List Ch) (s1:DS) (h:JD w0 w gd gj F G t s) (hl:qW 2 jB w u l) (hap:∀ x∈blk u,x∉F++G) (hI:∀ c∈l,c9u c∧c.2.size≤1000000) (hb:1≤l.length∧l.length≤41) (hp:(dX l).length≤262144) (happ:dJ s kP (mV [] (dX l))=(0,s1)) (hz:c5n s1 kP≤262144) (hn:s.now.length≤4890) (hlg:s.log.length≤470000000) :
  Calls Tryz.prog 76 #[.pointer (some ⟨gj,0,none⟩),u] w fun e w'=>e = .returned (.int .i64 0)∧yQ w0 w gd gj (F++G) (yP t l) s1 w':=by
 have HL:=bG hl;have V:=bG hap;have X:=bG hI;have HD:=bG h;have HN:=bG hn;have b7:=bG hlg;have j:=bG happ;have HZ:=bG hz;have I:=bG hp;obtain⟨ua,uk,rfl,d7,hm,-⟩:=hl;have d1:uk≤9223372036854775807:=by unfold maxLen at hm;omega
 have q1:¬ (l.length:Int) < 1:=by omega
 have q2:¬ (41:Int) < l.length:=by omega
 have b8:Hid (1≤l.length):=hb.1;have Y:Hid (l.length≤41):=hb.2;clear h hap hI hn hlg hm happ hz hp hb;go_enter Tryz.func76,Tryz.ntmps76;go_wp2_with fail
 go_loopw [6,19] (fun y i wr=>∃ k:Nat,i = .int .i64 (k:Int)∧k≤l.length∧Hid (bR [] w wr)) (fun _ i _=>l.length-(intOf i).toNat)
 case atStart=>exact⟨0,rfl,aS _,bR.refl _ _⟩
 case round =>
  obtain⟨k,rfl,hk,E⟩:=hrel;by_cases o:k < l.length
  ·have b9:=HL.out.upd0 lR E.out;obtain⟨a9,c9,P,-,-,B⟩:=b9;injection P with e1 e2 e3;subst e1;subst e3;obtain⟨b,C,rfl,D⟩:=B (by intro e;rw[e] at o;simp at o);have J:∀ i,i < 2→wr.cell? ⟨b,C+(k*2+i),none⟩=(jB (bT l k))[i]?:=D k o;have K:=(X.out (bT l k) (by rw[cO l k o];exact bP o)).1;generalize bT l k=x at *
   obtain⟨ck,cd⟩:=x;have d3:¬ ck < 0:=by have:=K.lo;dsimp only at this;omega
   have d4:¬ 40 < ck:=by have:=K.hi;dsimp only at this;omega
   have c0:wr.cell? ⟨b,C+k*2,none⟩=some (.int .i64 ck):=J 0 (by omega);have c1:wr.cell? ⟨b,C+k*2+1,none⟩=some (.string cd):=J 1 (by omega);have q3:(0:Int)≤k:=by omega
   have q4:(k:Int) < l.length:=by omega
   have m:bR [] wr (wr.alloc (.cells #[.int .i64 ck,.string cd] 190)):=(bR.refl [] wr).alloc _;have z:=bG (E.out.seq m);clear B D J K m;go_wp2_with fail
   go_roundw
   case rel=>exact⟨k+1,by go_num,by omega,z⟩
   case measure=>simp[intOf];omega
  ·obtain rfl:k=l.length:=by omega
   have A:=bG (HL.out.upd0 lR E.out);have L:=bG (HD.out.upd0 E.out);have Z:Hid (∀ x∈blk (.slice ua l.length uk),x < wr.heap.size):=fun x d=>by
    obtain⟨a9,c9,P,-,-,B⟩:=A.out;injection P with e1 e2 e3;subst e1;have a0:=b8.out;obtain⟨b,C,rfl,D⟩:=B (by intro e;rw[e] at a0;simp at a0);simp[blk] at d;subst d;have M:=D 0 (by omega) 0 (by omega);have h2:(jB (bT l 0))[0]?=some (.int .i64 (bT l 0).1):=rfl;rw[h2] at M;exact World.block_lt_of_cell? _ _ M
   go_wp2_with fail
   (with_reducible refine(b1u _ l wr A.out (fun c hc=>⟨by have M:=(X.out c hc).1.lo;have h2:=(X.out c hc).1.hi;exact a7p (by omega) (by omega),(X.out c hc).2⟩) (by have:=Y.out;omega)).mono ?_)
   rintro e r ⟨v2,rfl,f,g⟩;obtain⟨p,hp⟩:∃ p,dX l=p:=⟨_,rfl⟩
   rw[hp] at f I j;have c2:=bG f;have a1:=bG (E.out.seq g);have a3:=bG (A.out.upd0 lR g);have N:=bG (L.out.upd0 g);have a4:Hid (∀ x∈blk (.slice ua l.length uk),x < r.heap.size):=fun x d=>aX (Z.out x d) g.size
   have c3:Hid (∀ x∈G,x < wr.heap.size):=fun x d=>(L.out.dd.ge x d).2
   have c4:Hid (wr.heap.size≤r.heap.size):=g.size;obtain⟨pa,pk,rfl,-⟩:=f.rd;have q5:¬ (262144:Int) < p.length:=by have:=I.out;omega
   have a5:=bG (d7h p);have c5:Hid (b8o 1 s s1):=by have:=(b8o.zero HD.out.dd.ok).append kP _ a5.out (by have:=HN.out;omega);rw[j.out] at this;exact this
   clear hp f g E A L Z;obtain⟨gt,F0,c0,-,-,-⟩:=N.out.cells;have D0:=bG c0;have a6:Hid (∀ W,bR [] r W→Calls Tryz.prog 129 #[.slice none 0 0,.slice pa p.length pk] W fun e w'=>∃ a n k,e = .returned (.slice a n k)∧Hid (fB bv r.heap.size 5 w' (.slice a n k) (mV [] p))∧bR [] r w'):=fun W hW=>by
    refine(b2b _ _ [] p W (Rd.nil _) (c2.out.rd.upd0 hW) (by simp) (by have:=I.out;omega)).mono ?_;rintro e w' ⟨v,rfl,f,E⟩;obtain⟨a,k,rfl,-⟩:=f.rd;exact⟨a,_,k,rfl,f.base_le hW.size,hW.seq E⟩
   have a7:Hid (∀ W a n k,fB bv r.heap.size 5 W (.slice a n k) (mV [] p)→bR [] r W→Calls Tryz.prog 128 #[.pointer (some ⟨gd,0,none⟩),sv kP,.slice a n k] W fun e w'=>e = .returned (.int .i64 0)∧Hid (yQ w0 r gd gj (F++G) t s1 w')∧bR (F++G) r w'):=fun W a n k ho hW=>by
    refine((N.out.upd0 hW).app kP ho.rd (fun _ x d hg=>by have:=(ho.ge x d).1;have:=c3.out x hg;have:=c4.out;omega) (by have:=a5.out;omega) (by have:=HN.out;omega) (by have:=b7.out;omega) j.out).mono ?_;rintro e w' ⟨rfl,hd⟩;have M:=yQ.later hW hd;exact⟨rfl,M,by obtain⟨F',G',k1,k2,k3,k4⟩:=(show ∃ F' G',_ from M);exact k2⟩
   have ru:=bR.refl [] r;go_wp2_with fail
   go_region_held3 (fun W=>W.cell? ⟨gj,0,none⟩=some (.pointer (some ⟨gd,0,none⟩))) (first|go_keep|exact ru.cell D0.out (by simp)|exact a8)
    (first
     | (go_at_call 129;(with_reducible refine(a6.out _ (bR.seq ru ?_)).mono ?_);(repeat (first|exact bR.refl _ _|apply bR.drew|apply bR.drewN|apply bR.alloc));(rintro _ W2 ⟨a2,n2,k2,rfl,f,ru⟩;dsimp only))
     | (go_at_call 128;(with_reducible refine(a7.out _ a2 n2 k2 (fB.upd (S:=[]) f.out ?_ (by simp)) (bR.seq ru ?_)).mono ?_);(repeat (first|exact bR.refl _ _|apply bR.drew|apply bR.drewN|apply bR.alloc));(rintro _ W3 ⟨rfl,Q,d0⟩;have a8:=yQ.cell0 Q.out;dsimp only)))
   all_goals
    obtain⟨F3,G3,b4,R,T,b5⟩:=(show ∃ F' G',_ from Q.out)
    have b0:=bG b4;have O:Hid (bR (F++G) w W3):=a1.out.trans R (by simp) (fun x d => .inl d);have d5:=a1.out.size;have b1:Hid (∀ x∈F3,x∈F++G∨w.heap.size≤x):=fun x d=>(T x d).imp id (fun q=>by omega)
    have c6:Hid (∀ x∈G3,x∈F++G∨w.heap.size≤x):=fun x d=>(b5 x d).imp id (fun q=>by omega)
    have b2:=bG (a3.out.upd lR R V.out);have b3:Hid (∀ x∈blk (.slice ua l.length uk),x∉F3):=fun x d hf=>by
     rcases T x hf with q|q
     ·exact V.out x d q
     ·have:=a4.out x d;omega
    clear Q d0 f ru a6 a7 c0 D0 b4 R T b5 a8 a3 N;go_wp2_with fail
    (with_reducible refine(d2f _ l b0.out b2.out b3.out (fun c hc=>(X.out c hc).1)).mono ?_)
    rintro e w5 ⟨rfl,F5,h5,m,b6⟩;have H5:=bG h5;have z:Hid (bR (F++G) w w5):=O.out.trans m (fun x d=>d) (fun x d=>b1.out x d);have d6:=O.out.size;have c7:Hid (∀ x∈F5,x∈F++G∨w.heap.size≤x):=fun x d=>by
     rcases b6 x d with q|q
     ·exact b1.out x q
     ·exact .inr (by omega)
    clear h5 m b6 b0 b2 b3 O;go_wp2_with fail
    (with_reducible refine(c5o kP H5.out (by have M:=c5.out.now;have:=HN.out;omega)).mono ?_)
    rintro e w6 ⟨rfl,U⟩;have q6:¬ (262144:Int) < c5n s1 kP:=by have:=HZ.out;omega
    have H6:=bG (H5.out.upd0 U);have c8:Hid (bR (F++G) w w6):=z.out.trans U (fun x d=>d) (by simp);clear U H5 z;generalize c5n s1 kP=zl at *
    go_wp2_with fail
    go_ret;exact⟨rfl,F5,G3,H6.out,c8.out,c7.out,c6.out⟩
end
section
variable (nm : ByteArray)
theorem a6j {ν:Type} (x:ν):below bY [(nm,x)] nm=0:=by unfold below;rw[List.takeWhile_cons,gB.irr nm];rfl
theorem d2h {ν:Type} [Inhabited ν] (x:ν):cB bY [(nm,x)] nm=true:=by unfold cB;rw[a6j];exact decide_eq_true ⟨by simp,rfl⟩
theorem c1x (b:List UInt8):dI [(nm,b)] nm=(b,true):=by rw[wS (d2h nm b),a6j];rfl
end
def N2 (nm:ByteArray):Prop:=nm=kP∨nm=xL
theorem N2.ok {nm:ByteArray} (h:N2 nm):dL nm=true:=by
 rcases h with rfl|rfl
 ·exact d1g
 ·exact e3f
def WrN (x:Wr):Prop:=N2 x.nm∧(x.kd=3→N2 x.tn)
def FsN (fs:DF):Prop:=∀ p∈fs,N2 p.1
theorem FsN.set_ {fs:DF} (h:FsN fs) (k:ByteArray) (v:List UInt8) (hk:N2 k):FsN (dD bY fs k v):=fun p a=>by
 rcases nE _ _ _ _ a with rfl|q
 ·exact hk
 ·exact h p q
theorem FsN.del {fs:DF} (h:FsN fs) (k:ByteArray):FsN (fS bY fs k):=fun p a=>h p (iG _ _ _ a)
theorem FsN.apply {fs:DF} (h:FsN fs) {x:Wr} (hx:WrN x):FsN (eC x fs):=by
 unfold eC;split
 ·exact h.set_ _ _ hx.1
 split
 ·exact h.set_ _ _ hx.1
 split
 ·rename_i a;split
  ·exact(h.del _).set_ _ _ (hx.2 a)
  ·exact h
 split
 ·exact h.set_ _ _ hx.1
 split
 ·exact h.del _
 ·exact h
theorem FsN.all:∀ {l:List Wr} {fs:DF},FsN fs→(∀ x∈l,WrN x)→FsN (b3c fs l)
 | [],fs,h,_=>h
 | x::l,fs,h,hl=>FsN.all (fs:=eC x fs) (h.apply (hl x (by simp))) (fun y hy=>hl y (by simp[hy]))
theorem FsN.len {fs:DF} (h:FsN fs) (hr:bV bY fs):fs.length≤2:=by
 rcases Nat.lt_or_ge 2 fs.length with q|q
 ·exfalso;have j:=h _ (eM 0 (by omega));have l:=h _ (eM 1 (by omega));have m:=h _ (eM 2 (by omega));have d:=hr 0 1 (by omega) (by omega);have f:=hr 1 2 (by omega) q;have g:=hr 0 2 (by omega) q;have i:=gB.irr;rcases j with a|a<;>rcases l with b|b<;>rcases m with c|c<;>rw[a,b] at d<;>rw[b,c] at f<;>rw[a,c] at g
  all_goals
   first
    | (rw[i] at d;exact absurd d (by simp))
    | (rw[i] at f;exact absurd f (by simp))
    | (rw[i] at g;exact absurd g (by simp))
 ·exact q
theorem b3s {fs:DF} (hr:bV bY fs) (k k':ByteArray) (v:List UInt8) (hne:k'≠k):dI (dD bY fs k v) k'=dI fs k':=b6k gB [] hr k k' v hne
structure St (Q:List UInt8→Prop) (k:Nat) (s:DS):Prop where
 ok:zU s
 mn:FsN s.mark
 ln:∀ x∈s.log,WrN x
 lg:s.log.length≤k
 al:∀ j,Q (dI (b3c s.mark (s.log.take j)) kP).1
theorem d2i (x:Wr) (s:DS):(nS x s).now=eC x s.now:=rfl
section
variable {Q : List UInt8 → Prop} {k : Nat} {s : DS}
theorem St.fsn (h:St Q k s):FsN s.now:=by rw[h.ok.eq];exact h.mn.all h.ln
theorem St.now (h:St Q k s):s.now.length≤2:=h.fsn.len h.ok.ris
theorem St.q (h:St Q k s):Q (dI s.now kP).1:=by
 have:=h.al s.log.length;rwa[aV,← h.ok.eq] at this
theorem St.more (h:St Q k s) {m:Nat} (hm:k≤m):St Q m s:=⟨h.ok,h.mn,h.ln,aL h.lg hm,h.al⟩
theorem St.do_ (h:St Q k s) {x:Wr} (hx:wR x s.now) (hn:WrN x) (hq:Q (dI (eC x s.now) kP).1):St Q (k+1) (nS x s):=by
 refine⟨h.ok.do_ hx,h.mn,fun y a=>?_,by unfold nS;have:=h.lg;simp;omega,fun j=>?_⟩
 ·rcases aI.1 a with q|q
  ·exact h.ln y q
  ·simp at q;subst q;exact hn
 ·show Q (dI (b3c s.mark ((s.log++[x]).take j)) kP).1;rcases Nat.lt_or_ge s.log.length j with q|q
  ·rw[aZ (by rw[aE,List.length_singleton];omega),a6e,← h.ok.eq];exact hq
  ·rw[List.take_append_of_le_length q];exact h.al j
theorem St.puts {nm:ByteArray} (h:St Q k s) (p:List UInt8) (hnm:N2 nm) (hin:uI s.now nm=true) (ht:cN s.now+p.length≤16777216) (hq:nm=kP→∀ m,m≤p.length→Q ((dI s.now kP).1++p.take m)):∀ i,i≤(cX p).length →
  St Q (k+i) (iO nm s ((cX p).take i))∧dI (iO nm s ((cX p).take i)).now nm=((dI s.now nm).1++p.take (32*i),true)∧∀ nm',nm'≠nm→dI (iO nm s ((cX p).take i)).now nm'=dI s.now nm'
 | 0,_=>⟨by simpa [iO] using h,by simp[iO];exact Prod.ext rfl (by rw[a8s];exact hin),fun _ _=>rfl⟩
 | i+1,hi=>by
  have hlen:=jO p;obtain⟨i1,v,w⟩:=St.puts h p hnm hin ht hq i (by omega);have hP:=nM.all p h.ok hin (by have:=h.now;omega) ht i (by omega);have t:32*i < p.length:=by omega
  have b:((p.drop (32*i)).take 32).length=min 32 (p.length-32*i):=by rw[aJ,aH]
  have j:(p.drop (32*i)).take 32≠[]:=fun q=>by rw[q] at b;simp at b;omega
  have u:=(hP.step ((p.drop (32*i)).take 32) j (by have:=h.now;omega) (by rw[b];omega)).1;rw[sV nm s p i (by omega)];have o:=i1.ok.ris;have c:eC (pJ nm ((p.drop (32*i)).take 32)) (iO nm s ((cX p).take i)).now=dD bY (iO nm s ((cX p).take i)).now nm ((dI (iO nm s ((cX p).take i)).now nm).1++(p.drop (32*i)).take 32):=rfl;have d:(dI (iO nm s ((cX p).take i)).now nm).1++(p.drop (32*i)).take 32=(dI s.now nm).1++p.take (32*(i+1)):=by
   rw[v];dsimp only;rw[bN,show 32*(i+1)=32*i+32 by omega,List.take_add]
  have f:dI (nS (pJ nm ((p.drop (32*i)).take 32)) (iO nm s ((cX p).take i))).now nm=((dI s.now nm).1++p.take (32*(i+1)),true):=by
   rw[d2i,c,d];exact c1s o _ _
  have g:∀ nm',nm'≠nm→dI (nS (pJ nm ((p.drop (32*i)).take 32)) (iO nm s ((cX p).take i))).now nm'=dI s.now nm':=fun nm' a=>by
   rw[d2i,c,b3s o _ _ _ a,w nm' a]
  refine⟨i1.do_ u ⟨hnm,fun q=>absurd q (show ¬ (2:Int)=3 by decide)⟩ ?_,f,g⟩;by_cases r:nm=kP
  ·subst r;have l:dI (eC (pJ kP ((p.drop (32*i)).take 32)) (iO kP s ((cX p).take i)).now) kP=_:=f;rw[l];dsimp only;have:=hq rfl (min (32*(i+1)) p.length) (Nat.min_le_right _ _);rwa[show p.take (min (32*(i+1)) p.length)=p.take (32*(i+1)) by
    rcases Nat.lt_or_ge p.length (32*(i+1)) with q|q
    ·rw[Nat.min_eq_right (by omega),aZ (aF _),aZ (by omega)]
    ·rw[Nat.min_eq_left q]] at this
  ·have l:dI (eC (pJ nm ((p.drop (32*i)).take 32)) (iO nm s ((cX p).take i)).now) kP=_:=g kP (fun q=>r q.symm);rw[l];exact h.q
structure f1v (Q:List UInt8→Prop) (k:Nat) (s:DS) (nm:ByteArray) (p:List UInt8) (r:Int×DS):Prop where
 st:St Q (k+1+p.length) r.2
 no:r.1≠0→r.2=s
 yes:r.1=0→dI r.2.now nm=((dI s.now nm).1++p,true)∧∀ nm',nm'≠nm→dI r.2.now nm'=dI s.now nm'
 fit:cN s.now+p.length≤16777216→r.1=0
theorem St.append {nm:ByteArray} (h:St Q k s) (p:List UInt8) (hnm:N2 nm) (hq:nm=kP→∀ m,m≤p.length→Q ((dI s.now kP).1++p.take m)):f1v Q k s nm p (dJ s nm p):=by
 have y:=jO p;unfold dJ;rw[hnm.ok,if_pos rfl];by_cases x:16777216 < cN s.now+p.length
 ·rw[if_pos x];exact⟨h.more (by omega),fun _=>rfl,fun q=>absurd q (show ¬ (9:Int)=0 by decide),fun q=>by omega⟩
 ·rw[if_neg x];have d:p.take (32*(cX p).length)=p:=aZ (by omega);cases g:uI s.now nm with
  | true =>
   rw[if_pos rfl];obtain⟨t,u,v⟩:=h.puts p hnm g (by omega) hq (cX p).length (aF _);rw[aV,d] at *
   exact⟨t.more (by omega),fun q=>absurd rfl q,fun _=>⟨u,v⟩,fun _=>rfl⟩
  | false =>
   rw[if_neg (by simp)];obtain⟨z,C,A,D,E⟩:=h.ok.make nm g (by have:=h.now;omega);have b:dI s.now nm=([],false):=a8t g;have w:=h.ok.ris;have f:dI (nS (gQ nm) s).now nm=([],true):=by show dI (dD bY s.now nm []) nm=_;exact c1s w _ _
   have i:∀ a,a≠nm→dI (nS (gQ nm) s).now a=dI s.now a:=fun a c=>by show dI (dD bY s.now nm []) a=_;exact b3s w _ _ _ c
   have l:St Q (k+1) (nS (gQ nm) s):=by
    refine h.do_ z ⟨hnm,fun q=>absurd q (show ¬ (1:Int)=3 by decide)⟩ ?_;by_cases j:nm=kP
    ·subst j;have o:dI (eC (gQ kP) s.now) kP=([],true):=f;rw[o];have:=hq rfl 0 (aS _);rw[b] at this;simpa using this
    ·have o:dI (eC (gQ nm) s.now) kP=_:=i kP (fun q=>j q.symm);rw[o];exact h.q
   have r:nm=kP→∀ m,m≤p.length→Q ((dI (nS (gQ nm) s).now kP).1++p.take m):=fun j m B=>by
    have:=hq j m B;subst j;rw[f];rw[b] at this;exact this
   obtain⟨t,u,v⟩:=l.puts p hnm A (by omega) r (cX p).length (aF _);rw[aV,d] at *
   refine⟨t.more (by omega),fun q=>absurd rfl q,fun _=>⟨?_,fun a c=>?_⟩,fun _=>rfl⟩
   ·dsimp only;rw[u,f,b]
   ·dsimp only;rw[v a c,i a c]
end
theorem d2j {r:Ch} (h:b3g [r]):mV [] (dX [r])=dO (dX [r]):=by rw[a2u _ _ h.fit];rfl
theorem d2k {l:List Ch} (h:b3g l):(dO (dX l)).length≤262152:=by rw[lS];have:=h.sz;omega
theorem c5s (r:Int×ByteArray) (u:JS) (s:DS):d1j (r::u) (0,s)=d1j u (dJ s xL (mV [] (dX [r]))):=by
 show (if (0:Int)=0 then _ else _)=_;rw[if_pos rfl]
theorem d2l (u:JS) (e:Int) (s:DS) (he:e≠0):d1j u (e,s)=(e,s):=by
 cases u with
 | nil=>rfl
 | cons r u=>show (if e=0 then _ else _)=_;rw[if_neg he]
section
variable {Q : List UInt8 → Prop} {k : Nat} {s : DS} {t : JS}
structure f1w (Q:List UInt8→Prop) (k:Nat) (s:DS) (c:List UInt8) (u:JS) (r:Int×DS):Prop where
 st:St Q (k+262160*u.length) r.2
 j:dI r.2.now kP=dI s.now kP
 has:uI r.2.now xL=true
 yes:r.1=0→dI r.2.now xL=(c++a6g u,true)
 fit:cN s.now+(a6g u).length≤16777216→r.1=0
theorem d7i {fs:DF} (hn:FsN fs) (hr:bV bY fs):cN fs=(dI fs kP).1.length+(dI fs xL).1.length:=by
 have d:=hn.len hr;have j:bY kP xL=true:=by kernel_rfl
 have f:bY xL kP=false:=by kernel_rfl
 match fs,hn,hr,d with
 | [],_,_,_=>rfl
 | [(a,x)],hn,hr,_ =>
  have hN:∀ x:List UInt8,dI [(kP,x)] xL=([],false):=fun x=>b6j gB [] (bV.one _) xL (fun v i=>by injection List.mem_singleton.1 i with q _;exact d1h q.symm)
  have o:∀ x:List UInt8,dI [(xL,x)] kP=([],false):=fun x=>b6j gB [] (bV.one _) kP (fun v i=>by injection List.mem_singleton.1 i with q _;exact d1h q)
  rcases hn (a,x) (by simp) with q|q
  ·dsimp only at q;subst q;rw[c1x,hN];simp[cN]
  ·dsimp only at q;subst q;rw[o,c1x];simp[cN]
 | [(a,x),(b,y)],hn,hr,_ =>
  have c:bY a b=true:=hr 0 1 (by omega) (by simp);have l:=hn (a,x) (by simp);have m:=hn (b,y) (by simp);dsimp only at l m;have g:a=kP∧b=xL:=by
   rcases l with rfl|rfl<;>rcases m with rfl|rfl
   ·rw[gB.irr] at c;exact absurd c (by simp)
   ·exact⟨rfl,rfl⟩
   ·rw[f] at c;exact absurd c (by simp)
   ·rw[gB.irr] at c;exact absurd c (by simp)
  obtain⟨rfl,rfl⟩:=g;have p:dI [(kP,x),(xL,y)] kP=(x,true):=(get_mem gB [] hr kP x).2 (by simp);have r:dI [(kP,x),(xL,y)] xL=(y,true):=(get_mem gB [] hr xL y).2 (by simp);rw[p,r];simp[cN]
 | _::_::_::_,_,_,h=>simp at h
theorem St.tot (h:St Q k s):cN s.now=(dI s.now kP).1.length+(dI s.now xL).1.length:=d7i h.fsn h.ok.ris
theorem f1x:∀ (u:JS) {k:Nat} {s:DS} (c:List UInt8),St Q k s→dI s.now xL=(c,true)→(∀ p∈u,b3g [p])→f1w Q k s c u (d1j u (0,s))
 | [],k,s,c,h,hc,_=>⟨h.more (by simp),rfl,by rw[← a8s];show (dI s.now xL).2=true;rw[hc],fun _=>by show dI s.now xL=_;rw[hc];simp[a6g],fun _=>rfl⟩
 | r::u,k,s,c,h,hc,ho=>by
  have hr:=ho r (by simp);have w:=d2k hr;have b:=h.append (nm:=xL) (dO (dX [r])) (.inr rfl) (fun q=>absurd q (Ne.symm d1h));have a:a6g (r::u)=dO (dX [r])++a6g u:=by unfold a6g;rw[bM]
  rw[c5s,d2j hr];obtain⟨e,d,he⟩:∃ e d,dJ s xL (dO (dX [r]))=(e,d):=⟨_,_,rfl⟩
  rw[he] at b ⊢;by_cases i:e=0
  ·subst i;obtain⟨v,l⟩:=b.yes rfl;dsimp only at v l;have m:dI d.now xL=(c++dO (dX [r]),true):=by rw[v,hc]
   have f:St Q (k+1+(dO (dX [r])).length) d:=b.st;have g:=f1x u (c++dO (dX [r])) f m (fun p x=>ho p (by simp[x]));refine⟨g.st.more (by rw[aW];omega),by rw[g.j,l kP d1h],g.has,fun q=>by rw[g.yes q,a,bN],fun q=>g.fit ?_⟩;rw[a,aE] at q;have o:=h.tot;have t:=f.tot;rw[m,l kP d1h,aE] at t;rw[hc] at o;dsimp only at o t;omega
  ·rw[d2l _ _ _ i];have hs:d=s:=b.no i;subst hs;refine⟨b.st.more (by rw[aW];omega),rfl,by rw[← a8s];show (dI d.now xL).2=true;rw[hc],fun q=>absurd q i,fun q=>b.fit ?_⟩;rw[a,aE] at q;omega
end
abbrev nmL:ByteArray:=⟨#[108,101,100,103,101,114]⟩
theorem e3k:dL nmL=true:=by unfold dL;decide
def vK (rl:List kC) (s:DS) (r:kC):(Bool×Int)×List kC×DS :=
 if gT r then
  if vF rl r.key then ((false,0),rl,s)
  else if (dJ s nmL (dO (fI r))).1=0 then ((true,0),rl++[r],(dJ s nmL (dO (fI r))).2)
  else ((false,(dJ s nmL (dO (fI r))).1),rl,(dJ s nmL (dO (fI r))).2)
 else ((false,1),rl,s)
theorem d7j {r:kC} (h:gT r=true):Fit (fI r):=by have:=pX h;exact⟨by omega,by omega⟩
theorem cF.base_le {α:Type} {sz:Nat} {c:α→List Value} {base base':Nat} {e:TypeId} {w:World} {v:Value} {l:List α} (h:cF sz c base e w v l) (hb:base'≤base):cF sz c base' e w v l:=by
 obtain⟨f,a⟩:=h;refine⟨f,?_⟩;rcases a with a|⟨g,b,d,rfl,i,j,r⟩
 ·exact .inl a
 ·exact .inr ⟨g,b,d,rfl,by omega,j,r⟩
theorem LC.rebase {w0 w W:World} {gl gd gm:Nat} {lv:Value} {rl:List kC} (h:LC w W gl gd gm lv rl) (hu:bR [] w0 w):LC w0 W gl gd gm lv rl :=
 ⟨h.top,h.rows.base_le hu.size,h.map,aL hu.size h.glb,aL hu.size h.gmb,hu.seq h.old⟩
theorem LC.new (w:World) (gd:Nat):LC w ((w.alloc (.map #[] 0)).alloc (.cells #[.pointer (some ⟨gd,0,none⟩),.slice none 0 0,.map (some w.heap.size)] 216)) (w.heap.size+1) gd w.heap.size (.slice none 0 0) []:=by
 have b:bR [] w (w.alloc (.map #[] 0)):=(bR.refl [] w).alloc _;have c:(w.alloc (.map #[] 0)).heap.size=w.heap.size+1:=by simp
 have a:bR [] (w.alloc (.map #[] 0)) ((w.alloc (.map #[] 0)).alloc (.cells #[.pointer (some ⟨gd,0,none⟩),.slice none 0 0,.map (some w.heap.size)] 216)):=(bR.refl [] _).alloc _;have d:=cU.new (w.alloc (.map #[] 0)) 216 [.pointer (some ⟨gd,0,none⟩),.slice none 0 0,.map (some w.heap.size)];rw[c] at d;exact⟨d,cF.nil _ _ _,(pF.new w).upd a (by simp),by omega,aF _,b.seq a⟩
theorem c5t {r:kC} (h:gT r=true):uH r.key:=by
 have a:=a2h h;have i1:=a.ino;have b:=a.gen;have c:=a.at_;have d:=a.rule;exact⟨⟨by omega,by omega⟩,⟨by omega,by omega⟩,⟨by omega,by omega⟩,by unfold maxLen;omega⟩
structure LD (w0 w:World) (gd gl:Nat) (F G:List Nat) (rl:List kC) (s:DS):Prop where
 lc:∃ gm lv,LC w0 w gl gd gm lv rl∧F=nI gl gm lv
 dd:DD w0 w gd G s
 ap:Ap F G
 ok:∀ r∈rl,gT r=true
def b3t (w0 w:World) (gd gl:Nat) (S:List Nat) (rl:List kC) (s:DS) (w':World):Prop:=∃ F' G',LD w0 w' gd gl F' G' rl s∧bR S w w'∧(∀ x∈F',x∈S∨w.heap.size≤x)∧(∀ x∈G',x∈S∨w.heap.size≤x)
section
variable {w0 w w' : World} {gd gl : Nat} {F G : List Nat} {rl : List kC} {s s' : DS}
theorem b8p {gm:Nat} {lv:Value} {W W':World} (h:DD w0 w gd G s) (hc:LC w W gl gd gm lv rl) (hok:∀ r∈rl,gT r=true) (hd:uA w0 W gd G s' W') (hG:∀ x∈G,x < w.heap.size):b3t w0 w gd gl G rl s' W':=by
 obtain⟨j,l,f,g⟩:=hd;have b:=hc.ge;have c:∀ x∈nI gl gm lv,x∉G:=fun x a d=>by have:=(b x a).1;have:=hG x d;omega
 have i:=(hc.rebase h.old).upd f c (fun x a=>(h.ge x a).1);have hs:=hc.old.size;refine⟨nI gl gm lv,j,⟨⟨gm,lv,i,rfl⟩,l,fun x a d=>?_,hok⟩,hc.old.trans f (by simp) (fun x a => .inl a),fun x a => .inr (b x a).1,fun x a=>(g x a).imp id (fun q=>by omega)⟩;rcases g x d with q|q
 ·exact c x a q
 ·have:=(b x a).2;omega
end
section
variable {w0 w w' : World} {gd gl : Nat} {F G : List Nat} {rl : List kC} {s s' : DS}
theorem LD.geF (h:LD w0 w gd gl F G rl s):∀ x∈F,w0.heap.size≤x∧x < w.heap.size:=by
 obtain⟨b,c,a,rfl⟩:=h.lc;exact a.ge
theorem LD.upd (h:LD w0 w gd gl F G rl s) {S:List Nat} (hu:bR S w w') (h1:∀ x∈F,x∉S) (h2:∀ x∈G,x∉S) (hS:∀ x∈S,w0.heap.size≤x):LD w0 w' gd gl F G rl s:=by
 obtain⟨a,b,c,rfl⟩:=h.lc;exact⟨⟨a,b,c.upd hu h1 hS,rfl⟩,h.dd.upd hu h2 hS,h.ap,h.ok⟩
theorem LD.upd0 (h:LD w0 w gd gl F G rl s) (hu:bR [] w w'):LD w0 w' gd gl F G rl s:=h.upd hu (by simp) (by simp) (by simp)
theorem LD.out0 (h:LD w0 w gd gl F G rl s) (hu:bR [] w w'):b3t w0 w gd gl (F++G) rl s w' :=
 ⟨F,G,h.upd0 hu,hu.mono (by simp),fun x a => .inl (aI.2 (.inl a)),fun x a => .inl (aI.2 (.inr a))⟩
theorem LD.disk (h:LD w0 w gd gl F G rl s) {w1:World} (hu:bR [] w w1) (hd:uA w0 w1 gd G s' w'):∃ G',LD w0 w' gd gl F G' rl s'∧bR G w w'∧(∀ x∈G',x∈G∨w.heap.size≤x):=by
 obtain⟨G',g,b,c⟩:=hd;have f:=h.upd0 hu;have hs:=hu.size;obtain⟨i,j,d,rfl⟩:=f.lc;refine⟨G',⟨⟨i,j,d.upd b h.ap (fun x a=>(h.dd.ge x a).1),rfl⟩,g,fun x a l=>?_,h.ok⟩,hu.trans b (by simp) (fun x a => .inl a),fun x a=>(c x a).imp id (fun q=>by omega)⟩;rcases c x l with q|q
 ·exact h.ap x a q
 ·have:=(d.ge x a).2;omega
theorem LD.out (h:LD w0 w gd gl F G rl s) {G':List Nat} (h2:LD w0 w' gd gl F G' rl s') (hu:bR G w w') (hf:∀ x∈G',x∈G∨w.heap.size≤x):b3t w0 w gd gl (F++G) rl s' w' :=
 ⟨F,G',h2,hu.mono (fun x a => .inl (aI.2 (.inr a))),fun x a => .inl (aI.2 (.inl a)),fun x a=>(hf x a).imp (fun q=>aI.2 (.inr q)) id⟩
theorem d2m (h:LD w0 w gd gl F G rl s) (ino gen at_:Int) (rule:ByteArray) (kind c0 c1 c2 c3 c4 c5 c6 c7 c8 c9:Int) (hn:s.now.length≤4999) (hlg:s.log.length≤500000000) (hrl:rl.length≤100000000) :
  Calls Tryz.prog 166 #[.pointer (some ⟨gl,0,none⟩),cA ino gen at_ rule kind c0 c1 c2 c3 c4 c5 c6 c7 c8 c9] w fun e w'=>e = .returned (.tuple #[.bool (vK rl s (eB ino gen at_ rule kind c0 c1 c2 c3 c4 c5 c6 c7 c8 c9)).1.1,.int .i64 (vK rl s (eB ino gen at_ rule kind c0 c1 c2 c3 c4 c5 c6 c7 c8 c9)).1.2])∧b3t w0 w gd gl (F++G) (vK rl s (eB ino gen at_ rule kind c0 c1 c2 c3 c4 c5 c6 c7 c8 c9)).2.1 (vK rl s (eB ino gen at_ rule kind c0 c1 c2 c3 c4 c5 c6 c7 c8 c9)).2.2 w':=by
 have a8:bR [] w (w.alloc (.cells #[.int .i64 ino,.int .i64 gen,.int .i64 at_,.string rule,.int .i64 kind,.int .i64 c0,.int .i64 c1,.int .i64 c2,.int .i64 c3,.int .i64 c4,.int .i64 c5,.int .i64 c6,.int .i64 c7,.int .i64 c8,.int .i64 c9] 48)):=(bR.refl [] w).alloc _;have D:=bG a8;have E:=bG h;have N:Hid (cU (w.alloc (.cells #[.int .i64 ino,.int .i64 gen,.int .i64 at_,.string rule,.int .i64 kind,.int .i64 c0,.int .i64 c1,.int .i64 c2,.int .i64 c3,.int .i64 c4,.int .i64 c5,.int .i64 c6,.int .i64 c7,.int .i64 c8,.int .i64 c9] 48)) w.heap.size 48 [.int .i64 ino,.int .i64 gen,.int .i64 at_,.string rule,.int .i64 kind,.int .i64 c0,.int .i64 c1,.int .i64 c2,.int .i64 c3,.int .i64 c4,.int .i64 c5,.int .i64 c6,.int .i64 c7,.int .i64 c8,.int .i64 c9]):=cU.new w _ [.int .i64 ino,.int .i64 gen,.int .i64 at_,.string rule,.int .i64 kind,.int .i64 c0,.int .i64 c1,.int .i64 c2,.int .i64 c3,.int .i64 c4,.int .i64 c5,.int .i64 c6,.int .i64 c7,.int .i64 c8,.int .i64 c9];have HN:=bG hn;have g3:=bG hlg;have g4:=bG hrl;clear h a8 hn hlg hrl;cases f:gT (eB ino gen at_ rule kind c0 c1 c2 c3 c4 c5 c6 c7 c8 c9) with
 | false =>
  have u:=bG f;have HE:Hid (vK rl s (eB ino gen at_ rule kind c0 c1 c2 c3 c4 c5 c6 c7 c8 c9)=((false,1),rl,s)):=by unfold Hid vK;rw[f];rfl
  clear f;go_enter Tryz.func166,Tryz.ntmps166;go_wp2_with fail
  (with_reducible refine(nH _ ino gen at_ rule kind c0 c1 c2 c3 c4 c5 c6 c7 c8 c9).mono ?_)
  rw[u.out];rintro e w1 ⟨rfl,g⟩;have o:=bG (D.out.seq g);clear g;go_wp2_with fail
  go_ret2
  exact⟨by rw[HE.out];rfl,by rw[HE.out];exact E.out.out0 o.out⟩
 | true =>
  have u:=bG f;have HK:Hid (uH ⟨ino,gen,at_,rule⟩):=c5t (r:=eB ino gen at_ rule kind c0 c1 c2 c3 c4 c5 c6 c7 c8 c9) f;cases j:vF rl ⟨ino,gen,at_,rule⟩ with
  | true =>
   have HE:Hid (vK rl s (eB ino gen at_ rule kind c0 c1 c2 c3 c4 c5 c6 c7 c8 c9)=((false,0),rl,s)):=by unfold Hid vK;rw[f,if_pos rfl];dsimp only;rw[j];rfl
   have HH:=bG j;clear f j;go_enter Tryz.func166,Tryz.ntmps166;go_wp2_with fail
   (with_reducible refine(nH _ ino gen at_ rule kind c0 c1 c2 c3 c4 c5 c6 c7 c8 c9).mono ?_)
   rw[u.out];rintro e w1 ⟨rfl,g⟩;have o:=bG (D.out.seq g);have d:=N.out.upd g (by simp);have O:=d.cell 0;have P:=d.cell 1;have d2:=d.cell 2;have Q:=d.cell 3;simp only[List.getElem?_cons_zero,List.getElem?_cons_succ] at O P d2 Q;clear g d;go_wp2_with fail
   obtain⟨gm,lv,hc,-⟩:=E.out.lc
   (with_reducible refine(b2d (hc.upd0 o.out) ino gen at_ rule HK.out).mono ?_)
   rw[HH.out];rintro e m ⟨rfl,y⟩;have l:=bG (o.out.seq y);clear y hc;go_wp2_with fail
   go_ret2
   exact⟨by rw[HE.out];rfl,by rw[HE.out];exact E.out.out0 l.out⟩
  | false =>
   obtain⟨r1,s1,a3⟩:∃ r s',dJ s nmL (dO (fI (eB ino gen at_ rule kind c0 c1 c2 c3 c4 c5 c6 c7 c8 c9)))=(r,s'):=⟨_,_,rfl⟩
   have g5:=bG a3;have g6:Hid ((dO (fI (eB ino gen at_ rule kind c0 c1 c2 c3 c4 c5 c6 c7 c8 c9))).length≤100000000∧dO (fI (eB ino gen at_ rule kind c0 c1 c2 c3 c4 c5 c6 c7 c8 c9))≠[]):=by
    have h1:=pX f;have h2:=lS (fI (eB ino gen at_ rule kind c0 c1 c2 c3 c4 c5 c6 c7 c8 c9));exact⟨by omega,fun q=>by rw[q] at h2;simp at h2;omega⟩
   have g7:Hid (mV [] (fI (eB ino gen at_ rule kind c0 c1 c2 c3 c4 c5 c6 c7 c8 c9))=dO (fI (eB ino gen at_ rule kind c0 c1 c2 c3 c4 c5 c6 c7 c8 c9))):=by unfold Hid;rw[a2u _ _ (d7j f)];rfl
   have g8:Hid ((fI (eB ino gen at_ rule kind c0 c1 c2 c3 c4 c5 c6 c7 c8 c9)).length≤100000):=by have:=pX f;unfold Hid;omega
   have HE:Hid (vK rl s (eB ino gen at_ rule kind c0 c1 c2 c3 c4 c5 c6 c7 c8 c9)=if r1=0 then ((true,0),rl++[eB ino gen at_ rule kind c0 c1 c2 c3 c4 c5 c6 c7 c8 c9],s1) else ((false,r1),rl,s1)):=by
    unfold Hid vK;rw[f,if_pos rfl];dsimp only;rw[j,a3];rfl
   have HH:=bG j;clear f j a3;go_enter Tryz.func166,Tryz.ntmps166;go_wp2_with fail
   (with_reducible refine(nH _ ino gen at_ rule kind c0 c1 c2 c3 c4 c5 c6 c7 c8 c9).mono ?_)
   rw[u.out];rintro e w1 ⟨rfl,g⟩;have o:=bG (D.out.seq g);have d:=N.out.upd g (by simp);have a9:=bG d;have O:=d.cell 0;have P:=d.cell 1;have d2:=d.cell 2;have Q:=d.cell 3;simp only[List.getElem?_cons_zero,List.getElem?_cons_succ] at O P d2 Q;clear g d N D;go_wp2_with fail
   obtain⟨gm,lv,hc,hF⟩:=E.out.lc
   (with_reducible refine(b2d (hc.upd0 o.out) ino gen at_ rule HK.out).mono ?_)
   rw[HH.out];rintro e m ⟨rfl,y⟩;have l:=bG (o.out.seq y);have c:=a9.out.upd y (by simp);have h4:=bG c;have R:=bG (E.out.upd0 l.out);have h5:w.heap.size < m.heap.size:=c.lt;have b0:Hid (∀ x∈G,x < w.heap.size):=fun x b=>(E.out.dd.ge x b).2
   have h6:Hid (∀ x∈F,x < w.heap.size):=fun x b=>(E.out.geF x b).2
   have g9:Hid (w.heap.size≤m.heap.size):=l.out.size;have b1:m.cell? ⟨gl,0,none⟩=some (.pointer (some ⟨gd,0,none⟩)):=(hc.upd0 l.out).top.cell 0;have O:=c.cell 0;have P:=c.cell 1;have d2:=c.cell 2;have Q:=c.cell 3;have d4:=c.cell 4;have d5:=c.cell 5;have d6:=c.cell 6;have d7:=c.cell 7;have d8:=c.cell 8;have d9:=c.cell 9;have U:=c.cell 10;have V:=c.cell 11;have X:=c.cell 12;have Y:=c.cell 13;have Z:=c.cell 14;simp only[List.getElem?_cons_zero,List.getElem?_cons_succ] at O P d2 Q d4 d5 d6 d7 d8 d9 U V X Y Z;have HS:Hid (∀ W,W=m→W.cell? ⟨gl,0,none⟩=some (.pointer (some ⟨gd,0,none⟩))∧W.cell? ⟨w.heap.size,0,none⟩=some (.int .i64 ino)∧W.cell? ⟨w.heap.size,1,none⟩=some (.int .i64 gen)∧W.cell? ⟨w.heap.size,2,none⟩=some (.int .i64 at_)∧W.cell? ⟨w.heap.size,3,none⟩=some (.string rule)∧W.cell? ⟨w.heap.size,4,none⟩=some (.int .i64 kind)∧W.cell? ⟨w.heap.size,5,none⟩=some (.int .i64 c0)∧W.cell? ⟨w.heap.size,6,none⟩=some (.int .i64 c1)∧W.cell? ⟨w.heap.size,7,none⟩=some (.int .i64 c2)∧W.cell? ⟨w.heap.size,8,none⟩=some (.int .i64 c3)∧W.cell? ⟨w.heap.size,9,none⟩=some (.int .i64 c4)∧W.cell? ⟨w.heap.size,10,none⟩=some (.int .i64 c5)∧W.cell? ⟨w.heap.size,11,none⟩=some (.int .i64 c6)∧W.cell? ⟨w.heap.size,12,none⟩=some (.int .i64 c7)∧W.cell? ⟨w.heap.size,13,none⟩=some (.int .i64 c8)∧W.cell? ⟨w.heap.size,14,none⟩=some (.int .i64 c9)):=by
    rintro W rfl;exact⟨b1,O,P,d2,Q,d4,d5,d6,d7,d8,d9,U,V,X,Y,Z⟩
   have b2:Hid (gl∉G):=fun b=>E.out.ap gl (by rw[hF];exact a7y _ _ _) b
   have t:Hid (∀ (T:List Nat) W,(T=[]∨T=G)→bR T m W→W.cell? ⟨gl,0,none⟩=some (.pointer (some ⟨gd,0,none⟩))∧W.cell? ⟨w.heap.size,0,none⟩=some (.int .i64 ino)∧W.cell? ⟨w.heap.size,1,none⟩=some (.int .i64 gen)∧W.cell? ⟨w.heap.size,2,none⟩=some (.int .i64 at_)∧W.cell? ⟨w.heap.size,3,none⟩=some (.string rule)∧W.cell? ⟨w.heap.size,4,none⟩=some (.int .i64 kind)∧W.cell? ⟨w.heap.size,5,none⟩=some (.int .i64 c0)∧W.cell? ⟨w.heap.size,6,none⟩=some (.int .i64 c1)∧W.cell? ⟨w.heap.size,7,none⟩=some (.int .i64 c2)∧W.cell? ⟨w.heap.size,8,none⟩=some (.int .i64 c3)∧W.cell? ⟨w.heap.size,9,none⟩=some (.int .i64 c4)∧W.cell? ⟨w.heap.size,10,none⟩=some (.int .i64 c5)∧W.cell? ⟨w.heap.size,11,none⟩=some (.int .i64 c6)∧W.cell? ⟨w.heap.size,12,none⟩=some (.int .i64 c7)∧W.cell? ⟨w.heap.size,13,none⟩=some (.int .i64 c8)∧W.cell? ⟨w.heap.size,14,none⟩=some (.int .i64 c9)):=by
    intro T W hT i;have n1:gl∉T:=by rcases hT with rfl|rfl;simp;exact b2.out
    have p:w.heap.size∉T:=by
     rcases hT with rfl|rfl
     ·simp
     ·intro b;have:=b0.out _ b;omega
    obtain⟨g0,g1⟩:=HS.out m rfl;obtain⟨e0,e1,e2,e3,e4,e5,e6,e7,e8,e9,b9,f0,f1,f2,f3⟩:=g1;exact⟨i.cell g0 n1,i.cell e0 p,i.cell e1 p,i.cell e2 p,i.cell e3 p,i.cell e4 p,i.cell e5 p,i.cell e6 p,i.cell e7 p,i.cell e8 p,i.cell e9 p,i.cell b9 p,i.cell f0 p,i.cell f1 p,i.cell f2 p,i.cell f3 p⟩
   have b3:Hid (∀ W,bR [] m W→Calls Tryz.prog 218 #[cA ino gen at_ rule kind c0 c1 c2 c3 c4 c5 c6 c7 c8 c9] W fun e w'=>∃ a n k,e = .returned (.slice a n k)∧Hid (fB bv m.heap.size 5 w' (.slice a n k) (fI (eB ino gen at_ rule kind c0 c1 c2 c3 c4 c5 c6 c7 c8 c9)))∧bR [] m w'):=fun W hW=>by
    refine(d0e W ino gen at_ rule kind c0 c1 c2 c3 c4 c5 c6 c7 c8 c9).mono ?_;rw[u.out,if_pos rfl];rintro e w' ⟨v,rfl,ho,i⟩;obtain⟨a,k,rfl,-⟩:=ho.rd;exact⟨a,_,k,rfl,ho.base_le hW.size,hW.seq i⟩
   have b4:Hid (∀ W a n k,fB bv m.heap.size 5 W (.slice a n k) (fI (eB ino gen at_ rule kind c0 c1 c2 c3 c4 c5 c6 c7 c8 c9))→bR [] m W→Calls Tryz.prog 129 #[.slice none 0 0,.slice a n k] W fun e w'=>∃ a n k,e = .returned (.slice a n k)∧Hid (fB bv m.heap.size 5 w' (.slice a n k) (dO (fI (eB ino gen at_ rule kind c0 c1 c2 c3 c4 c5 c6 c7 c8 c9))))∧bR [] m w'):=fun W a n k ho hW=>by
    refine(b2b _ _ [] (fI (eB ino gen at_ rule kind c0 c1 c2 c3 c4 c5 c6 c7 c8 c9)) W (Rd.nil _) ho.rd (by simp) (by have:=g8.out;omega)).mono ?_;rw[g7.out];rintro e w' ⟨v,rfl,B,i⟩;obtain⟨a,k,rfl,-⟩:=B.rd;exact⟨a,_,k,rfl,B.base_le hW.size,hW.seq i⟩
   have b5:Hid (∀ W a n k,fB bv m.heap.size 5 W (.slice a n k) (dO (fI (eB ino gen at_ rule kind c0 c1 c2 c3 c4 c5 c6 c7 c8 c9)))→bR [] m W→Calls Tryz.prog 128 #[.pointer (some ⟨gd,0,none⟩),sv nmL,.slice a n k] W fun e w'=>e = .returned (.int .i64 r1)∧Hid (uA w0 W gd G s1 w')∧Hid (bR [] m W)∧bR G m w'):=fun W a n k ho hW=>by
    refine(zX nmL _ _ ho.rd (fun _ x b hg=>by have:=(ho.ge x b).1;have:=b0.out x hg;have:=g9.out;omega) (R.out.dd.upd0 hW) g6.out.1 HN.out g3.out).mono ?_;rw[g5.out];rintro e w' ⟨rfl,hd⟩;exact⟨rfl,hd,hW,by obtain⟨G',k1,k2,k3⟩:=hd;exact hW.trans k2 (by simp) (fun x b => .inl b)⟩
   have ru:=bR.refl [] m;clear y c hc hF a9 o;go_wp2_with fail
   go_region_held3 (fun W=>W.cell? ⟨gl,0,none⟩=some (.pointer (some ⟨gd,0,none⟩))∧W.cell? ⟨w.heap.size,0,none⟩=some (.int .i64 ino)∧W.cell? ⟨w.heap.size,1,none⟩=some (.int .i64 gen)∧W.cell? ⟨w.heap.size,2,none⟩=some (.int .i64 at_)∧W.cell? ⟨w.heap.size,3,none⟩=some (.string rule)∧W.cell? ⟨w.heap.size,4,none⟩=some (.int .i64 kind)∧W.cell? ⟨w.heap.size,5,none⟩=some (.int .i64 c0)∧W.cell? ⟨w.heap.size,6,none⟩=some (.int .i64 c1)∧W.cell? ⟨w.heap.size,7,none⟩=some (.int .i64 c2)∧W.cell? ⟨w.heap.size,8,none⟩=some (.int .i64 c3)∧W.cell? ⟨w.heap.size,9,none⟩=some (.int .i64 c4)∧W.cell? ⟨w.heap.size,10,none⟩=some (.int .i64 c5)∧W.cell? ⟨w.heap.size,11,none⟩=some (.int .i64 c6)∧W.cell? ⟨w.heap.size,12,none⟩=some (.int .i64 c7)∧W.cell? ⟨w.heap.size,13,none⟩=some (.int .i64 c8)∧W.cell? ⟨w.heap.size,14,none⟩=some (.int .i64 c9)) (first|go_keep|exact t.out [] _ (.inl rfl) ru|exact t.out G _ (.inr rfl) f7)
    (first
     | (go_at_call 218;(with_reducible refine(b3.out _ (bR.seq ru ?_)).mono ?_);(repeat (first|exact bR.refl _ _|apply bR.drew|apply bR.drewN|apply bR.alloc));(rintro _ W1 ⟨a1,n1,k1,rfl,f4,ru⟩;dsimp only))
     | (go_at_call 129;(with_reducible refine(b4.out _ a1 n1 k1 (fB.upd (S:=[]) f4.out ?_ (by simp)) (bR.seq ru ?_)).mono ?_);(repeat (first|exact bR.refl _ _|apply bR.drew|apply bR.drewN|apply bR.alloc));(rintro _ W2 ⟨a2,p,k2,rfl,B,ru⟩;dsimp only))
     | (go_at_call 128;(with_reducible refine(b5.out _ a2 p k2 (fB.upd (S:=[]) B.out ?_ (by simp)) (bR.seq ru ?_)).mono ?_);(repeat (first|exact bR.refl _ _|apply bR.drew|apply bR.drewN|apply bR.alloc));(rintro _ W3 ⟨rfl,f5,f6,f7⟩;dsimp only)))
   all_goals
    obtain⟨G3,h3,I,f8⟩:=R.out.disk f6.out f5.out;have H3:=bG h3;have a0:=bG I;have b6:=bG f8;clear f5 f6 f7 f4 B ru b3 b4 b5 b1 O P d2 Q d4 d5 d6 d7 d8 d9 U V X Y Z R h3 f8;by_cases hz:r1=0
    ·subst hz;have z:Hid (vK rl s (eB ino gen at_ rule kind c0 c1 c2 c3 c4 c5 c6 c7 c8 c9)=((true,0),rl++[eB ino gen at_ rule kind c0 c1 c2 c3 c4 c5 c6 c7 c8 c9],s1)):=by unfold Hid;rw[HE.out,if_pos rfl]
     obtain⟨-,e0,e1,e2,e3,e4,e5,e6,e7,e8,e9,b9,f0,f1,f2,f3⟩:=t.out G W3 (.inr rfl) I;clear I;go_wp2_with fail
     obtain⟨C,f9,a4,J⟩:=H3.out.lc
     (with_reducible refine(c4n a4 ino gen at_ rule kind c0 c1 c2 c3 c4 c5 c6 c7 c8 c9 HK.out g4.out).mono ?_)
     rintro e w4 ⟨rfl,a5,g2,a6,a7⟩;have K:=a4.ge;have b7:=l.out.size;have h0:=a0.out.size;have L:Ap (nI gl C a5) G3:=fun x b hg=>by
      have hd:x∈nI gl C f9→False:=fun q=>H3.out.ap x (by rw[J];exact q) hg
      rcases aG.1 b with q|b
      ·exact hd (by rw[q];exact a7y _ _ _)
      ·rcases aG.1 b with q|b
       ·exact hd (by rw[q];exact b6r _ _ _)
       ·rcases a7 x b with q|q
        ·exact hd (a7z q)
        ·have:=(H3.out.dd.ge x hg).2;omega
     have b8:=H3.out.dd.upd a6 (fun x b hf=>H3.out.ap x (by rw[J];exact hf) b) (fun x b=>(K x b).1);have M:b3t w0 w gd gl (F++G) (rl++[eB ino gen at_ rule kind c0 c1 c2 c3 c4 c5 c6 c7 c8 c9]) s1 w4:=by
      refine⟨nI gl C a5,G3,⟨⟨C,a5,g2,rfl⟩,b8,L,fun r hr=>?_⟩,?_,fun x b=>?_,fun x b=>?_⟩
      ·rcases aI.1 hr with q|q
       ·exact H3.out.ok r q
       ·simp at q;rw[q];exact u.out
      ·refine(l.out.trans a0.out (T:=F++G) (by simp) (fun x b => .inl (aI.2 (.inr b)))).trans a6 (fun x b=>b) (fun x b => .inl (aI.2 (.inl ?_)));rw[J];exact b
      ·have hi:x∈nI gl C f9→x∈F++G:=fun q=>aI.2 (.inl (by rw[J];exact q))
       rcases aG.1 b with q|b
       ·exact .inl (hi (by rw[q];exact a7y _ _ _))
       ·rcases aG.1 b with q|b
        ·exact .inl (hi (by rw[q];exact b6r _ _ _))
        ·rcases a7 x b with q|q
         ·exact .inl (hi (a7z q))
         ·exact .inr (by omega)
      ·rcases b6.out x b with q|q
       ·exact .inl (aI.2 (.inr q))
       ·exact .inr (by omega)
     have A:=bG M;clear M b8 L g2 a6 a7 a4 K;go_wp2_with fail
     go_ret2
     exact⟨by rw[z.out];rfl,by rw[z.out];exact A.out⟩
    ·have ez:(r1 != 0)=true:=by rw[bne_iff_ne];exact hz
     have z:Hid (vK rl s (eB ino gen at_ rule kind c0 c1 c2 c3 c4 c5 c6 c7 c8 c9)=((false,r1),rl,s1)):=by unfold Hid;rw[HE.out,if_neg hz]
     have A:Hid (b3t w0 w gd gl (F++G) rl s1 W3):=by
      have b7:=l.out.size;exact E.out.out H3.out (l.out.trans a0.out (by simp) (fun x b => .inl b)) (fun x b=>(b6.out x b).imp id (fun q=>by omega))
     clear hz I;go_wp2_with fail
     go_ret2
     exact⟨by rw[z.out];rfl,by rw[z.out];exact A.out⟩
theorem b8q (h:LD w0 w gd gl F G rl s) (r:kC) (hn:s.now.length≤4999) (hlg:s.log.length≤500000000) (hrl:rl.length≤100000000) {b:Bool} {er:Int} {rl':List kC} (he:vK rl s r=((b,er),rl',s')) :
  Calls Tryz.prog 166 #[.pointer (some ⟨gl,0,none⟩),c9p r] w fun e w'=>e = .returned (.tuple #[.bool b,.int .i64 er])∧b3t w0 w gd gl (F++G) rl' s' w':=by
 obtain⟨d,f,at_,a,c,c0,g,i,j,l,m,o,p,t,u,rfl⟩:=e1o r;have:=d2m h d f at_ a c c0 g i j l m o p t u hn hlg hrl;rw[he] at this;exact this
end
theorem a3m {L:List Nat} {w w':World} (h:bR L w w'):Eng.cJ (fun x=>x∈L) w w':=⟨h.os,h.tape,h.output,h.size,h.block⟩
theorem uL {w w':World} (h:bR [] w w'):Eng.cJ (fun _=>False) w w':=⟨h.os,h.tape,h.output,h.size,fun k a _=>h.block k a (by simp)⟩
theorem rY {S:Nat→Prop} {w w':World} (h:Eng.cJ S w w'):∃ L:List Nat,bR L w w'∧∀ x∈L,S x:=by
 classical
 refine⟨(List.range w.heap.size).filter fun x=>decide (S x),⟨h.os,h.tape,h.output,h.size,fun k a b=>h.block k a fun q=>b ?_⟩,fun x c=>?_⟩
 ·exact List.mem_filter.2 ⟨List.mem_range.2 a,decide_eq_true q⟩
 ·exact bI (List.mem_filter.1 c).2
def lA (w0:World) (Q:World→List Nat→Prop) (up:∀ {w w' G L},Q w G→bR L w w'→(∀ x∈G,x∉L)→(∀ x∈L,w0.heap.size≤x)→Q w' G) (lt:∀ {w G},Q w G→∀ x∈G,w0.heap.size≤x∧x < w.heap.size):Eng.cR w0.heap.size where
 P w F:=∃ G,Q w G∧∀ x,F x↔x∈G
 up:=by
  rintro w w' F S ⟨G,h1,h2⟩ hu hs hb;obtain⟨L,k1,k2⟩:=rY hu;exact⟨G,up h1 k1 (fun x hx hl=>hs x ((h2 x).2 hx) (k2 x hl)) (fun x hx=>hb x (k2 x hx)),h2⟩
 lt:=by
  rintro w F ⟨G,h1,h2⟩ x hx;exact lt h1 x ((h2 x).1 hx)
def YdQ (w0:World) (v:Value) (fl:FL) (n:Nat) (w:World) (G:List Nat):Prop:=∃ gy tk,v = .pointer (some ⟨gy,0,none⟩)∧YD w0 w gy G fl tk∧tk.length≤n∧∀ p∈tk,0≤p.2∧p.2≤n*65536
def kY (w0:World) (v:Value) (fl:FL) (n:Nat):Eng.cR w0.heap.size:=lA w0 (YdQ w0 v fl n)
 (by rintro w w' G L ⟨gy,tk,h1,h2,h3⟩ hu hs hb;exact⟨gy,tk,h1,h2.upd hu hs hb,h3⟩)
 (by rintro w G ⟨gy,tk,h1,h2,h3⟩ x hx;exact h2.ge x hx)
structure Bnd (n k:Nat) (s:DS):Prop where
 ok:zU s
 tot:cN s.now≤n
 num:s.now.length≤k
 log:s.log.length≤n+k
theorem a3n {n k:Nat} {s:DS} (h:Bnd n k s) (nm:ByteArray) (p:List UInt8) (hn:dL nm=true) (hk:k≤4000) (hp:n+p.length≤262144):(dJ s nm p).1=0∧Bnd (n+p.length) (k+1) (dJ s nm p).2:=by
 have l:=h.tot;have f:=h.num;have g:=h.log;unfold dJ;rw[if_pos hn,if_neg (by omega)];refine⟨rfl,?_⟩;dsimp only;cases b:uI s.now nm with
 | true =>
  rw[if_pos rfl];have a:=nM.all p h.ok b (by omega) (by omega) (cX p).length (aF _);rw[aV] at a;have c:=jO p;have d:min (32*(cX p).length) p.length=p.length:=by rw[c];omega
  rw[d] at a;exact⟨a.ok,by have:=a.tot;omega,by have:=a.len;omega,by have:=a.log;omega⟩
 | false =>
  rw[if_neg (by simp)];obtain⟨o,i,j,r,t⟩:=h.ok.make nm b (by omega);have a:=nM.all p i j (by omega) (by omega) (cX p).length (aF _);rw[aV] at a;have c:=jO p;have d:min (32*(cX p).length) p.length=p.length:=by rw[c];omega
  rw[d] at a;have m:(nS (gQ nm) s).log.length=s.log.length+1:=by unfold nS;simp
  exact⟨a.ok,by have:=a.tot;omega,by have:=a.len;omega,by have:=a.log;omega⟩
theorem Bnd.mark {n k:Nat} {s:DS} (h:Bnd n k s):Bnd n k (b3e s):=⟨h.ok.mark,h.tot,h.num,by unfold b3e;simp⟩
def StQ (w0:World) (vd vl vj:Value) (rl:List kC) (n k:Nat) (w:World) (G:List Nat):Prop :=
 ∃ gd gl gj F D K s js,vd = .pointer (some ⟨gd,0,none⟩)∧vl = .pointer (some ⟨gl,0,none⟩)∧vj = .pointer (some ⟨gj,0,none⟩)∧LD w0 w gd gl F D rl s∧JD w0 w gd gj K D js s∧Ap F K∧Bnd n k s∧G=F++D++K
def StA (w0:World) (vd vl vj:Value) (rl:List kC) (n k:Nat):Eng.cR w0.heap.size:=lA w0 (StQ w0 vd vl vj rl n k)
 (by
  rintro w w' G L ⟨gd,gl,gj,F,D,K,s,js,h1,h2,h3,h4,h5,h6,h7,rfl⟩ hu hs hb;have hF:∀ x∈F,x∉L:=fun x hx=>hs x (by simp[hx])
  have hD:∀ x∈D,x∉L:=fun x hx=>hs x (by simp[hx])
  have hK:∀ x∈K,x∉L:=fun x hx=>hs x (by simp[hx])
  exact⟨gd,gl,gj,F,D,K,s,js,h1,h2,h3,h4.upd hu hF hD hb,h5.upd hu hK hD hb,h6,h7,rfl⟩)
 (by
  rintro w G ⟨gd,gl,gj,F,D,K,s,js,h1,h2,h3,h4,h5,h6,h7,rfl⟩ x hx;rcases aI.1 hx with hx|hx
  ·rcases aI.1 hx with hx|hx
   ·exact h4.geF x hx
   ·exact h4.dd.ge x hx
  ·exact h5.geF x hx)
section
variable {w0 w : World} {v vd vl vj : Value} {fl : FL} {rl : List kC} {n k : Nat} {G : List Nat}
def Chg (Q:World→List Nat→Prop) (w:World) (G:List Nat) (w':World):Prop:=∃ G',Q w' G'∧bR G w w'∧∀ x∈G',x∈G∨w.heap.size≤x
theorem c1y (h:StQ w0 vd vl vj rl n k w G) (hk:k≤4000):Calls Tryz.prog 20 #[vd] w fun e w'=>e = .returned (.tuple #[])∧Chg (StQ w0 vd vl vj rl n k) w G w':=by
 obtain⟨v,y,z,F,D,K,s,A,rfl,rfl,rfl,b,d,B,m,rfl⟩:=h;have:=m.num;refine(c5m b.dd (by omega)).mono ?_;rintro e w' ⟨rfl,f,o,j,l⟩;obtain⟨C,E,I,p⟩:=b.lc;obtain⟨J,L,M,r⟩:=d.jc;have c:∀ x∈D,w0.heap.size≤x:=fun x a=>(b.dd.ge x a).1
 have t:Ap F f:=fun x a hd=>by
  rcases l x hd with q|q
  ·exact b.ap x a q
  ·have:=(b.geF x a).2;omega
 have u:Ap K f:=fun x a hd=>by
  rcases l x hd with q|q
  ·exact d.ap x a q
  ·have:=(d.geF x a).2;omega
 have g:=I.upd j (by rw[← p];exact b.ap) c;have i:=M.upd j (by rw[← r];exact d.ap) c;refine⟨rfl,F++f++K,⟨v,y,z,F,f,K,b3e s,A,rfl,rfl,rfl,⟨⟨C,E,g,p⟩,o,t,b.ok⟩,⟨⟨J,L,i,r⟩,o,u⟩,B,m.mark,rfl⟩,j.mono (fun x a => .inl (by simp[a])),fun x a=>?_⟩;rcases aI.1 a with a|a
 ·rcases aI.1 a with a|a
  ·exact .inl (by simp[a])
  ·exact(l x a).imp (fun q=>by simp[q]) id
 ·exact .inl (by simp[a])
theorem d2n (h:StQ w0 vd vl vj rl n k w G) (r:kC) (hr:gT r=true) (hh:vF rl r.key=false) (hk:k≤4000) (hn:n+208≤262144) (hl:rl.length≤100000000) :
  Calls Tryz.prog 166 #[vl,c9p r] w fun e w'=>e = .returned (.tuple #[.bool true,.int .i64 0])∧Chg (StQ w0 vd vl vj (rl++[r]) (n+208) (k+1)) w G w':=by
 obtain⟨B,C,E,F,D,K,s,I,rfl,rfl,rfl,f,b,g,i,rfl⟩:=h;have Q:=i.num;have R:=i.log;have m:=pX hr;have y:=lS (fI r);obtain⟨J,c⟩:=a3n i nmL (dO (fI r)) e3k hk (by omega);have he:vK rl s r=((true,0),rl++[r],(dJ s nmL (dO (fI r))).2):=by
  unfold vK;rw[if_pos hr,hh,if_neg (by simp),if_pos J]
 refine(b8q f r (by omega) (by omega) hl he).mono ?_;rintro e w' ⟨rfl,j,l,o,p,t,u⟩;obtain⟨L,M,N,v⟩:=b.jc;have d:=N.upd p (by
  rw[← v];intro x a O;rcases aI.1 O with q|q
  ·exact g x q a
  ·exact b.ap x a q) (fun x a=>by
  rcases aI.1 a with q|q
  ·exact(f.geF x q).1
  ·exact(f.dd.ge x q).1)
 have z:Ap K l:=fun x a hd=>by
  rcases u x hd with q|q
  ·rcases aI.1 q with q|q
   ·exact g x q a
   ·exact b.ap x a q
  ·have:=(b.geF x a).2;omega
 have A:Ap j K:=fun x P a=>by
  rcases t x P with q|q
  ·rcases aI.1 q with q|q
   ·exact g x q a
   ·exact b.ap x a q
  ·have:=(b.geF x a).2;omega
 refine⟨rfl,j++l++K,⟨B,C,E,j,l,K,_,I,rfl,rfl,rfl,o,⟨⟨L,M,d,v⟩,o.dd,z⟩,A,⟨c.ok,by have:=c.tot;omega,c.num,by have:=c.log;omega⟩,rfl⟩,p.mono (fun x a => .inl (by simp at a ⊢;rcases a with q|q<;>simp[q])),fun x a=>?_⟩;rcases aI.1 a with a|a
 ·rcases aI.1 a with a|a
  ·exact(t x a).imp (fun q=>by simp at q ⊢;rcases q with q|q<;>simp[q]) id
  ·exact(u x a).imp (fun q=>by simp at q ⊢;rcases q with q|q<;>simp[q]) id
 ·exact .inl (by simp[a])
theorem c5u (c:Ch) (h:c.2.size≤4000) (h2:0≤c.1∧c.1≤40):1≤(dX [c]).length∧(dX [c]).length≤c.2.size+30:=by
 have a:∀ n:Nat,n < 18446744073709551616→(dF n).length≤9:=fun n b=>by
  have:=lZ n b;rw[fN];omega
 have d:=a5r [c].length;have f:=a [c].length (by simp);have g:=a c.1.toNat (by omega);have i:=a c.2.size (by omega);have j:=oA c.2;unfold dX mE;simp only[aE,bM,List.flatMap_nil,bA];omega
theorem e9b {α β:Type} {p:α×β} {a:α} (h:p.1=a):p=(a,p.2):=by rw[← h]
theorem d2o (h:StQ w0 vd vl vj rl n k w G) {u:Value} (c:Ch) (hu:qW 2 jB w u [c]) (hap:∀ x∈blk u,x∉G) (hc:0≤c.1∧c.1≤40) (hs:c.2.size≤4000) (hk:k≤4000) (hn:n+c.2.size+38≤262144) :
  Calls Tryz.prog 76 #[vj,u] w fun e w'=>e = .returned (.int .i64 0)∧Chg (StQ w0 vd vl vj rl (n+c.2.size+38) (k+1)) w G w':=by
 obtain⟨N,O,P,F,D,K,s,Q,rfl,rfl,rfl,b,m,o,p,rfl⟩:=h;have U:=p.num;have V:=p.log;have y:=c5u c hs hc;have I:=lS (dX [c]);have f:Fit (dX [c]):=⟨by omega,by omega⟩
 have j:mV [] (dX [c])=dO (dX [c]):=by rw[a2u _ _ f];rfl
 obtain⟨R,g⟩:=a3n p kP (dO (dX [c])) d1g hk (by omega);have J:c5n (dJ s kP (dO (dX [c]))).2 kP≤262144:=by
  have W:=qF (dJ s kP (dO (dX [c]))).2.now kP;have X:=g.tot;show (dI (dJ s kP (dO (dX [c]))).2.now kP).1.length≤_;omega
 refine(c5r u [c] _ m hu (fun x a i=>hap x a (by simp at i ⊢;rcases i with q|q<;>simp[q])) (fun d hd=>by
  obtain rfl:d=c:=by simpa using hd
  exact⟨⟨hc.1,hc.2,by omega⟩,by omega⟩) ⟨by simp,by simp⟩ (by omega) (by rw[j];exact e9b R) J (by omega) (by omega)).mono ?_
 rintro e w' ⟨rfl,r,t,z,A,B,C⟩;obtain⟨S,T,v,E⟩:=b.lc;have l:=v.upd A (by
  rw[← E];intro x a i;rcases aI.1 i with q|q
  ·exact o x a q
  ·exact b.ap x a q) (fun x a=>by
  rcases aI.1 a with q|q
  ·exact(m.geF x q).1
  ·exact(m.dd.ge x q).1)
 have L:Ap F t:=fun x a hd=>by
  rcases C x hd with q|q
  ·rcases aI.1 q with q|q
   ·exact o x a q
   ·exact b.ap x a q
  ·have:=(b.geF x a).2;omega
 have M:Ap F r:=fun x a hd=>by
  rcases B x hd with q|q
  ·rcases aI.1 q with q|q
   ·exact o x a q
   ·exact b.ap x a q
  ·have:=(b.geF x a).2;omega
 refine⟨rfl,F++t++r,⟨N,O,P,F,t,r,(dJ s kP (dO (dX [c]))).2,yP Q [c],rfl,rfl,rfl,⟨⟨S,T,l,E⟩,z.dd,L,b.ok⟩,z,M,⟨g.ok,by have:=g.tot;omega,g.num,by have:=g.log;omega⟩,rfl⟩,A.mono (fun x a => .inl (by simp at a ⊢;rcases a with q|q<;>simp[q])),fun x a=>?_⟩;rcases aI.1 a with a|a
 ·rcases aI.1 a with a|a
  ·exact .inl (by simp[a])
  ·exact(C x a).imp (fun q=>by simp at q ⊢;rcases q with q|q<;>simp[q]) id
 ·exact(B x a).imp (fun q=>by simp at q ⊢;rcases q with q|q<;>simp[q]) id
theorem d2p (h:YdQ w0 v fl n w G):Calls Tryz.prog 65 #[v] w fun e w'=>∃ u,e = .returned u∧cF 3 dA w.heap.size 178 w' u (bW fl)∧bR [] w w':=by
 obtain⟨b,c,rfl,a,d⟩:=h;exact b7j a
theorem c5v (h:YdQ w0 v fl n w G) (s:ByteArray) {u:Value} {p:List UInt8} (hp:eQ w u p) (hl:p.length≤100000) {fl':FL} {r:Int} (he:kL fl s p=(r,fl')):Calls Tryz.prog 22 #[v,sv s,u] w fun e w'=>e = .returned (.int .i64 r)∧Chg (YdQ w0 v fl' n) w G w':=by
 obtain⟨a,b,rfl,c,d⟩:=h;refine(b2r s u p hp (by omega) c).mono ?_;rw[he];rintro e w' ⟨rfl,f,g,i,j⟩;exact⟨rfl,f,⟨a,b,rfl,g,d⟩,i,j⟩
theorem c5w (h:YdQ w0 v fl n w G) (s:ByteArray) {fl':FL} {r:Int} (he:jN fl s=(r,fl')):Calls Tryz.prog 21 #[v,sv s] w fun e w'=>e = .returned (.int .i64 r)∧Chg (YdQ w0 v fl' n) w G w':=by
 obtain⟨a,b,rfl,c,d⟩:=h;refine(b2q s c).mono ?_;rw[he];rintro e w' ⟨rfl,f,g,i,j⟩;exact⟨rfl,f,⟨a,b,rfl,g,d⟩,i,j⟩
theorem c5x (h:YdQ w0 v fl n w G) (s:ByteArray) {fl':FL} {r:Int} (he:fM fl s=(r,fl')):Calls Tryz.prog 25 #[v,sv s] w fun e w'=>e = .returned (.int .i64 r)∧Chg (YdQ w0 v fl' n) w G w':=by
 obtain⟨a,b,rfl,c,d⟩:=h;refine(b2s s c).mono ?_;rw[he];rintro e w' ⟨rfl,f,g,i,j⟩;exact⟨rfl,f,⟨a,b,rfl,g,d⟩,i,j⟩
theorem d7k (h:YdQ w0 v fl n w G) (hn:n≤1000) {ino:Int} (hi:cB fA fl ino=true) (hino:1≤ino∧ino≤12) (a m:Nat) (ha:a≤100000) (hm:m≤100000) :
  Calls Tryz.prog 107 #[v,iv ino,.int .i64 (a:Int),.int .i64 (m:Int)] w fun e w'=>∃ u,e = .returned (.tuple #[u,.int .i64 0])∧fB bv w.heap.size 5 w' u (((bT fl (below fA fl ino)).2.2.drop a).take m)∧∃ G',YdQ w0 v fl (n+1) w' G'∧bR G w w'∧(∀ x∈G',x∈G∨w.heap.size≤x)∧Ap (blk u) G':=by
 obtain⟨t,b,rfl,l,E,d⟩:=h;have o:rU fl b ino a m=(((((bT fl (below fA fl ino)).2.2.drop a).take m,0)),dD fA b ino ((fC fA 0 b ino).1+((((bT fl (below fA fl ino)).2.2.drop a).take m).length:Int))):=by
  unfold rU;rw[hi,if_pos rfl,if_neg (by omega)];simp
 have i:=c4w ino a m ⟨by omega,by omega⟩ ⟨by omega,by omega⟩ ⟨by omega,by omega⟩ l (by omega) (fun p f=>⟨(d p f).1,by have:=(d p f).2;omega⟩);rw[o] at i;refine i.mono ?_;rintro e w' ⟨u,rfl,y,G',z,A,B,C⟩;have j:(((bT fl (below fA fl ino)).2.2.drop a).take m).length≤65536:=by
  have r:=l.ris.2.2;obtain⟨g,D⟩:below fA fl ino < fl.length∧(bT fl (below fA fl ino)).1=ino:=by unfold cB at hi;exact bI hi
  have:=(r _ (a7w _ g)).2.2;rw[aJ,aH];omega
 have s:0≤(fC fA (0:Int) b ino).1∧(fC fA (0:Int) b ino).1≤n*65536:=by
  unfold fC;split
  ·rename_i c;obtain⟨g,D⟩:below fA b ino < b.length∧(bT b (below fA b ino)).1=ino:=by unfold cB at c;exact bI c
   exact d _ (a7w _ g)
  ·exact⟨Int.le_refl _,by omega⟩
 refine⟨u,rfl,y,G',⟨t,_,rfl,z,?_,fun p f=>?_⟩,A,B,C⟩
 ·dsimp only;have:=a2q (lt:=fA) b ino ((fC fA (0:Int) b ino).1+((((bT fl (below fA fl ino)).2.2.drop a).take m).length:Int));omega
 ·rcases nE (lt:=fA) _ _ _ _ f with q|q
  ·rw[q];dsimp only;omega
  ·have:=d p q;omega
end
open Go.Eng (cR cJ)
theorem a9c {O O1:Nat→Prop} {a b c:World} (h:cJ O a b) (k:cJ O1 b c) (ho:∀ x,O1 x→O x∨a.heap.size≤x):cJ O a c:=@Eng.cJ.trans (Eng.bQ 0 fQ) O O1 a b c h k ho
theorem d7l (O:Nat→Prop) (w:World):cJ O w w:=@Eng.cJ.refl (Eng.bQ 0 fQ) O w
theorem e3l:(Tryz.prog.info? 321).map (fun i=>(i.zero,i.size,i.bytes))=some (some (.agg #[.int .i64 0,.int .i64 0,.int .i64 0,.int .i64 0,.int .i64 0,.int .i64 0,.int .i64 0,.int .i64 0,.int .i64 0,.int .i64 0,.int .i64 0,.int .i64 0,.int .i64 0]),13,104):=by kernel_rfl
theorem c1z {S:Nat→Prop} {L:List Nat} {w w1 w2:World} (h:cJ S w w1) (k:bR L w1 w2) (hL:∀ x∈L,S x∨w.heap.size≤x):cJ S w w2:=a9c h (a3m k) hL
end Go.Proofs.YthgnlfikneipiaaGreat
namespace Go.Proofs.YthgnlfikneipiaaGreat
open Go.RowKit
open Go.Eng (cR cJ cY bQ)
def byA (b:Nat) (v:Value) (k:Nat):cR b where
 P w F:=∃ l:List UInt8,fB bv b 5 w v l∧l.length≤9*k∧(1≤k→1≤l.length)∧∀ x,F x↔x∈blk v
 up:=by
  rintro w w' F S ⟨l,h1,h2,h3,h4⟩ hu hs hb;obtain⟨L,k1,k2⟩:=rY hu;exact⟨l,h1.upd k1 (fun x hx hl=>hs x ((h4 x).2 hx) (k2 x hl)),h2,h3,h4⟩
 lt:=by
  rintro w F ⟨l,h1,h2,h3,h4⟩ x hx;exact h1.ge x ((h4 x).1 hx)
theorem cL {b:Nat} {w:World} {fs:Nat→Nat→Prop} {l:List (cR b)} (h:Eng.dN (Eng.dQ False::l) w fs):False:=(h.at_ 0 _ rfl).1
theorem a9d {S:Nat→Prop} {w w':World} (h:bR [] w w'):cJ S w w':=⟨h.os,h.tape,h.output,h.size,fun k a _=>h.block k a (by simp)⟩
theorem wW {b:Nat} {e:TypeId} {w:World} {v:Value} {l:List UInt8} (h:fB bv b e w v l):v.oneCell'=true:=by
 rcases h.2 with⟨rfl,_⟩|⟨g,a,c,rfl,_⟩<;>rfl
def zY (ino gen hl:Int) (hs:Int) (sv:List Value):List Value := .bool true :: .int .i64 ino :: .int .i64 gen :: .int .i64 hl :: .int .u32 hs::sv
end Go.Proofs.YthgnlfikneipiaaGreat
namespace Go.Proofs.YthgnlfikneipiaaGreat
open Go.RowKit
open Go.Eng (cR cJ)
abbrev nmA:ByteArray:=⟨#[97]⟩
structure RNm (W:World) (gr g2 c:Nat):Prop where
 c0:W.cell? ⟨gr,0,none⟩=some (.slice (some ⟨g2,0,none⟩) 1 c)
 c1:W.cell? ⟨g2,0,none⟩=some (.string nmA)
theorem RNm.upd {W W':World} {gr g2 c:Nat} (h:RNm W gr g2 c) {L:List Nat} (hu:bR L W W') (h1:gr∉L) (h2:g2∉L):RNm W' gr g2 c:=⟨hu.cell h.c0 h1,hu.cell h.c1 h2⟩
theorem c5y {W:World} {gr g2 c:Nat} (h:RNm W gr g2 c):Calls Tryz.prog 165 #[.pointer (some ⟨gr,0,none⟩),.int .i64 0] W fun e w'=>e = .returned (.string nmA)∧bR [] W w':=by
 obtain⟨c0,a⟩:=h;go_enter Tryz.func165,Tryz.ntmps165;go_wp2_with fail
 go_ret;exact⟨rfl,bR.refl _ _⟩
end Go.Proofs.YthgnlfikneipiaaGreat
namespace Go.Proofs.YthgnlfikneipiaaGreat
open Go.RowKit
theorem e9c (f:Fd):∃ kind at_ rule c0 c1 c2 c3 c4 c5 c6 c7 c8 c9,f=⟨kind,at_,rule,⟨[c0,c1,c2,c3,c4,c5,c6,c7,c8,c9],rfl⟩⟩:=by
 obtain⟨kind,at_,rule,⟨l,a⟩⟩:=f;obtain⟨c0,c1,c2,c3,c4,c5,c6,c7,c8,c9,rfl⟩:=ten a;exact⟨kind,at_,rule,c0,c1,c2,c3,c4,c5,c6,c7,c8,c9,rfl⟩
def qI (ino gen:Int) (f:Fd):kC:=⟨⟨ino,gen,f.at_,if f.kind=1 then nmA else ⟨#[]⟩⟩,f.kind,f.caps⟩
def e0f (ino gen:Int) (rl:List kC) (fs:List Fd):Prop:=∀ k,k < fs.length→(bT fs k).rule=0∧((bT fs k).kind=1∨(bT fs k).kind=2)∧gT (qI ino gen (bT fs k))=true∧vF (rl++(fs.take k).map (qI ino gen)) (qI ino gen (bT fs k)).key=false
theorem uM (ino gen:Int) (fs:List Fd) (k:Nat) (hk:k < fs.length):(fs.take (k+1)).map (qI ino gen)=(fs.take k).map (qI ino gen)++[qI ino gen (bT fs k)]:=by
 rw[bC hk,List.map_append];have:bT fs k=fs[k]:=by simp[bT,hk]
 rw[this];rfl
theorem b8r {w0 w w':World} {vd vl vj:Value} {rl:List kC} {n k:Nat} {G L:List Nat} (h:StQ w0 vd vl vj rl n k w G) (hu:bR L w w') (hs:∀ x∈G,x∉L) (hb:∀ x∈L,w0.heap.size≤x):StQ w0 vd vl vj rl n k w' G:=by
 obtain⟨b,c,d,F,D,K,s,f,g,i,j,l,m,o,p,rfl⟩:=h;exact⟨b,c,d,F,D,K,s,f,g,i,j,l.upd hu (fun x a=>hs x (by simp[a])) (fun x a=>hs x (by simp[a])) hb,m.upd hu (fun x a=>hs x (by simp[a])) (fun x a=>hs x (by simp[a])) hb,o,p,rfl⟩
theorem e9d {w0 w:World} {vd vl vj:Value} {rl:List kC} {n k:Nat} {G:List Nat} (h:StQ w0 vd vl vj rl n k w G):∀ x∈G,w0.heap.size≤x∧x < w.heap.size:=by
 obtain⟨d,f,g,F,D,K,s,i,j,l,m,b,c,o,p,rfl⟩:=h;intro x a;rcases aI.1 a with a|a
 ·rcases aI.1 a with a|a
  ·exact b.geF x a
  ·exact b.dd.ge x a
 ·exact c.geF x a
theorem b3u {w0 w:World} {vd vl vj vy vp va v:Value} {rl:List kC} {n m:Nat} {G:List Nat} {gf gr g2 cr:Nat} {live:Value} {ino gen:Int} {ps:List Value} {fs:List Fd}
  (hs:StQ w0 vd vl vj rl n m w G) (hf:cU w gf 98 [vy,.pointer (some ⟨gr,0,none⟩),vl,vj,vp,va]) (hr:RNm w gr g2 cr) (hv:qW 13 hZ w v fs)
  (h1:gf∉G) (h2:gr∉G) (h3:g2∉G) (h4:∀ x∈blk v,x∉G) (hlv:∃ g,vl = .pointer (some ⟨g,0,none⟩)) (hb:w0.heap.size≤w.heap.size) (hok:e0f ino gen rl fs) (hm:m+fs.length≤4000) (hn:n+208*fs.length≤262000) (hl:rl.length+fs.length≤90000000) :
  Calls Tryz.prog 111 #[.pointer (some ⟨gf,0,none⟩),.agg (live :: .int .i64 ino :: .int .i64 gen::ps).toArray,v] w fun e w'=>e = .returned (.int .i64 0)∧Chg (StQ w0 vd vl vj (rl++fs.map (qI ino gen)) (n+208*fs.length) (m+fs.length)) w G w':=by
 have F:=(bR.refl [] w).alloc (.cells (live :: .int .i64 ino :: .int .i64 gen::ps).toArray 90);have a8:=cU.new w 90 (live :: .int .i64 ino :: .int .i64 gen::ps);have d9:=bG F;have a9:=bG a8;have b0:=hs;have HS:=bG b0;have V:=e9d hs;have b1:w.heap.size∉G:=fun q=>by have:=(V _ q).2;omega
 have HF:=bG (hf.upd F (by simp));have HR:=bG (hr.upd F (by simp) (by simp));have HV:=bG (hv.upd0 iQ F);have f0:=bG (b8r hs F (by simp) (by simp));have h0:=bG V;have f1:=bG hok;have HM:=bG hm;have HN:=bG hn;have HL:=bG hl;have H1:=bG h1;have H2:=bG h2;have H3:=bG h3;have H4:=bG h4;have f2:=bG b1;have HB:=bG hb;obtain⟨gl,rfl⟩:=hlv;obtain⟨a,h5,rfl,g5,d6,a6⟩:=hv;have b2:Hid (fs.length≤9223372036854775807):=by unfold Hid;unfold maxLen at d6;omega
 clear F a8 b0 hs V b1 hf hr a6 d6 g5 h1 h2 h3 h4 hb hok hm hn hl;go_enter Tryz.func111,Tryz.ntmps111;go_wp2_with fail
 have f4:Hid (w.heap.size < (w.alloc (.cells (live :: .int .i64 ino :: .int .i64 gen::ps).toArray 90)).heap.size):=a9.out.lt;generalize w.alloc (.cells (live :: .int .i64 ino :: .int .i64 gen::ps).toArray 90)=w1 at *
 go_loopw [14] (fun i wr=>∃ (k:Nat) (G':List Nat),k≤fs.length∧i = .int .i64 k∧Hid (StQ w0 vd (.pointer (some ⟨gl,0,none⟩)) vj (rl++(fs.take k).map (qI ino gen)) (n+208*k) (m+k) wr G')∧Hid (bR G w1 wr)∧Hid (∀ x∈G',x∈G∨w1.heap.size≤x)) (fun i _=>fs.length-(intOf i).toNat)
 case atStart=>exact⟨0,G,aS _,rfl,by rw[List.take_zero,List.map_nil,bA];exact f0,bR.refl _ _,fun x u => .inl u⟩
 case round =>
  obtain⟨k,G',hk,rfl,J,E,hg⟩:=hrel;by_cases M:k < fs.length
  ·have hv:=HV.out.upd iQ E.out H4.out;obtain⟨A',C',he,_,_,A⟩:=hv;injection he with g6 g7 g8;subst g6;obtain⟨b,t,rfl,d7⟩:=A (fun q=>by rw[q] at M;simp at M);clear A;have A:=d7 k M;obtain⟨o1,R,o3,o4⟩:=f1.out k M;obtain⟨O,at_,d8,c0,d,f,h,j,l,o,p,r,s,u⟩:=e9c (bT fs k);rw[u] at A o1 R o3 o4;have o1:d8=0:=o1;subst o1;have e0:wr.cell? ⟨b,t+k*13,none⟩=some (.int .i64 O):=A 0 (by omega);have e1:wr.cell? ⟨b,t+k*13+1,none⟩=some (.int .i64 at_):=A 1 (by omega);have e2:wr.cell? ⟨b,t+k*13+2,none⟩=some (.int .i64 0):=A 2 (by omega);have e3:wr.cell? ⟨b,t+k*13+3,none⟩=some (.int .i64 c0):=A 3 (by omega);have e4:wr.cell? ⟨b,t+k*13+4,none⟩=some (.int .i64 d):=A 4 (by omega);have e5:wr.cell? ⟨b,t+k*13+5,none⟩=some (.int .i64 f):=A 5 (by omega);have e6:wr.cell? ⟨b,t+k*13+6,none⟩=some (.int .i64 h):=A 6 (by omega);have e7:wr.cell? ⟨b,t+k*13+7,none⟩=some (.int .i64 j):=A 7 (by omega);have e8:wr.cell? ⟨b,t+k*13+8,none⟩=some (.int .i64 l):=A 8 (by omega);have e9:wr.cell? ⟨b,t+k*13+9,none⟩=some (.int .i64 o):=A 9 (by omega);have b3:wr.cell? ⟨b,t+k*13+10,none⟩=some (.int .i64 p):=A 10 (by omega);have b4:wr.cell? ⟨b,t+k*13+11,none⟩=some (.int .i64 r):=A 11 (by omega);have b5:wr.cell? ⟨b,t+k*13+12,none⟩=some (.int .i64 s):=A 12 (by omega);have HX:=bG u;have b6:=bG o3;have b7:=bG o4;have hB:=a9.out.upd E.out f2.out;have f5:=HF.out.upd E.out H1.out;have d1:wr.cell? ⟨w.heap.size,1,none⟩=some (.int .i64 ino):=by rw[hB.cell];rfl
   have d2:wr.cell? ⟨w.heap.size,2,none⟩=some (.int .i64 gen):=by rw[hB.cell];rfl
   have q1:(k:Int) < (fs.length:Int):=by omega
   have g9:w.heap.size < wr.heap.size:=hB.lt;clear A d7 u o3 o4 g7 g8 hB f5;rcases R with R|R
   ·have R:O=1:=R;subst R;go_wp2_with fail
    have y:bR [] wr ((wr.alloc (.cells #[.int .i64 1,.int .i64 at_,.int .i64 0,.int .i64 c0,.int .i64 d,.int .i64 f,.int .i64 h,.int .i64 j,.int .i64 l,.int .i64 o,.int .i64 p,.int .i64 r,.int .i64 s] 321)).alloc (.cells #[.int .i64 ino,.int .i64 gen,.int .i64 at_,.string ⟨#[]⟩,.int .i64 1,.int .i64 c0,.int .i64 d,.int .i64 f,.int .i64 h,.int .i64 j,.int .i64 l,.int .i64 o,.int .i64 p,.int .i64 r,.int .i64 s] 48)):=((bR.refl [] wr).alloc _).alloc _;have I:cU ((wr.alloc (.cells #[.int .i64 1,.int .i64 at_,.int .i64 0,.int .i64 c0,.int .i64 d,.int .i64 f,.int .i64 h,.int .i64 j,.int .i64 l,.int .i64 o,.int .i64 p,.int .i64 r,.int .i64 s] 321)).alloc (.cells #[.int .i64 ino,.int .i64 gen,.int .i64 at_,.string ⟨#[]⟩,.int .i64 1,.int .i64 c0,.int .i64 d,.int .i64 f,.int .i64 h,.int .i64 j,.int .i64 l,.int .i64 o,.int .i64 p,.int .i64 r,.int .i64 s] 48)) wr.heap.size 321 [.int .i64 1,.int .i64 at_,.int .i64 0,.int .i64 c0,.int .i64 d,.int .i64 f,.int .i64 h,.int .i64 j,.int .i64 l,.int .i64 o,.int .i64 p,.int .i64 r,.int .i64 s]:=(cU.new wr 321 [.int .i64 1,.int .i64 at_,.int .i64 0,.int .i64 c0,.int .i64 d,.int .i64 f,.int .i64 h,.int .i64 j,.int .i64 l,.int .i64 o,.int .i64 p,.int .i64 r,.int .i64 s]).upd ((bR.refl [] _).alloc _) (by simp);have B:cU ((wr.alloc (.cells #[.int .i64 1,.int .i64 at_,.int .i64 0,.int .i64 c0,.int .i64 d,.int .i64 f,.int .i64 h,.int .i64 j,.int .i64 l,.int .i64 o,.int .i64 p,.int .i64 r,.int .i64 s] 321)).alloc (.cells #[.int .i64 ino,.int .i64 gen,.int .i64 at_,.string ⟨#[]⟩,.int .i64 1,.int .i64 c0,.int .i64 d,.int .i64 f,.int .i64 h,.int .i64 j,.int .i64 l,.int .i64 o,.int .i64 p,.int .i64 r,.int .i64 s] 48)) (wr.heap.size+1) 48 [.int .i64 ino,.int .i64 gen,.int .i64 at_,.string ⟨#[]⟩,.int .i64 1,.int .i64 c0,.int .i64 d,.int .i64 f,.int .i64 h,.int .i64 j,.int .i64 l,.int .i64 o,.int .i64 p,.int .i64 r,.int .i64 s]:=by
     have:=cU.new (wr.alloc (.cells #[.int .i64 1,.int .i64 at_,.int .i64 0,.int .i64 c0,.int .i64 d,.int .i64 f,.int .i64 h,.int .i64 j,.int .i64 l,.int .i64 o,.int .i64 p,.int .i64 r,.int .i64 s] 321)) 48 [.int .i64 ino,.int .i64 gen,.int .i64 at_,.string ⟨#[]⟩,.int .i64 1,.int .i64 c0,.int .i64 d,.int .i64 f,.int .i64 h,.int .i64 j,.int .i64 l,.int .i64 o,.int .i64 p,.int .i64 r,.int .i64 s];simpa using this
    have f6:=bG I;generalize (wr.alloc (.cells #[.int .i64 1,.int .i64 at_,.int .i64 0,.int .i64 c0,.int .i64 d,.int .i64 f,.int .i64 h,.int .i64 j,.int .i64 l,.int .i64 o,.int .i64 p,.int .i64 r,.int .i64 s] 321)).alloc (.cells #[.int .i64 ino,.int .i64 gen,.int .i64 at_,.string ⟨#[]⟩,.int .i64 1,.int .i64 c0,.int .i64 d,.int .i64 f,.int .i64 h,.int .i64 j,.int .i64 l,.int .i64 o,.int .i64 p,.int .i64 r,.int .i64 s] 48)=w3 at *
    have S:=(HR.out.upd E.out H2.out H3.out).upd y (by simp) (by simp);have D:=(HF.out.upd E.out H1.out).upd y (by simp);have b8:=bG y;have b9:=bG D;have U:=bG B;have d0:gf < wr.heap.size:=(HF.out.upd E.out H1.out).lt;have d3:wr.heap.size+1 < w3.heap.size:=B.lt;have z0:w3.cell? ⟨gf,1,none⟩=some (.pointer (some ⟨gr,0,none⟩)):=by rw[D.cell];rfl
    have z1:w3.cell? ⟨wr.heap.size,2,none⟩=some (.int .i64 0):=by rw[I.cell];rfl
    have d4:Hid (∀ W,bR [] w3 W→Calls Tryz.prog 165 #[.pointer (some ⟨gr,0,none⟩),.int .i64 0] W fun e w'=>e = .returned (.string nmA)∧bR [] w3 w'):=fun W hW=>(c5y (S.upd hW (by simp) (by simp))).mono fun e w' ⟨h1,h2⟩=>⟨h1,hW.seq h2⟩
    clear y S D I B d1 d2 e0 e1 e2 e3 e4 e5 e6 e7 e8 e9 b3 b4 b5
    go_region_with (first
     | (go_at_call 165;(with_reducible refine(d4.out _ ?_).mono ?_);(repeat (first|exact bR.refl _ _|apply bR.drew));(rintro e w4 ⟨rfl,K⟩;have f3:=(U.out.upd K (by simp)).frozen 3;have s3:w4.cell? ⟨wr.heap.size+1,3,none⟩=some (.string ⟨#[]⟩):=(by rw[(U.out.upd K (by simp)).cell];rfl);dsimp only)))
    all_goals
     have c:=(U.out.upd K (by simp)).set_ 3 (.string nmA);have z:bR [] wr (w4.setCell ⟨wr.heap.size+1,3,none⟩ (.string nmA)):=(b8.out.seq K).setCell _ _ (.inr (by show wr.heap.size≤wr.heap.size+1;omega));have N:=(b9.out.upd K (by simp)).upd ((bR.refl [wr.heap.size+1] w4).setCell ⟨wr.heap.size+1,3,none⟩ (.string nmA) (.inl (by simp))) (by simp;omega);simp only[List.set_cons_succ,List.set_cons_zero] at c;generalize w4.setCell ⟨wr.heap.size+1,3,none⟩ (.string nmA)=w5 at *
     clear K f3 s3 d4 z0 z1;go_wp2_with fail
     have y0:w5.cell? ⟨gf,2,none⟩=some (.pointer (some ⟨gl,0,none⟩)):=by rw[N.cell];rfl
     have x0:w5.cell? ⟨wr.heap.size+1,0,none⟩=some (.int .i64 ino):=by rw[c.cell];rfl
     have x1:w5.cell? ⟨wr.heap.size+1,1,none⟩=some (.int .i64 gen):=by rw[c.cell];rfl
     have x2:w5.cell? ⟨wr.heap.size+1,2,none⟩=some (.int .i64 at_):=by rw[c.cell];rfl
     have x3:w5.cell? ⟨wr.heap.size+1,3,none⟩=some (.string ⟨#[97]⟩):=by rw[c.cell];rfl
     have x4:w5.cell? ⟨wr.heap.size+1,4,none⟩=some (.int .i64 1):=by rw[c.cell];rfl
     have x5:w5.cell? ⟨wr.heap.size+1,5,none⟩=some (.int .i64 c0):=by rw[c.cell];rfl
     have x6:w5.cell? ⟨wr.heap.size+1,6,none⟩=some (.int .i64 d):=by rw[c.cell];rfl
     have x7:w5.cell? ⟨wr.heap.size+1,7,none⟩=some (.int .i64 f):=by rw[c.cell];rfl
     have x8:w5.cell? ⟨wr.heap.size+1,8,none⟩=some (.int .i64 h):=by rw[c.cell];rfl
     have x9:w5.cell? ⟨wr.heap.size+1,9,none⟩=some (.int .i64 j):=by rw[c.cell];rfl
     have X:w5.cell? ⟨wr.heap.size+1,10,none⟩=some (.int .i64 l):=by rw[c.cell];rfl
     have Y:w5.cell? ⟨wr.heap.size+1,11,none⟩=some (.int .i64 o):=by rw[c.cell];rfl
     have Z:w5.cell? ⟨wr.heap.size+1,12,none⟩=some (.int .i64 p):=by rw[c.cell];rfl
     have a0:w5.cell? ⟨wr.heap.size+1,13,none⟩=some (.int .i64 r):=by rw[c.cell];rfl
     have a1:w5.cell? ⟨wr.heap.size+1,14,none⟩=some (.int .i64 s):=by rw[c.cell];rfl
     have C:Hid (∀ W,bR [] w5 W→Calls Tryz.prog 166 #[.pointer (some ⟨gl,0,none⟩),.agg #[.int .i64 ino,.int .i64 gen,.int .i64 at_,.string ⟨#[97]⟩,.int .i64 1,.int .i64 c0,.int .i64 d,.int .i64 f,.int .i64 h,.int .i64 j,.int .i64 l,.int .i64 o,.int .i64 p,.int .i64 r,.int .i64 s]] W fun e w'=>e = .returned (.tuple #[.bool true,.int .i64 0])∧∃ L,Hid (StQ w0 vd (.pointer (some ⟨gl,0,none⟩)) vj (rl++(fs.take (k+1)).map (qI ino gen)) (n+208*(k+1)) (m+(k+1)) w' L)∧bR G w1 w'∧∀ x∈L,x∈G∨w1.heap.size≤x):=fun W hW=>by
      have a2:=b8r J.out (z.seq hW) (by simp) (by simp);have a3:(rl++(fs.take k).map (qI ino gen)).length≤100000000:=by have:=HL.out;rw[aE,aP,aJ];omega
      refine(d2n a2 (qI ino gen ⟨1,at_,0,⟨[c0,d,f,h,j,l,o,p,r,s],rfl⟩⟩) b6.out b7.out (by have:=HM.out;omega) (by have:=HN.out;omega) a3).mono ?_;rintro e w' ⟨rfl,L,g1,g2,g3⟩;rw[bN,← HX.out,← uM ino gen fs k M] at g1;have f7:=E.out.size;have f8:=z.size;have f9:=hW.size;exact⟨rfl,L,g1,(E.out.trans (z.seq hW) (T:=G) (fun x u=>u) (by simp)).trans g2 (fun x u=>u) (fun x u=>hg.out x u),fun x u=>by
       rcases g3 x u with q|q
       ·exact hg.out x q
       ·exact .inr (by omega)⟩
     clear c z N
     go_region_with (first
      | (go_at_call 166;(with_reducible refine(C.out _ ?_).mono ?_);(repeat (first|exact bR.refl _ _|apply bR.drew));(rintro e w6 ⟨rfl,L,a7,P,Q⟩;dsimp only)))
     all_goals
      have a4:=bG P;have a5:=bG Q;clear P Q C y0 x0 x1 x2 x3 x4 x5 x6 x7 x8 x9 X Y Z a0 a1;have d5:=b2.out;go_wp2_with fail
      go_roundw
      case rel=>exact⟨k+1,L,by omega,by go_num,a7,a4,a5⟩
      case measure=>simp[intOf];omega
   ·have R:O=2:=R;subst R;go_wp2_with fail
    have y:bR [] wr ((wr.alloc (.cells #[.int .i64 2,.int .i64 at_,.int .i64 0,.int .i64 c0,.int .i64 d,.int .i64 f,.int .i64 h,.int .i64 j,.int .i64 l,.int .i64 o,.int .i64 p,.int .i64 r,.int .i64 s] 321)).alloc (.cells #[.int .i64 ino,.int .i64 gen,.int .i64 at_,.string ⟨#[]⟩,.int .i64 2,.int .i64 c0,.int .i64 d,.int .i64 f,.int .i64 h,.int .i64 j,.int .i64 l,.int .i64 o,.int .i64 p,.int .i64 r,.int .i64 s] 48)):=((bR.refl [] wr).alloc _).alloc _;have I:cU ((wr.alloc (.cells #[.int .i64 2,.int .i64 at_,.int .i64 0,.int .i64 c0,.int .i64 d,.int .i64 f,.int .i64 h,.int .i64 j,.int .i64 l,.int .i64 o,.int .i64 p,.int .i64 r,.int .i64 s] 321)).alloc (.cells #[.int .i64 ino,.int .i64 gen,.int .i64 at_,.string ⟨#[]⟩,.int .i64 2,.int .i64 c0,.int .i64 d,.int .i64 f,.int .i64 h,.int .i64 j,.int .i64 l,.int .i64 o,.int .i64 p,.int .i64 r,.int .i64 s] 48)) wr.heap.size 321 [.int .i64 2,.int .i64 at_,.int .i64 0,.int .i64 c0,.int .i64 d,.int .i64 f,.int .i64 h,.int .i64 j,.int .i64 l,.int .i64 o,.int .i64 p,.int .i64 r,.int .i64 s]:=(cU.new wr 321 [.int .i64 2,.int .i64 at_,.int .i64 0,.int .i64 c0,.int .i64 d,.int .i64 f,.int .i64 h,.int .i64 j,.int .i64 l,.int .i64 o,.int .i64 p,.int .i64 r,.int .i64 s]).upd ((bR.refl [] _).alloc _) (by simp);have B:cU ((wr.alloc (.cells #[.int .i64 2,.int .i64 at_,.int .i64 0,.int .i64 c0,.int .i64 d,.int .i64 f,.int .i64 h,.int .i64 j,.int .i64 l,.int .i64 o,.int .i64 p,.int .i64 r,.int .i64 s] 321)).alloc (.cells #[.int .i64 ino,.int .i64 gen,.int .i64 at_,.string ⟨#[]⟩,.int .i64 2,.int .i64 c0,.int .i64 d,.int .i64 f,.int .i64 h,.int .i64 j,.int .i64 l,.int .i64 o,.int .i64 p,.int .i64 r,.int .i64 s] 48)) (wr.heap.size+1) 48 [.int .i64 ino,.int .i64 gen,.int .i64 at_,.string ⟨#[]⟩,.int .i64 2,.int .i64 c0,.int .i64 d,.int .i64 f,.int .i64 h,.int .i64 j,.int .i64 l,.int .i64 o,.int .i64 p,.int .i64 r,.int .i64 s]:=by
     have:=cU.new (wr.alloc (.cells #[.int .i64 2,.int .i64 at_,.int .i64 0,.int .i64 c0,.int .i64 d,.int .i64 f,.int .i64 h,.int .i64 j,.int .i64 l,.int .i64 o,.int .i64 p,.int .i64 r,.int .i64 s] 321)) 48 [.int .i64 ino,.int .i64 gen,.int .i64 at_,.string ⟨#[]⟩,.int .i64 2,.int .i64 c0,.int .i64 d,.int .i64 f,.int .i64 h,.int .i64 j,.int .i64 l,.int .i64 o,.int .i64 p,.int .i64 r,.int .i64 s];simpa using this
    have f6:=bG I;generalize (wr.alloc (.cells #[.int .i64 2,.int .i64 at_,.int .i64 0,.int .i64 c0,.int .i64 d,.int .i64 f,.int .i64 h,.int .i64 j,.int .i64 l,.int .i64 o,.int .i64 p,.int .i64 r,.int .i64 s] 321)).alloc (.cells #[.int .i64 ino,.int .i64 gen,.int .i64 at_,.string ⟨#[]⟩,.int .i64 2,.int .i64 c0,.int .i64 d,.int .i64 f,.int .i64 h,.int .i64 j,.int .i64 l,.int .i64 o,.int .i64 p,.int .i64 r,.int .i64 s] 48)=w3 at *
    have S:=(HR.out.upd E.out H2.out H3.out).upd y (by simp) (by simp);have D:=(HF.out.upd E.out H1.out).upd y (by simp);have b8:=bG y;have b9:=bG D;have U:=bG B;have d0:gf < wr.heap.size:=(HF.out.upd E.out H1.out).lt;have d3:wr.heap.size+1 < w3.heap.size:=B.lt;have c:=B;have z:=y;have N:=D;clear y S D I B d1 d2 e0 e1 e2 e3 e4 e5 e6 e7 e8 e9 b3 b4 b5;generalize w3=w5 at *
    have y0:w5.cell? ⟨gf,2,none⟩=some (.pointer (some ⟨gl,0,none⟩)):=by rw[N.cell];rfl
    have x0:w5.cell? ⟨wr.heap.size+1,0,none⟩=some (.int .i64 ino):=by rw[c.cell];rfl
    have x1:w5.cell? ⟨wr.heap.size+1,1,none⟩=some (.int .i64 gen):=by rw[c.cell];rfl
    have x2:w5.cell? ⟨wr.heap.size+1,2,none⟩=some (.int .i64 at_):=by rw[c.cell];rfl
    have x3:w5.cell? ⟨wr.heap.size+1,3,none⟩=some (.string ⟨#[]⟩):=by rw[c.cell];rfl
    have x4:w5.cell? ⟨wr.heap.size+1,4,none⟩=some (.int .i64 2):=by rw[c.cell];rfl
    have x5:w5.cell? ⟨wr.heap.size+1,5,none⟩=some (.int .i64 c0):=by rw[c.cell];rfl
    have x6:w5.cell? ⟨wr.heap.size+1,6,none⟩=some (.int .i64 d):=by rw[c.cell];rfl
    have x7:w5.cell? ⟨wr.heap.size+1,7,none⟩=some (.int .i64 f):=by rw[c.cell];rfl
    have x8:w5.cell? ⟨wr.heap.size+1,8,none⟩=some (.int .i64 h):=by rw[c.cell];rfl
    have x9:w5.cell? ⟨wr.heap.size+1,9,none⟩=some (.int .i64 j):=by rw[c.cell];rfl
    have X:w5.cell? ⟨wr.heap.size+1,10,none⟩=some (.int .i64 l):=by rw[c.cell];rfl
    have Y:w5.cell? ⟨wr.heap.size+1,11,none⟩=some (.int .i64 o):=by rw[c.cell];rfl
    have Z:w5.cell? ⟨wr.heap.size+1,12,none⟩=some (.int .i64 p):=by rw[c.cell];rfl
    have a0:w5.cell? ⟨wr.heap.size+1,13,none⟩=some (.int .i64 r):=by rw[c.cell];rfl
    have a1:w5.cell? ⟨wr.heap.size+1,14,none⟩=some (.int .i64 s):=by rw[c.cell];rfl
    have C:Hid (∀ W,bR [] w5 W→Calls Tryz.prog 166 #[.pointer (some ⟨gl,0,none⟩),.agg #[.int .i64 ino,.int .i64 gen,.int .i64 at_,.string ⟨#[]⟩,.int .i64 2,.int .i64 c0,.int .i64 d,.int .i64 f,.int .i64 h,.int .i64 j,.int .i64 l,.int .i64 o,.int .i64 p,.int .i64 r,.int .i64 s]] W fun e w'=>e = .returned (.tuple #[.bool true,.int .i64 0])∧∃ L,Hid (StQ w0 vd (.pointer (some ⟨gl,0,none⟩)) vj (rl++(fs.take (k+1)).map (qI ino gen)) (n+208*(k+1)) (m+(k+1)) w' L)∧bR G w1 w'∧∀ x∈L,x∈G∨w1.heap.size≤x):=fun W hW=>by
     have a2:=b8r J.out (z.seq hW) (by simp) (by simp);have a3:(rl++(fs.take k).map (qI ino gen)).length≤100000000:=by have:=HL.out;rw[aE,aP,aJ];omega
     refine(d2n a2 (qI ino gen ⟨2,at_,0,⟨[c0,d,f,h,j,l,o,p,r,s],rfl⟩⟩) b6.out b7.out (by have:=HM.out;omega) (by have:=HN.out;omega) a3).mono ?_;rintro e w' ⟨rfl,L,g1,g2,g3⟩;rw[bN,← HX.out,← uM ino gen fs k M] at g1;have f7:=E.out.size;have f8:=z.size;have f9:=hW.size;exact⟨rfl,L,g1,(E.out.trans (z.seq hW) (T:=G) (fun x u=>u) (by simp)).trans g2 (fun x u=>u) (fun x u=>hg.out x u),fun x u=>by
      rcases g3 x u with q|q
      ·exact hg.out x q
      ·exact .inr (by omega)⟩
    clear c z N
    go_region_with (first
     | (go_at_call 166;(with_reducible refine(C.out _ ?_).mono ?_);(repeat (first|exact bR.refl _ _|apply bR.drew));(rintro e w6 ⟨rfl,L,a7,P,Q⟩;dsimp only)))
    all_goals
     have a4:=bG P;have a5:=bG Q;clear P Q C y0 x0 x1 x2 x3 x4 x5 x6 x7 x8 x9 X Y Z a0 a1;have d5:=b2.out;go_wp2_with fail
     go_roundw
     case rel=>exact⟨k+1,L,by omega,by go_num,a7,a4,a5⟩
     case measure=>simp[intOf];omega
  ·obtain rfl:k=fs.length:=by omega
   rw[aV] at J;have g0:∀ x∈G',x∈G∨w.heap.size≤x:=fun x u=>(hg.out x u).imp id (fun q=>by have:=f4.out;omega)
   have g4:=d9.out.trans E.out (T:=G) (by simp) (fun x u => .inl u);have J:=J.out;clear E hg;go_wp2_with fail
   go_ret;exact⟨rfl,G',J,g4,g0⟩
open Go.Eng (cR cJ TS dN cW)
def gv (gs:List Value) (i:Nat):Value:=(Eng.bT gs i).getD (.pointer none)
theorem eD {gs:List Value} {i:Nat} {v:Value} (h:Eng.bT gs i=some v):gv gs i=v:=by unfold gv;rw[h];rfl
theorem gW {α} (L:List α) (i:Nat):Eng.bT L i=L[i]?:=@Eng.lX (Eng.bQ 0 fQ) α L i
theorem b8s {gs:List Value} (vs:List Value) {i:Nat} (h:i < gs.length):gv (gs++vs) i=gv gs i:=by
 unfold gv;rw[gW,gW,bE h]
theorem dY {gs:List Value} {n:Nat} (h:gs.length=n) (vs:List Value) (j:Nat):Eng.bT (gs++vs) (n+j)=Eng.bT vs j:=by
 rw[gW,gW,List.getElem?_append_right (by omega)];congr 1;omega
theorem a9e [Eng.fP]:∀ (M P:List Value),Eng.mos (P++M) ((List.range' P.length M.length).map Eng.oW.at) M
 | [],P=>trivial
 | v::M,P=>by
  refine⟨?_,?_⟩
  ·show Eng.bT (P++v::M) P.length=some v;rw[gW];simp
  ·have:=a9e M (P++[v]);rw[bN,aE] at this;exact this
theorem qJ [Eng.fP] {L:List Value} {n:Nat} (h:L.length=n):Eng.mos L (Eng.ats n) L:=by
 have:=a9e L [];rw[List.nil_append,List.length_nil,h,← List.range_eq_range'] at this;exact this
def jC (b:Nat) (v:Value) (l:List UInt8):cR b where
 P w F:=fB bv b 5 w v l∧∀ x,F x↔x∈blk v
 up:=by
  rintro w w' F S ⟨h1,h4⟩ hu hs hb;obtain⟨L,k1,k2⟩:=rY hu;exact⟨h1.upd k1 (fun x hx hl=>hs x ((h4 x).2 hx) (k2 x hl)),h4⟩
 lt:=by
  rintro w F ⟨h1,h4⟩ x hx;exact h1.ge x ((h4 x).1 hx)
def fdO (b:Nat) (v:Value) (l:List Fd):cR b where
 P w F:=cF 13 hZ b 321 w v l∧∀ x,F x↔x∈blk v
 up:=by
  rintro w w' F S ⟨h1,h4⟩ hu hs hb;obtain⟨L,k1,k2⟩:=rY hu;exact⟨h1.upd k1 (fun x hx hl=>hs x ((h4 x).2 hx) (k2 x hl)),h4⟩
 lt:=by
  rintro w F ⟨h1,h4⟩ x hx;exact h1.ge x ((h4 x).1 hx)
theorem a4p {f:Nat→Prop} {G:List Nat} {w w':World} (h:bR G w w') (hf:∀ x,f x↔x∈G):cJ f w w':=⟨h.os,h.tape,h.output,h.size,fun k a b=>h.block k a fun q=>b ((hf k).2 q)⟩
theorem jP {f g:Nat→Prop} {w w':World} (h:cJ f w w') (k:∀ x,f x→g x):cJ g w w':=⟨h.os,h.tape,h.output,h.size,fun j a b=>h.block j a fun q=>b (k j q)⟩
section
variable {w0 : World} {ν : Nat → Int} {st : Nat → List Value → List (cR w0.heap.size)} {k n : Nat} {p0 p1 : List Value → Prop} {a1 a2 a3 a4 a5 a6 a7 a8 : List Value → cR w0.heap.size}
theorem e3m {k':Nat} {rl:List kC} {N K:Nat} (h0:∀ gs,st k gs=[Eng.dQ (p0 gs),a1 gs,StA w0 (gv gs 1) (gv gs 2) (gv gs 3) rl N K,a3 gs,a4 gs,a5 gs,a6 gs,a7 gs,a8 gs]) (h1:∀ gs,p0 gs→st k' gs=[Eng.dQ (p0 gs),a1 gs,StA w0 (gv gs 1) (gv gs 2) (gv gs 3) rl N K,a3 gs,a4 gs,a5 gs,a6 gs,a7 gs,a8 gs])
  (hp:∀ gs,p0 gs→gs.length=n) (hK:K≤4000):(Eng.d9w k k' n).Ok Tryz.prog ν st:=by
 intro w gs l m F o b p B;have b:dN (st k gs) w m:=b;rw[h0] at b;have c:=(b.at_ 0 _ rfl).1;obtain⟨G,hs,d⟩:=b.at_ 2 _ rfl
 match l,o with
 | [u0],⟨a,_⟩ =>
  rw[eD a] at hs;refine(c1y hs hK).mono ?_;rintro e r ⟨rfl,g,i,s,t⟩;rw[← eD a] at i;obtain⟨j,u,v,y⟩:=b.step1 p 2 (by simp) (A:=StA w0 (gv gs 1) (gv gs 2) (gv gs 3) rl N K) (f:=fun x=>x∈g) ⟨g,i,fun _=>Iff.rfl⟩ (a4p s d) (fun x z=>(t x z).imp (d x).2 id);refine⟨_,[],gs,j,rfl,trivial,⟨[],rfl,trivial⟩,?_,?_,v,y⟩
  ·rw[bA];exact @qJ (Eng.cA _ ν st) gs n (hp gs c)
  ·show cW (st k' gs) r j;rw[h1 gs c];exact u
 | [],h=>exact h.elim
 | _::_::_,h=>exact h.2.elim
end
section
variable {w0 : World} {ν : Nat → Int} {st : Nat → List Value → List (cR w0.heap.size)} {k n : Nat} {p0 p1 : List Value → Prop} {a1 a2 a3 a4 a5 a6 a7 a8 : List Value → cR w0.heap.size}
theorem tD {b:Nat} {p q:Prop} {l:List (cR b)} {w:World} {F:Nat→Prop} (h:cW (Eng.dQ p::l) w F) (hq:q):cW (Eng.dQ q::l) w F:=by
 obtain⟨d,c,f⟩:=h;refine⟨d,⟨fun i A a=>?_,c.ap,fun i a=>c.no i (by cases i with|zero=>cases a|succ i=>exact a)⟩,f⟩;cases i with
 | zero =>
  cases a;exact⟨hq,(c.at_ 0 _ rfl).2⟩
 | succ i=>exact c.at_ (i+1) A a
abbrev e9e:ByteArray:=⟨#[108,111,103]⟩
end
theorem c2a {α:Type} {sz:Nat} {c:α→List Value} {base base':Nat} {e:TypeId} {w:World} {v:Value} {l:List α} (h:cF sz c base e w v l) (hb:base'≤base):cF sz c base' e w v l:=by
 obtain⟨f,a⟩:=h;refine⟨f,?_⟩;rcases a with a|⟨g,b,d,i,j,r⟩
 ·exact .inl a
 ·exact .inr ⟨g,b,d,i,aL hb j,r⟩
end Go.Proofs.YthgnlfikneipiaaGreat
namespace Go.Proofs.YthgnlfikneipiaaGreat
open Go.RowKit
open Go.Eng (cR cJ cY bQ Xk EB)
def a0i (s:Md×Nat) (x:Int×Int):Md×Nat:=(s.1.step s.2 x.1,s.2+x.2.toNat)
def stp (md:Md) (pl:Nat) (l:List (Int×Int)):Md×Nat:=l.foldl a0i (md,pl)
theorem d2q (md:Md) (pl:Nat) (l:List (Int×Int)) (k:Nat) (hk:k < l.length):stp md pl (l.take (k+1))=a0i (stp md pl (l.take k)) (bT l k):=by
 unfold stp;rw[List.take_add_one,List.foldl_append,cO l k hk];simp[hk]
theorem d2r {md:Md} {pl n:Nat} {r:Int} (h:md.ok pl) (hn:1≤n∧n≤4):(md.step pl r).ok (pl+n):=by
 cases md with
 | S =>
  unfold Md.step;by_cases q:r=120
  ·simp only[if_pos q];show pl < pl+n∧pl+n≤pl+4;omega
  ·simp only[if_neg q];trivial
 | H q=>have h:q < pl∧pl≤q+4:=h;show q < pl∧pl≤q+4∧pl≤pl+n;omega
 | D q e=>have h:q < e∧e≤q+4∧e≤pl:=h;show q < e∧e≤q+4∧e≤pl+n;omega
theorem b8t:∀ (l:List (Int×Int)) (s:Md×Nat),s.1.ok s.2→(∀ x∈l,1≤x.2∧x.2≤4)→(l.foldl a0i s).1.ok (l.foldl a0i s).2∧s.2≤(l.foldl a0i s).2∧(l.foldl a0i s).2≤s.2+4*l.length
 | [],s,h,_=>⟨h,aF _,by simp⟩
 | x::l,s,h,hn=>by
  have h1:=hn x (by simp);obtain⟨i1,b,c⟩:=b8t l (a0i s x) (d2r h (by omega)) (fun y a=>hn y (by simp[a]));refine⟨i1,?_,?_⟩
  ·have:(a0i s x).2=s.2+x.2.toNat:=rfl;rw[List.foldl_cons];omega
  ·have:(a0i s x).2=s.2+x.2.toNat:=rfl;rw[List.foldl_cons,aW];omega
theorem c2b:∀ (l:List (Int×Int)) (s:Md×Nat),(∀ x∈l,1≤x.2)→((l.foldl a0i s).2:Int)=s.2+(l.map (·.2)).sum
 | [],s,_=>by simp
 | x::l,s,hn=>by
  have h1:=hn x (by simp);rw[List.foldl_cons,c2b l (a0i s x) (fun y a=>hn y (by simp[a])),List.map_cons,List.sum_cons];have:(a0i s x).2=s.2+x.2.toNat:=rfl;rw[this];omega
def SI (b:Nat) (vs vd vv:Value) (w:World) (F:Nat→Prop) (W:World) (s:Md×Nat):Prop :=
 ∃ F',(vmA b vs vd vv s.1 s.2).P W F'∧cJ F w W∧∀ x,F' x→F x∨w.heap.size≤x
section
variable {b : Nat} {w : World} {F : Nat → Prop} {vs vd vv u : Value} {md : Md} {pl : Nat} {out : List (Int × Int)}
theorem SI.new {W:World} {s:Md×Nat} (h:SI b vs vd vv w F W s) {W':World} (hu:bR [] W W'):SI b vs vd vv w F W' s:=by
 obtain⟨a,c,d,f⟩:=h;exact⟨a,(vmA b vs vd vv s.1 s.2).up c (uL hu) (fun _ _ q=>q) (fun _ q=>q.elim),a9c d (uL hu) (fun _ q=>q.elim),f⟩
theorem c5z (h:(vmA b vs vd vv md pl).P w F) (hm:md.ok pl) (hb:b≤w.heap.size) (hu:qW 2 eA w u out) (hap:∀ x∈blk u,¬ F x) (hi:IBs out) (hn:∀ x∈out,1≤x.2∧x.2≤4) (hp:pl+4*out.length≤190) :
  Calls Tryz.prog 261 #[vv,u] w fun e w'=>∃ F',e = .returned (.tuple #[])∧(vmA b vs vd vv (stp md pl out).1 (stp md pl out).2).P w' F'∧cJ F w w'∧∀ x,F' x→F x∨w.heap.size≤x:=by
 have U:Hid (SI b vs vd vv w F w (stp md pl (out.take 0))):=⟨F,by rw[List.take_zero];exact h,d7l F w,fun x y => .inl y⟩
 have Q:=(b5z h).2;have m:=bG hap;have V:=bG hm;obtain⟨a,a0,rfl,a1,a2,f⟩:=hu;have X:=bG f;have B:=bG hi;have R:=bG hn;clear h hap f hi hn hm;go_enter Tryz.func261,Tryz.ntmps261;go_wp2_with fail
 go_loopw [8] (fun i wr=>∃ k:Nat,k≤out.length∧i = .int .i64 k∧Hid (SI b vs vd vv w F wr (stp md pl (out.take k)))) (fun i _=>out.length-(intOf i).toNat)
 case atStart=>exact⟨0,aS _,rfl,U⟩
 case round =>
  obtain⟨k,hk,rfl,hs⟩:=hrel;by_cases c:k < out.length
  ·obtain⟨g,s,rfl,l⟩:=X.out (by intro h;simp[h] at c);obtain⟨F',z,t,A⟩:=hs.out;obtain⟨L,I,J⟩:=rY t;have c0:wr.cell? ⟨g,s+k*2,none⟩=some (.int .i32 (bT out k).1):=I.cell (l k c 0 (by omega)) (fun O=>m.out g (by simp[blk]) (J g O));have c1:wr.cell? ⟨g,s+k*2+1,none⟩=some (.int .i64 (bT out k).2):=I.cell (l k c 1 (by omega)) (fun O=>m.out g (by simp[blk]) (J g O));have d:bT out k∈out:=by rw[cO out k c];exact bP c
   have o:=R.out _ d;have p:=B.out _ d;obtain⟨K,o2,M⟩:=b8t (out.take k) (md,pl) V.out (fun x y=>R.out x (List.mem_of_mem_take y));have j:(out.take k).length=k:=by rw[aJ];omega
   rw[j] at M;change (stp md pl (out.take k)).1.ok (stp md pl (out.take k)).2 at K;change (stp md pl (out.take k)).2≤pl+4*k at M;have C:=bG (d2q md pl out k c);have D:Hid (∀ W,bR [] wr W→Calls Tryz.prog 287 #[vv,.int .i32 (bT out k).1,.int .i64 (bT out k).2] W fun e w'=>e = .returned (.tuple #[])∧SI b vs vd vv w F w' (stp md pl (out.take (k+1)))):=fun W hW=>by
    obtain⟨F1,k1,N,T⟩:=SI.new hs.out hW;refine(c9r k1 K (aL hb N.size) (by omega) p o).mono ?_;rintro e w2 ⟨F2,rfl,m1,m2,m3⟩;refine⟨rfl,F2,by rw[C.out];exact m1,a9c N m2 T,fun x y=>?_⟩;rcases m3 x y with q|q
    ·exact T x q
    ·exact .inr (aL N.size q)
   generalize (bT out k).1=r at *
   generalize (bT out k).2=n at *
   have Y:(k:Int) < out.length:=by omega
   have q2:(0:Int)≤k:=by omega
   have Z:IntKind.i64.wrap ((k:Int)+1)=(k:Int)+1:=by rw[aQ];omega
   have S:=(bR.refl [] wr).alloc (.cells #[.int .i32 r,.int .i64 n] 333);have RU:=bG S;clear z t A I J l hs K o2 M j d o p S;go_wp2_with fail
   (with_reducible refine(D.out _ RU.out).mono ?_)
   rintro e w2 ⟨rfl,v⟩;have E:=bG v;clear v;go_wp2_with fail
   go_roundw
   case rel=>exact⟨k+1,by omega,by go_num,E⟩
   case measure=>simp[intOf];omega
  ·obtain rfl:k=out.length:=by omega
   have Y:¬ (out.length:Int) < out.length:=by omega
   rw[aV] at hs;obtain⟨F',z,t,A⟩:=hs.out;have G:=bG (And.intro z (And.intro t A));clear z t A hs;go_wp2_with fail
   go_end0
   exact⟨rfl,F',G.out.1,G.out.2.1,G.out.2.2⟩
end
def qK (hl:List UInt8):Prop:=hl.length≤3∧(hl=[]∨(iZ hl).2=true)
theorem a3o (k:Int):∀ (f:Nat) (b:List UInt8) (i lo hi:Int),k < i+f→(gH k f b i lo hi).2=true→(i+b.length≤k)
 | 0,b,i,lo,hi,h,q=>by cases q
 | f+1,b,i,lo,hi,h,q=>by
  unfold gH at q;by_cases h1:k < i
  ·rw[if_pos h1] at q;cases q
  ·rw[if_neg h1] at q;cases b with
   | nil=>simp;omega
   | cons c l =>
    dsimp only at q;split at q
    ·cases q
    ·have:=a3o k f l (i+1) 128 191 (by omega) q;rw[aW];omega
theorem c6a {b:List UInt8} (h:(iZ b).2=true):b.length≤3:=by
 cases b with
 | nil=>cases h
 | cons c l =>
  change ((if (gC (c.toNat:Int)).1 < 0 then (0,false) else gH (gC (c.toNat:Int)).1 4 l 1 (gC (c.toNat:Int)).2.1 (gC (c.toNat:Int)).2.2:Int×Bool)).2=true at h;have a:=a2j (c.toNat:Int);rcases hq:gC (c.toNat:Int) with⟨k,d,f⟩;rw[hq] at h a;dsimp only at h a;split at h
  ·cases h
  ·have:=a3o k 4 l 1 d f (by omega) h;rw[aW];omega
theorem b3v:∀ (f:Nat) (h:List UInt8),h.length < f→h.length≤4→(∀ n∈(iF f h).1,1≤n∧n≤4)∧(iF f h).1.sum+((iF f h).2.length:Int)=h.length∧(iF f h).1.length≤h.length∧qK (iF f h).2
 | 0,h,hf,_=>by omega
 | f+1,h,hf,h4=>by
  have hL:iF (f+1) h=if h=[]∨(iZ h).2=true then ([],h) else ((if (iZ h).1=0 then 1 else (iZ h).1)::(iF f (h.drop (if (iZ h).1=0 then 1 else (iZ h).1).toNat)).1,(iF f (h.drop (if (iZ h).1=0 then 1 else (iZ h).1).toNat)).2):=rfl
  by_cases a:h=[]∨(iZ h).2=true
  ·rw[hL,if_pos a];refine⟨fun n d=>by(cases d),by simp,by simp,And.intro ?_ a⟩;rcases a with rfl|a
   ·simp
   ·exact c6a a
  ·rw[hL,if_neg a];have b:h≠[]:=fun q=>a (.inl q)
   have g:0 < h.length:=List.length_pos_iff.2 b;have i:=c0z h;generalize d:(if (iZ h).1=0 then 1 else (iZ h).1)=n;have l:1≤n∧n≤h.length:=by rw[← d];split<;>omega
   have hd:(h.drop n.toNat).length=h.length-n.toNat:=aH;obtain⟨i1,o,p,j⟩:=b3v f (h.drop n.toNat) (by omega) (by omega);refine⟨fun m c=>?_,?_,?_,j⟩
   ·rcases aG.1 c with rfl|c
    ·omega
    ·exact i1 m c
   ·dsimp only;rw[List.sum_cons];omega
   ·dsimp only;rw[aW];omega
def ScQ (b:Nat) (vs:Value) (hl:List UInt8) (md:Md) (pl:Nat) (w:World) (F:Nat→Prop) (gd:Nat) (vv:Value) (F1:Nat→Prop):Prop :=
 qX w gd hl∧(vmA b vs (.pointer (some ⟨gd,0,none⟩)) vv md pl).P w F1∧b≤gd∧¬ F1 gd∧∀ x,F x↔x=gd∨F1 x
def vL (b:Nat) (vs:Value) (hl:List UInt8) (md:Md) (pl:Nat):cR b where
 P w F:=∃ gd vv F1,ScQ b vs hl md pl w F gd vv F1
 up:=by
  rintro w w' F S ⟨gd,vv,F1,h3,h4,h5,h7,h8⟩ hu hs hb;obtain⟨L,l1,l2⟩:=rY hu;exact⟨gd,vv,F1,h3.upd l1 (fun q=>hs gd ((h8 gd).2 (.inl rfl)) (l2 gd q)),(vmA b vs _ vv md pl).up h4 hu (fun x hx=>hs x ((h8 x).2 (.inr hx))) hb,h5,h7,h8⟩
 lt:=by
  rintro w F ⟨gd,vv,F1,h3,h4,h5,h7,h8⟩ x hx;rcases (h8 x).1 hx with rfl|q
  ·obtain⟨A,-,-,-,hB⟩:=h3.ex;exact⟨h5,hB.lt⟩
  ·exact(vmA b vs _ vv md pl).lt h4 x q
section
variable {b : Nat} {w : World} {F : Nat → Prop} {vs : Value} {hl : List UInt8} {md : Md} {pl : Nat}
def e0g (b:Nat) (vs:Value) (n:Nat) (w:World) (F:Nat→Prop) (w':World):Prop :=
 ∃ F' hl' md' pl',(vL b vs hl' md' pl').P w' F'∧qK hl'∧md'.ok pl'∧pl'+hl'.length=n∧cJ F w w'∧∀ x,F' x→F x∨w.heap.size≤x
theorem b3w (h:(vL b vs hl md pl).P w F) (hb:b≤w.heap.size) (hh:qK hl) (hm:md.ok pl) (hp:pl≤150) (c:UInt8) :
  Calls Tryz.prog 221 #[vs,.int .u8 c.toNat] w fun e w'=>e = .returned (.tuple #[])∧e0g b vs (pl+hl.length+1) w F w':=by
 obtain⟨a,i,F1,K,C,M,p,s⟩:=h;have a1:a < w.heap.size:=by obtain⟨A,-,-,-,hB⟩:=K.ex;exact hB.lt
 obtain⟨⟨g,rfl,N,t⟩,a0⟩:=b5z C;have X:g≠a:=fun q=>p (by rw[← q];exact t)
 have Y:=bG (show w.cell? ⟨g,0,none⟩=some (.pointer (some ⟨a,0,none⟩)) from N.cell 0);have Z:=bG (show w.cell? ⟨g,1,none⟩=some i from N.cell 1);have G:Hid (∀ W,bR [] w W→Calls Tryz.prog 262 #[.pointer (some ⟨a,0,none⟩),.int .u8 c.toNat] W fun e w'=>∃ u,e = .returned u∧Hid (∃ out d,cF 2 eA w.heap.size 333 w' u out∧IBs out∧(∀ x∈out,1≤x.2∧x.2≤4)∧out.length≤4∧(out.map (·.2)).sum+(d.length:Int)=hl.length+1∧qK d∧qX w' a d)∧bR [a] w w'):=fun W hW=>by
  refine(b1s W a hl c (K.upd hW (by simp)) hh.1).mono ?_;rintro e w' ⟨v,rfl,out,D,y,E,k4,k5,Q⟩;have l:(hl++[c]).length=hl.length+1:=by simp
  have a2:=hh.1;obtain⟨i1,i2,i3,i4⟩:=b3v 5 (hl++[c]) (by omega) (by omega);refine⟨v,rfl,⟨out,_,c2a D hW.size,k4,fun x f=>i1 _ (by rw[← y];exact List.mem_map_of_mem f),by rw[← y,aP] at i3;omega,by rw[y,i2,l];simp,i4,k5⟩,(show bR [a] w W from hW.mono (by simp)).trans Q (fun x f=>f) (fun x f => .inl f)⟩
 have I:Hid (∀ W1 W u,Hid (∃ out d,cF 2 eA w.heap.size 333 W1 u out∧IBs out∧(∀ x∈out,1≤x.2∧x.2≤4)∧out.length≤4∧(out.map (·.2)).sum+(d.length:Int)=hl.length+1∧qK d∧qX W1 a d)→bR [a] w W1→bR [] W1 W→Calls Tryz.prog 261 #[i,u] W fun e w'=>e = .returned (.tuple #[])∧Hid (e0g b (.pointer (some ⟨g,0,none⟩)) (pl+hl.length+1) w F w')∧w'.cell? ⟨g,0,none⟩=some (.pointer (some ⟨a,0,none⟩))∧w'.cell? ⟨g,1,none⟩=some i):=fun W1 W u hP V j=>by
  obtain⟨out,d,D,y,E,k4,k5,Q,k7⟩:=hP.out;have B:=V.trans (T:=[a]) j (fun x f=>f) (by simp);have g4:=(vmA b (.pointer (some ⟨g,0,none⟩)) (.pointer (some ⟨a,0,none⟩)) i md pl).up C (a3m B) (fun x f q=>by rw[List.mem_singleton.1 q] at f;exact p f) (fun x q=>by rw[List.mem_singleton.1 q];exact M);have ko:=D.upd j (by simp);refine(c5z (out:=out) g4 hm (aL hb B.size) (ko.rd gI) (fun x f q=>by have:=(D.ge x f).1;have:=((vmA b (.pointer (some ⟨g,0,none⟩)) (.pointer (some ⟨a,0,none⟩)) i md pl).lt C x q).2;omega) y E (by omega)).mono ?_;rintro e w' ⟨R,rfl,m1,m2,m3⟩;obtain⟨L,l1,l2⟩:=rY m2;have n2:a∉L:=fun q=>p (l2 a q)
  have J:=B.size;have nF:¬ R a:=fun q=>by
   rcases m3 a q with r|r
   ·exact p r
   ·omega
  have m:=c2b out (md,pl) (fun x f=>(E x f).1);obtain⟨⟨S,z,b1,-⟩,-⟩:=b5z m1;have e2:g=S:=by injection z with z;injection z with z;injection z
  subst e2;refine⟨rfl,⟨fun x=>x=a∨R x,d,(stp md pl out).1,(stp md pl out).2,⟨a,i,R,(k7.upd j (by simp)).upd l1 n2,m1,M,nF,fun x=>Iff.rfl⟩,Q,(b8t out (md,pl) hm E).1,?_,?_,fun x f=>?_⟩,b1.cell 0,b1.cell 1⟩
  ·have:((stp md pl out).2:Int)=pl+(out.map (·.2)).sum:=m;omega
  ·refine a9c (O:=F) (O1:=F1) ?_ m2 ?_
   ·exact jP (a3m B) (fun x q=>(s x).2 (.inl (List.mem_singleton.1 q)))
   ·exact fun x q => .inl ((s x).2 (.inr q))
  ·rcases f with rfl|q
   ·exact .inl ((s _).2 (.inl rfl))
   ·rcases m3 x q with r|r
    ·exact .inl ((s x).2 (.inr r))
    ·exact .inr (aL J r)
 have o:=bG X;have c0:=Y.out;have c1:=Z.out;clear N K C M X p s hh hm hb t;go_enter Tryz.func221,Tryz.ntmps221
 go_region_held3 (fun W=>W.cell? ⟨g,0,none⟩=some (.pointer (some ⟨a,0,none⟩))∧W.cell? ⟨g,1,none⟩=some i) (first|go_keep|exact⟨U.cell Y.out (by simpa using o.out),U.cell Z.out (by simpa using o.out)⟩|exact gl.2) (first
  | (go_at_call 262;(with_reducible refine(G.out _ ?_).mono ?_);(repeat (first|exact bR.refl _ _|apply bR.drew|apply bR.drewN));(rintro _ W1 ⟨u1,rfl,pb,U⟩;dsimp only))
  | (go_at_call 261;(with_reducible refine(I.out _ _ _ pb U ?_).mono ?_);(repeat (first|exact bR.refl _ _|apply bR.drew|apply bR.drewN));(rintro _ W2 ⟨rfl,gl⟩;dsimp only)))
 all_goals
  go_wp2_with fail
  go_end0
  exact⟨rfl,gl.1.out⟩
end
end Go.Proofs.YthgnlfikneipiaaGreat
namespace Go.Proofs.YthgnlfikneipiaaGreat
open Go.RowKit
open Go.Eng (cR cJ cY bQ Xk EB dN cW)
def uB (b:Nat) (v:Value) (hl:List UInt8):cR b where
 P w F:=∃ g,v = .pointer (some ⟨g,0,none⟩)∧qX w g hl∧b≤g∧∀ x,F x↔x=g
 up:=by
  rintro w w' F S ⟨g,h1,h2,h3,h4⟩ hu hs hb;obtain⟨L,l1,l2⟩:=rY hu;exact⟨g,h1,h2.upd l1 (fun q=>hs g ((h4 g).2 rfl) (l2 g q)),h3,h4⟩
 lt:=by
  rintro w F ⟨g,h1,h2,h3,h4⟩ x hx;obtain⟨A,-,-,-,hB⟩:=h2.ex;have:=(h4 x).1 hx;subst this;exact⟨h3,hB.lt⟩
def kQ (b:Nat) (hl:List UInt8):Nat→List Value→List (cR b)
 | 0,[v]=>[uB b v hl,Eng.dZ]
 | 1,[v,u]=>[uB b v hl,jC b u hl]
 | 2,[v,d]=>[uB b v hl,uB b d hl]
 | 3,[v]=>[uB b v hl,Eng.dZ]
 | _,_=>[Eng.dQ False]
section
variable {b : Nat} {hl : List UInt8} {ν : Nat → Int}
theorem tE {k:Nat} {gs:List Value} {w:World} {fs:Nat→Nat→Prop} (h:dN (kQ b hl k gs) w fs):(∃ v,gs=[v]∧(k=0∨k=3))∨∃ v u,gs=[v,u]∧(k=1∨k=2):=by
 match k,gs,h with
 | 0,[v],_=>exact .inl ⟨v,rfl,.inl rfl⟩
 | 3,[v],_=>exact .inl ⟨v,rfl,.inr rfl⟩
 | 1,[v,u],_=>exact .inr ⟨v,u,rfl,.inl rfl⟩
 | 2,[v,u],_=>exact .inr ⟨v,u,rfl,.inr rfl⟩
 | 0,[],h=>exact(cL h).elim
 | 0,_::_::_,h=>exact(cL h).elim
 | 1,[],h=>exact(cL h).elim
 | 1,[_],h=>exact(cL h).elim
 | 1,_::_::_::_,h=>exact(cL h).elim
 | 2,[],h=>exact(cL h).elim
 | 2,[_],h=>exact(cL h).elim
 | 2,_::_::_::_,h=>exact(cL h).elim
 | 3,[],h=>exact(cL h).elim
 | 3,_::_::_,h=>exact(cL h).elim
 | _+4,_,h=>exact(cL h).elim
theorem e3n {j:Nat} (hj:hl.length=j):(Eng.d9x j).Ok Tryz.prog ν (kQ b hl):=by
 intro w o p r F s c t y;have c:dN (kQ b hl 0 o) w r:=c;rcases tE c with⟨v,rfl,-⟩|⟨v,u,rfl,h⟩
 ·obtain⟨g,rfl,hd,G,l⟩:=c.at_ 0 _ rfl
  match p,s with
  | [u0],⟨a,_⟩ =>
   have a:some (Value.pointer (some ⟨g,0,none⟩))=some u0:=a;cases a;refine(zS w g hl hd).mono ?_;rintro e I ⟨u,rfl,i,z⟩;obtain⟨B,C,D,E⟩:=c.step1 t 1 (by simp[kQ]) (A:=jC b u hl) (f:=fun x=>x∈blk u) ⟨i.base_le y,fun _=>Iff.rfl⟩ (a9d z) (fun x l => .inr (i.ge x l).1);obtain⟨m,d,rfl,-⟩:=i.rd;exact⟨_,[.slice m hl.length d],[.pointer (some ⟨g,0,none⟩),.slice m hl.length d],B,rfl,⟨⟨_,_,_,rfl,by show (hl.length:Int)=(j:Int)+0;omega⟩,trivial⟩,rfl,⟨rfl,rfl,trivial⟩,C,D,E⟩
  | [],h=>exact h.elim
  | _::_::_,h=>exact h.2.elim
 ·omega
theorem e9f (hh:qK hl):Eng.f1b.Ok Tryz.prog ν (kQ b hl):=by
 intro w j l m F o c p r;have c:dN (kQ b hl 1 j) w m:=c;rcases tE c with⟨v,rfl,h⟩|⟨v,u,rfl,h⟩
 ·omega
 ·obtain⟨s,d⟩:=c.at_ 1 _ rfl
  match l,o with
  | [u0],⟨a,_⟩ =>
   have a:some u=some u0:=a;cases a;refine(yL w u hl s.rd (by have:=hh.1;omega) hh.2).mono ?_;rintro e E ⟨g,rfl,i,t,y⟩;obtain⟨z,B,C,D⟩:=c.step1 p 1 (by simp[kQ]) (A:=uB b (.pointer (some ⟨g,0,none⟩)) hl) (f:=fun x=>x=g) ⟨g,rfl,t,aL r i,fun _=>Iff.rfl⟩ (a9d y) (fun x d=>by subst d;exact .inr i);exact⟨_,[.pointer (some ⟨g,0,none⟩)],[v,.pointer (some ⟨g,0,none⟩)],z,rfl,⟨⟨g,rfl⟩,trivial⟩,⟨[.pointer (some ⟨g,0,none⟩),.int .i64 0],rfl,⟨rfl,rfl,trivial⟩⟩,⟨rfl,rfl,trivial⟩,B,C,D⟩
  | [],h=>exact h.elim
  | _::_::_,h=>exact h.2.elim
theorem d2t:∀ j,(List.replicate j nR).flatMap eA=(List.replicate j [Value.int .i32 65533,.int .i64 1]).flatten
 | 0=>rfl
 | j+1=>by rw[List.replicate_succ,bM,d2t j,List.replicate_succ,List.flatten_cons]
theorem b3x [Eng.fP] (gs:List Value):∀ j,Eng.mos gs (Eng.e1v j) ((List.replicate j nR).flatMap eA)
 | 0=>trivial
 | j+1=>by rw[List.replicate_succ,bM];exact⟨rfl,rfl,b3x gs j⟩
theorem e3o {j:Nat} (hj:hl.length=j):(Eng.a6b j).Ok Tryz.prog ν (kQ b hl):=by
 have S:(Eng.a6b j).f=290:=by cases j<;>rfl
 have T:(Eng.a6b j).k=2:=by cases j<;>rfl
 have B:(Eng.a6b j).k'=3:=by cases j<;>rfl
 have C:(Eng.a6b j).args=[.s (.at 1)]:=by cases j<;>rfl
 intro w gs V l F O m Q hb;rw[T] at m;rw[C] at O;rcases tE m with⟨v,rfl,h⟩|⟨v,u,rfl,h⟩
 ·omega
 ·obtain⟨g,rfl,hd,hg,W⟩:=m.at_ 1 _ rfl
  match V,O with
  | [u0],⟨a,_⟩ =>
   have a:some (Value.pointer (some ⟨g,0,none⟩))=some u0:=a;cases a;rw[S,B];refine(b7m w g hl hd).mono ?_;rintro e E ⟨r,rfl,y,X⟩;have K:cJ (l 1) w E:=jP (a3m X) (fun x q=>(W x).2 (List.mem_singleton.1 q));obtain⟨Y,G,Z,e3,e4⟩:=(uB b v hl).up (show (uB b v hl).P w (l 0) from m.at_ 0 _ rfl) K (fun x h0 z=>by have:=m.ap 0 1 x h0 z;omega) (fun x z=>(m.lt 1 x z).1);have L:cW (kQ b hl 3 [v]) E (l 0):=⟨fun i x=>i=0∧l 0 x,⟨fun i A p=>(by
    match i with
    | 0=>cases p;exact⟨Y,G,Z,e3,fun x=>by rw[← e4];simp⟩
    | 1=>cases p;exact fun x q=>by omega
    | _+2=>cases p),fun i j x z h2=>(by omega),fun i p x q=>(by rw[q.1] at p;cases p)⟩,fun x=>⟨fun q=>⟨0,rfl,q⟩,fun ⟨_,_,q⟩=>q⟩⟩
   have M:cJ F w E:=jP K (fun x q=>(Q x).2 ⟨1,q⟩);have N:∀ x,l 0 x→F x∨w.heap.size≤x:=fun x q => .inl ((Q x).2 ⟨0,q⟩)
   rw[hj] at y;cases j with
   | zero =>
    obtain⟨a0,d,G,-⟩:=y.rd gI;exact⟨r,[r],[v],l 0,rfl,⟨⟨a0,0,d,G,rfl⟩,trivial⟩,rfl,⟨rfl,trivial⟩,L,M,N⟩
   | succ j =>
    have U:=y.ge;obtain⟨o1,o2⟩:=y;rcases o2 with⟨rfl,hn⟩|⟨R,d,o,rfl,I,t,hc,hm,J,ht⟩
    ·simp at hn
    ·have c:(List.replicate (j+1) nR).length=j+1:=List.length_replicate;have D:((List.replicate (j+1) nR).flatMap eA).length=(j+1)*2:=by rw[dH gI,c]
     refine⟨_,[],[v],l 0,rfl,trivial,⟨R,(List.replicate (j+1) nR).flatMap eA,o.toList.drop ((j+1)*2),d,by rw[c],.inr I,(Array.getElem?_eq_some_iff.1 t).1,fun q=>?_,@b3x (Eng.cA b ν (kQ b hl)) _ _,?_,?_,hm,by decide⟩,⟨rfl,trivial⟩,L,M,N⟩
     ·have:=(m.lt 0 R q).2;omega
     ·have e:(List.replicate (j+1) nR).flatMap eA=o.toList.take ((j+1)*2):=by rw[← ht,c]
      rw[e,List.take_append_drop];simpa using t
     ·have e:o.toList.length=d*2:=by rw[bD];exact J
      rw[c] at hc;rw[D,aH,e];omega
  | [],h=>exact h.elim
  | _::_::_,h=>exact h.2.elim
end
abbrev LsV:=Option (Nat×Nat)
def Md.ends (md:Md) (pl:Nat):LsV :=
 match md with
 | .S=>none
 | .H q=>some (q,pl)
 | .D q e=>some (q,e)
def jD:LsV→List Value
 | none=>[.bool false,.int .i64 (-1),.int .i64 (-1),.int .i64 (-1),.int .i64 (-1),.int .i64 (-1),.int .i64 (-1),.int .i64 (-1),.int .i64 (-1),.int .i64 (-1),.int .i64 (-1),.slice none 0 0]
 | some (q,e)=>[.bool true,.int .i64 (q:Int),.int .i64 (e:Int),.int .i64 (-1),.int .i64 (-1),.int .i64 (-1),.int .i64 (-1),.int .i64 (-1),.int .i64 (-1),.int .i64 (-1),.int .i64 (-1),.slice none 0 0]
theorem zZ (x:LsV):(jD x).length=12:=by cases x<;>rfl
theorem e3p {b:Nat} {ν:Nat→Int} {w:World} {F:Nat→Prop} {u:Value} {cs:List Eng.AV} {f:LsV} (hA:(cY b ν [(1,.gro 290 12 cs)] 2 [.slc 1 0 1] [u]).P w F) (hc:∀ G:Eng.GM,@Eng.dG (bQ b ν) G cs=some (jD f)):cF 12 jD b 290 w u [f]∧∀ x∈blk u,F x:=by
 letI:Eng.fP:=bQ b ν
 obtain⟨G,m,E,o,p⟩:=hA;obtain⟨x,s,d,I,t⟩:=m.bs 1 _ rfl trivial;obtain⟨⟨J,v⟩,K,L,c,h,A,i,B⟩:=t;rw[hc G] at h;cases h;obtain⟨M,r,C,N,D⟩:=Eng.bS.1 o;obtain⟨y,j,rfl⟩:=aB.1 (show (G 1).map _=_ from C);rw[s] at j;cases j;cases D;have a:=zZ f;refine⟨⟨by simp[a],.inr ⟨x.g,x.cap,(jD f++c).toArray,by rw[v];simp,(p _ d).1,A,?_,B,by rw[List.size_toArray,aE,i],?_⟩⟩,fun z l=>?_⟩
 ·have:12+c.length=x.cap*12:=by rw[← i,a]
  show 1≤x.cap;omega
 ·show List.take (1*12) (jD f++c)=List.flatMap jD [f];rw[List.take_left' (by rw[a])];simp
 ·simp[blk] at l;rw[l];exact d
section
variable {b : Nat} {w : World} {F : Nat → Prop} {vs : Value} {hl : List UInt8} {md : Md} {pl : Nat}
theorem jI {b pl q e:Nat} (h1:pl≤200) (h2:q≤200) (h3:e≤200):@Eng.BD (bQ b (iD pl q e 0 0)) Eng.bdS:=by
 intro i p h
 match i with
 | 0=>cases h;exact⟨by show (0:Int)≤(pl:Int);omega,by show (pl:Int)≤200;omega⟩
 | 1=>cases h;exact⟨by show (0:Int)≤(q:Int);omega,by show (q:Int)≤200;omega⟩
 | 2=>cases h;exact⟨by show (0:Int)≤(e:Int);omega,by show (e:Int)≤200;omega⟩
 | _+3=>cases h
def c2c (b:Nat) (vs:Value) (hl:List UInt8) (md:Md) (pl:Nat) (w:World) (F:Nat→Prop) (e:Ending) (w':World):Prop :=
 ∃ u F',e = .returned u∧(vL b vs hl md pl).P w' F'∧cF 12 jD b 290 w' u [md.ends pl]∧cJ F w w'∧(∀ x,F' x→F x∨w.heap.size≤x)∧∀ x∈blk u,¬ F' x∧(F x∨w.heap.size≤x)
theorem oE {k:Xk} {j n:Nat} {cs:List Eng.AV} {q e:Nat} {F1:Nat→Prop} {gd:Nat} {vv:Value} (hj:hl.length=j) (hq:q=md.q) (he:e=md.e)
  (ht:Eng.eX (Eng.call (Eng.oL Eng.bdS (Eng.hks Eng.bdS (Eng.c1k j))) 300 264 [.ptr 1 0] ⟨[],(0,.gho 0 [.ptr 2 0])::Eng.fF k,13,[],[]⟩) (.slc n 0 1) 3 [.ptr 2 0] [⟨List.range 13,Eng.fF k,13,Eng.rX,Eng.rX⟩,⟨[0,n],[(1,.gro 290 12 cs)],2,[.slc 1 0 1],[.slc n 0 1]⟩]=true)
  (hk:c4f md k) (hA:(cY b (iD pl q e 0 0) (Eng.fF k) 13 Eng.rX [vs,.pointer (some ⟨gd,0,none⟩),vv]).P w F1) (hd:qX w gd hl) (hgd:b≤gd) (hng:¬ F1 gd) (hF:∀ x,F x↔x=gd∨F1 x) (hb:b≤w.heap.size) (hh:qK hl) (hbd:@Eng.BD (bQ b (iD pl q e 0 0)) Eng.bdS)
  (hc:∀ G:Eng.GM,@Eng.dG (bQ b (iD pl q e 0 0)) G cs=some (jD (md.ends pl))) :
  Calls Tryz.prog 264 #[vs] w (c2c b vs hl md pl w F):=by
 subst hq;subst he;have d:(uB b (.pointer (some ⟨gd,0,none⟩)) hl).P w (fun x=>x=gd):=⟨gd,rfl,hd,hgd,fun _=>Iff.rfl⟩
 have f:cW (kQ b hl 0 [.pointer (some ⟨gd,0,none⟩)]++[cY b (iD pl md.q md.e 0 0) (Eng.fF k) 13 Eng.rX [vs,.pointer (some ⟨gd,0,none⟩),vv]]) w F:=by
  have K:cW [uB b (.pointer (some ⟨gd,0,none⟩)) hl,Eng.dZ] w (fun x=>x=gd):=Eng.cW.join (l:=[_]) (m:=[_]) (F1:=fun x=>x=gd) (F2:=fun _=>False) (Eng.cW.one.2 d) (Eng.cW.one.2 fun x q=>q.elim) (fun _ _ q=>q.elim) (fun x=>⟨.inl,fun q=>q.elim id False.elim⟩);exact Eng.cW.join K (Eng.cW.one.2 hA) (fun x c q=>by subst c;exact hng q) hF
 have L:@Eng.sL (Eng.cA b (iD pl md.q md.e 0 0) (kQ b hl)) Tryz.prog (Eng.oL Eng.bdS (Eng.hks Eng.bdS (Eng.c1k j))):=@Eng.kE (Eng.cA b (iD pl md.q md.e 0 0) (kQ b hl)) Eng.bdS hbd _ (Eng.lG hbd (by
  intro T hT;simp only[Eng.c1k,aG,bF,or_false] at hT;rcases hT with rfl|rfl|rfl
  ·exact e3n hj
  ·exact e9f hh
  ·exact e3o hj))
 have M:Eng.cK (Eng.fF k) 0=none:=by cases k<;>rfl
 refine(Eng.iT (us:=[vs]) L ht (by omega) M hb f (fun G J=>⟨?_,?_⟩)).mono ?_
 ·exact gN (dW J).2.1
 ·exact⟨@Eng.cZ (bQ b _) _ _ _ (dW J).1,trivial⟩
 ·rintro e w' ⟨u,s,G,rfl,o,y,⟨F0,k3⟩,O,Q,G0,R,S⟩;have v:=@Eng.cT (bQ b (iD pl md.q md.e 0 0)) _ _ R _ _ S;obtain⟨t1,U,t3⟩:=dW v;have i:s=[.pointer (some ⟨gd,0,none⟩)]:=by
   have:=gN (b:=b) (ν:=iD pl md.q md.e 0 0) U;rw[this] at y;exact(aK y).symm
  subst i;have o:@Eng.dn (bQ b (iD pl md.q md.e 0 0)) G (.slc n 0 1)=some u:=o;obtain⟨F',V,A⟩:=O [[vs,.pointer (some ⟨gd,0,none⟩),vv],[u]] ⟨v,gN o,trivial⟩;obtain⟨W,X2,X,Y,B,C⟩:=V.split;obtain⟨D,Y2,r,Z,c3,h⟩:=Eng.cW.split (l:=[_]) (m:=[_]) Y;obtain⟨D1,D2,d1,d2,d3,E⟩:=Eng.cW.split (l:=[_]) (m:=[_]) X;obtain⟨g',g,e2,e3,I⟩:=Eng.cW.one.1 d1;have N:gd=g':=by injection g with g;injection g with g;injection g
  subst N;have p:∀ x,¬ D2 x:=Eng.cW.one.1 d2;have r:=Eng.cW.one.1 r;obtain⟨o1,t⟩:=e3p (Eng.cW.one.1 Z) hc;have a:∀ x,W x↔x=gd:=fun x=>⟨fun q=>((E x).1 q).elim (I x).1 (fun z=>absurd z (p x)),fun q=>(E x).2 (.inl ((I x).2 q))⟩
  refine⟨u,fun x=>x=gd∨D x,rfl,⟨gd,vv,D,e2,⟨k,hk,r⟩,hgd,fun q=>B gd ((a gd).2 rfl) ((h gd).2 (.inl q)),fun x=>Iff.rfl⟩,o1,Q,fun x c=>A x ((C x).2 ?_),fun x c=>⟨fun q=>?_,?_⟩⟩
  ·rcases c with q|q
   ·exact .inl ((a x).2 q)
   ·exact .inr ((h x).2 (.inl q))
  ·rcases q with q|q
   ·exact B x ((a x).2 q) ((h x).2 (.inr (t x c)))
   ·exact c3 x q (t x c)
  ·exact A x ((C x).2 (.inr ((h x).2 (.inr (t x c)))))
theorem b3y {p:Nat→Bool} (h:(List.range 4).all p=true) {j:Nat} (hj:j≤3):p j=true:=by
 rw[bB] at h;exact h j (List.mem_range.2 (by omega))
theorem b3z (h:(vL b vs hl md pl).P w F) (hb:b≤w.heap.size) (hh:qK hl) (hm:md.ok pl) (hp:pl≤190) :
  Calls Tryz.prog 264 #[vs] w (c2c b vs hl md pl w F):=by
 obtain⟨t,u,v,d,⟨k,a,f⟩,g,i,j⟩:=h;have c:=hh.1;have r:∀ q e:Nat,@Eng.eK.val (bQ b (iD pl q e 0 0)) ⟨0,[(0,1)]⟩=pl:=fun q e=>by show (0:Int)+(1*(pl:Int)+0)=pl;omega
 have p:∀ q e:Nat,@Eng.eK.val (bQ b (iD pl q e 0 0)) ⟨0,[(1,1)]⟩=q:=fun q e=>by show (0:Int)+(1*(q:Int)+0)=q;omega
 have s:∀ q e:Nat,@Eng.eK.val (bQ b (iD pl q e 0 0)) ⟨0,[(2,1)]⟩=e:=fun q e=>by show (0:Int)+(1*(e:Int)+0)=e;omega
 cases md with
 | S =>
  cases k with
  | S0=>exact oE rfl rfl rfl (b3y Eng.e1x c) a f d g i j hb hh (jI (by omega) (by show 0≤200;omega) (by show 0≤200;omega)) (fun G=>rfl)
  | S1=>exact oE rfl rfl rfl (b3y Eng.e1y c) a f d g i j hb hh (jI (by omega) (by show 0≤200;omega) (by show 0≤200;omega)) (fun G=>rfl)
  | S2=>exact oE rfl rfl rfl (b3y Eng.e1z c) a f d g i j hb hh (jI (by omega) (by show 0≤200;omega) (by show 0≤200;omega)) (fun G=>rfl)
  | _=>exact a.elim
 | H q =>
  have hm:q < pl∧pl≤q+4:=hm;have l:∀ G:Eng.GM,@Eng.dG (bQ b (iD pl q 0 0 0)) G (.bool true :: .sym .i64 ⟨0,[(1,1)]⟩ :: .sym .i64 ⟨0,[(0,1)]⟩::(Eng.n6s [-1,-1,-1,-1,-1,-1,-1,-1]++[.nils]))=some (jD (some (q,pl))):=fun G=>by
   have m:@Eng.dn (bQ b (iD pl q 0 0 0)) G (.sym .i64 ⟨0,[(1,1)]⟩)=some (.int .i64 (q:Int)):=by show some (Value.int .i64 _)=_;rw[p]
   have o:@Eng.dn (bQ b (iD pl q 0 0 0)) G (.sym .i64 ⟨0,[(0,1)]⟩)=some (.int .i64 (pl:Int)):=by show some (Value.int .i64 _)=_;rw[r]
   exact(@Eng.bS (bQ b _) _ _ _ _).2 ⟨_,_,rfl,(@Eng.bS (bQ b _) _ _ _ _).2 ⟨_,_,m,(@Eng.bS (bQ b _) _ _ _ _).2 ⟨_,_,o,rfl,rfl⟩,rfl⟩,rfl⟩
  cases k with
  | H=>exact oE rfl rfl rfl (b3y Eng.e6m c) a f d g i j hb hh (jI (by omega) (by show q≤200;omega) (by show 0≤200;omega)) l
  | H2=>exact oE rfl rfl rfl (b3y Eng.e2a c) a f d g i j hb hh (jI (by omega) (by show q≤200;omega) (by show 0≤200;omega)) l
  | _=>exact a.elim
 | D q e =>
  have hm:q < e∧e≤q+4∧e≤pl:=hm;have l:∀ G:Eng.GM,@Eng.dG (bQ b (iD pl q e 0 0)) G (.bool true :: .sym .i64 ⟨0,[(1,1)]⟩ :: .sym .i64 ⟨0,[(2,1)]⟩::(Eng.n6s [-1,-1,-1,-1,-1,-1,-1,-1]++[.nils]))=some (jD (some (q,e))):=fun G=>by
   have m:@Eng.dn (bQ b (iD pl q e 0 0)) G (.sym .i64 ⟨0,[(1,1)]⟩)=some (.int .i64 (q:Int)):=by show some (Value.int .i64 _)=_;rw[p]
   have o:@Eng.dn (bQ b (iD pl q e 0 0)) G (.sym .i64 ⟨0,[(2,1)]⟩)=some (.int .i64 (e:Int)):=by show some (Value.int .i64 _)=_;rw[s]
   exact(@Eng.bS (bQ b _) _ _ _ _).2 ⟨_,_,rfl,(@Eng.bS (bQ b _) _ _ _ _).2 ⟨_,_,m,(@Eng.bS (bQ b _) _ _ _ _).2 ⟨_,_,o,rfl,rfl⟩,rfl⟩,rfl⟩
  cases k with
  | D=>exact oE rfl rfl rfl (b3y Eng.e6n c) a f d g i j hb hh (jI (by omega) (by show q≤200;omega) (by show e≤200;omega)) l
  | D2=>exact oE rfl rfl rfl (b3y Eng.e2b c) a f d g i j hb hh (jI (by omega) (by show q≤200;omega) (by show e≤200;omega)) l
  | D3=>exact oE rfl rfl rfl (b3y Eng.e2c c) a f d g i j hb hh (jI (by omega) (by show q≤200;omega) (by show e≤200;omega)) l
  | _=>exact a.elim
end
end Go.Proofs.YthgnlfikneipiaaGreat
