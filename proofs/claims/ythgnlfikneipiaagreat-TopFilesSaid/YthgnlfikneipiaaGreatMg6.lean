/- Texts of the proof, joined. -/
import Derived.Test.YthgnlfikneipiaaGreatMg5
import Derived.Laws.Externs
import Derived.Lib.JoinLaws
import Derived.Test.YthgnlfikneipiaaGreatRows
import Derived.Test.YthgnlfikneipiaaGreatMg4
import Derived.ChangeKeysEq
import Derived.Maps.OwnOps
import Derived.Maps.Views
import Derived.DeepKeys4
import Derived.Deep.RegionHeld3
import Derived.StillTailTactics
import Derived.Deep.RegionLaw
import Derived.Test.YthgnlfikneipiaaGreatMg1
import Derived.Deep.RegionWith
set_option linter.unusedSimpArgs false
set_option linter.unusedVariables false
set_option linter.unusedSectionVars false
set_option maxRecDepth 100000
set_option maxHeartbeats 4000000
namespace Go.Proofs.YthgnlfikneipiaaGreat
open Go.RowKit
theorem rP {i n G:Nat} (hi:i < n) (hl:n≤100000) (hG:n+1≤G) (hm:G≤maxLen):G≤9223372036854775807∧¬ ((i:Int)=(n:Int))∧IntKind.i64.wrap ((i:Int)+1)=(i:Int)+1∧IntKind.i64.wrap ((n:Int)+1)=(n:Int)+1∧IntKind.i64.wrap ((n:Int)+1-(i:Int))=(n:Int)+1-(i:Int)∧(0:Int)≤(i:Int)+1∧(0:Int)≤(n:Int)+1∧((i:Int)+1).toNat=i+1∧((n:Int)+1).toNat=n+1∧¬ (G=i+1)∧¬ (G=i)∧(i:Int)+1≤(n:Int)+1∧(i:Int)≤(n:Int)+1∧¬ (n=i)∧i≤n∧(n:Int)+1≤(G:Int):=by
 unfold maxLen at hm;simp only[aQ];omega
section
variable {P : Program} {α : Type} [Inhabited α] {sz : Nat} {c : α → List Value} {T E Ti : TypeId} {base : Nat} {l : List α} {w : World} {g n cap i vb : Nat} {x : α} {z : Value} {bytes : Nat}
theorem c1c (k:Nat) (hi:i < k):(i+1)*sz+(k-i)*sz=(k+1)*sz:=by
 rw[← Nat.add_mul];congr 1;omega
theorem sS (hcl:∀ x,(c x).length=sz) (hpos:0 < sz) (hone:∀ x,∀ u∈c x,u.oneCell'=true) (und:P.underlying T=some (.slice E)) (inf:(P.info? E).map (·.size)=some sz)
  (hs:cF sz c base E w (.slice (some ⟨g,0,none⟩) n cap) l) (hi:i < l.length) (hroom:l.length+1≤cap) (hv:cU w vb E (c x)) (hvg:vb≠g) :
  n=l.length∧cap≤maxLen∧∃ W1 W2,Hid (∀ ty dc sc,(Builtin.copy_ #[T,T] ty #[.slice (some ⟨g,(i+1)*sz,none⟩) (l.length+1-(i+1)) dc,.slice (some ⟨g,i*sz,none⟩) (l.length+1-i) sc]).run P w.drew = .ok (goInt ((l.length-i:Nat):Int)) W1) ∧
   Hid (∀ ty dc,(Builtin.copy_ #[T,T] ty #[.slice (some ⟨g,i*sz,none⟩) (l.length+1-i) dc,.slice (some ⟨vb,0,none⟩) 1 1]).run P W1 = .ok (goInt ((1:Nat):Int)) W2) ∧
   Hid (cF sz c base E W2 (.slice (some ⟨g,0,none⟩) (l.length+1) cap) (l.take i++x::l.drop i))∧Hid (bR [g] w W2) ∧
   ∃ kA kB,w.shape? vb=some (E,kA)∧w.shape? g=some (E,kB)∧kB≠0∧w.frozen? ⟨vb,0,none⟩=false∧w.frozen? ⟨vb,kA,none⟩=false:=by
 obtain⟨rfl,U,V,K,b,v,t,y⟩:=hs.open_ hcl;have o:((l.drop i).flatMap c).length=(l.length-i)*sz:=by rw[dH hcl,aH]
 have p:((l.take i).flatMap c).length=i*sz:=by rw[dH hcl,aJ];congr 1;omega
 have z:eP b 0 ((l.take i).flatMap c):=by rw[gO c l i] at y;exact y.left
 have A:eP b (i*sz) ((l.drop i).flatMap c):=by rw[gO c l i] at y;have:=y.right;rwa[p,aM] at this
 have B:∀ u∈(l.drop i).flatMap c,u.oneCell'=true:=kI hone _;generalize F:(l.drop i).flatMap c=cs at *
 have r:(l.length+1)*sz≤b.size:=by rw[t];exact bO sz (by omega)
 have d:(i+1)*sz+cs.length≤b.size:=by rw[o,c1c _ hi];exact r
 have L:(i+1)*sz=i*sz+sz:=Nat.succ_mul i sz;have I:=(fun ty dc sc=>jA (P:=P) (sz:=sz) (dT:=T) (sT:=T) (ty:=ty) (dLen:=l.length+1-(i+1)) (dCap:=dc) (a:=⟨g,i*sz,none⟩) (sLen:=l.length+1-i) (sCap:=sc) (k:=l.length-i) und inf w.drew v (by simp only[Nat.min_def];split<;>omega) o (fun j u G=>by rw[dB];exact A.cell v j u G) d B)
 have J:=oO b ((i+1)*sz) cs d;have M:=z.stay ((i+1)*sz) cs d (.inl (by omega));have N:=eP.lay b ((i+1)*sz) cs d;generalize iE b ((i+1)*sz) cs=cur1 at *
 have h:(w.drew.setRow g cur1).heap[g]?=some (.cells cur1 E (0,0)):=setRow_heap w.drew g b cur1 _ _ v;have m:bR [g] w (w.drew.setRow g cur1):=(bR.refl [g] w).drew.setRow g _ (.inl (by simp));have s:=hv.upd m (by simpa using hvg);obtain⟨W1,D⟩:∃ W1,W1=w.drew.setRow g cur1:=⟨_,rfl⟩
 rw[← D] at I h m s;have f:i*sz+(c x).length≤cur1.size:=by rw[J,hcl];omega
 have O:=(fun ty dc=>jA (P:=P) (sz:=sz) (dT:=T) (sT:=T) (ty:=ty) (dLen:=l.length+1-i) (dCap:=dc) (a:=⟨vb,0,none⟩) (sLen:=1) (sCap:=1) (k:=1) (cs:=c x) und inf W1 h (by simp only[Nat.min_def];split<;>omega) (by rw[hcl,Nat.one_mul]) (fun j u G=>by rw[dB,s.cell,aM];exact G) f (hone x))
 have C:=oO cur1 (i*sz) (c x) f;have Q:=M.stay (i*sz) (c x) f (.inl (by omega));have R:=eP.lay cur1 (i*sz) (c x) f;have S:=N.stay (i*sz) (c x) f (.inr (by rw[hcl];omega));generalize iE cur1 (i*sz) (c x)=cur2 at *
 refine⟨rfl,K,W1,W1.setRow g cur2,I,O,?_,m.setRow g _ (.inl (by simp)),(c x).toArray.size,b.size,by unfold World.shape?;rw[show w.heap[vb]?=_ from hv],by unfold World.shape?;rw[v],by omega,hv.frozen 0,hv.frozen _⟩;refine cF.of_piece hcl cur2 (by simp;omega) U (by simp;omega) K (setRow_heap _ g cur1 _ _ _ h) (by rw[C,J,t]) ?_;rw[bL,bM,F];refine Q.app ?_;rw[p,aM (i*sz)];refine R.app ?_;rw[hcl,← L];exact S
theorem wI (hcl:∀ x,(c x).length=sz) (hpos:0 < sz) (hone:∀ x,∀ u∈c x,u.oneCell'=true) (und:P.underlying T=some (.slice E)) (inf:(P.info? E).map (fun i=>(i.zero,i.size,i.bytes))=some (some z,sz,bytes)) (hzz:z.cells.size=sz) (hby:bytes≤64) (u3:P.underlying Ti=some (.int .i64))
  (hs:cF sz c base E w (.slice (some ⟨g,0,none⟩) n cap) l) (hi:i < l.length) (hroom:cap < l.length+1) (hlen:l.length≤100000) (hbs:base≤w.heap.size) (hv:cU w vb E (c x)) :
  n=l.length∧cap=l.length∧∃ gn G W1 W2 W3,l.length+1≤G∧G≤maxLen∧Hid (gn=w.heap.size) ∧
   Hid (∀ ty,(Builtin.append_ #[T,Ti] ty #[.slice (some ⟨g,0,none⟩) i l.length,.int .i64 ((l.length:Int)+1-(i:Int))]).run P w = .ok (.slice (some ⟨gn,0,none⟩) (l.length+1) G) W1) ∧
   Hid (∀ ty dc,(Builtin.copy_ #[T,T] ty #[.slice (some ⟨gn,i*sz,none⟩) (l.length+1-i) dc,.slice (some ⟨vb,0,none⟩) 1 1]).run P W1 = .ok (goInt ((1:Nat):Int)) W2) ∧
   Hid (∀ ty dc sc,(Builtin.copy_ #[T,T] ty #[.slice (some ⟨gn,(i+1)*sz,none⟩) (l.length+1-(i+1)) dc,.slice (some ⟨g,i*sz,none⟩) (l.length-i) sc]).run P W2.drew = .ok (goInt ((l.length-i:Nat):Int)) W3) ∧
   Hid (cF sz c base E W3 (.slice (some ⟨gn,0,none⟩) (l.length+1) G) (l.take i++x::l.drop i))∧Hid (bR [g] w W3):=by
 obtain⟨rfl,hb,hc,hm,S,hg,b1,X⟩:=hs.open_ hcl;have I:cap=l.length:=by omega
 subst I;obtain⟨i0,U,a6,V,W⟩:=info_parts inf;have p:(P.info? E).map (·.size)=some sz:=by rw[U];simp[V]
 have J:((l.drop i).flatMap c).length=(l.length-i)*sz:=by rw[dH hcl,aH]
 have h:((l.take i).flatMap c).length=i*sz:=by rw[dH hcl,aJ];congr 1;omega
 have K:eP S 0 ((l.take i).flatMap c):=by rw[gO c l i] at X;exact X.left
 have Y:eP S (i*sz) ((l.drop i).flatMap c):=by rw[gO c l i] at X;have:=X.right;rwa[h,aM] at this
 have Z:∀ u∈(l.drop i).flatMap c,u.oneCell'=true:=kI hone _;have a9:g < w.heap.size:=(Array.getElem?_eq_some_iff.1 hg).1;have r:(Builtin.firstCells i0.size i (.slice (some ⟨g,0,none⟩) i l.length)).run P w.drew = .ok ((l.take i).flatMap c).toArray w.drew:=by
  rw[V];exact run_firstCells_some w.drew sz i ⟨g,0,none⟩ i l.length _ h (fun j u v=>by rw[dB];exact K.cell hg j u v)
 have a0:(l.length:Int)+1-(i:Int)=((l.length+1-i:Nat):Int):=by omega
 have L:i+(l.length+1-i)=l.length+1:=by omega
 have s:∀ k,k≤100001→k*bytes≤140737488355328:=fun k hk=>aL (Nat.mul_le_mul hk hby) (by decide)
 have m:=fun ty=>Lib.run_append_grow_zeros (P:=P) w T Ti ty E i0 _ .i64 .i64 und u3 U a6 (some ⟨g,0,none⟩) i l.length _ r (l.length+1-i) (by omega) (by omega) (by omega) (by omega) (by rw[W];exact aL (s (l.length+1-i) (by omega)) (by decide)) (by rw[W,L];exact growslice_fits (by omega) (s (l.length+1) (by omega)))
 rw[L] at m;have M:=grownCap_ge w (l.length+1) l.length E;have N:grownCap w (l.length+1) l.length E≤maxLen:=grownCap_le_maxLen w (l.length+1) l.length _ (by unfold maxLen;omega);generalize grownCap w (l.length+1) l.length E=G at *
 obtain⟨b,f⟩:∃ b:Array Value,b=((l.take i).flatMap c).toArray++Builtin.zeroCells z.cells (l.length+1-i)++Builtin.zeroCells z.cells (G-(l.length+1)):=⟨_,rfl⟩
 rw[← f] at m;have A:b.size=G*sz:=by
  rw[f];simp only[Array.size_append,List.size_toArray,size_zeroCells,hzz,h];rw[← Nat.add_mul,← Nat.add_mul];congr 1;omega
 have a1:eP b 0 ((l.take i).flatMap c):=fun j u v=>by
  have hj:=(aU.1 v).1;rw[f,Array.append_assoc,Array.getElem?_append_left (by simp only[Array.size_append,List.size_toArray];omega),aM];simpa using v
 have e1:(i+1)*sz=i*sz+sz:=Nat.succ_mul i sz;have a2:(l.length+1)*sz≤G*sz:=bO sz M;have b0:(i+1)*sz≤G*sz:=bO sz (by omega);clear f r K;obtain⟨W1,F⟩:∃ W1,W1=w.drew.alloc (.cells b E):=⟨_,rfl⟩
 rw[← F] at m;have O:W1.heap[w.heap.size]?=some (.cells b E (0,0)):=by rw[F];exact heap_alloc_new w.drew _
 have B:bR [] w W1:=by rw[F];exact(bR.refl [] w).drew.alloc _
 have a3:=hv.upd B (by simp);have a4:=B.heap hg (by simp);generalize b2:w.heap.size=gn at *
 have Q:g≠gn:=by omega
 have o:i*sz+(c x).length≤b.size:=by rw[A,hcl];omega
 have hB:=(fun ty dc=>jA (P:=P) (sz:=sz) (dT:=T) (sT:=T) (ty:=ty) (dLen:=l.length+1-i) (dCap:=dc) (a:=⟨vb,0,none⟩) (sLen:=1) (sCap:=1) (k:=1) (cs:=c x) und p W1 O (by simp only[Nat.min_def];split<;>omega) (by rw[hcl,Nat.one_mul]) (fun j u v=>by rw[dB,a3.cell,aM];exact v) o (hone x))
 have R:=oO b (i*sz) (c x) o;have m1:=a1.stay (i*sz) (c x) o (.inl (by omega));have m2:=eP.lay b (i*sz) (c x) o;generalize iE b (i*sz) (c x)=cur1 at *
 have C:(W1.setRow gn cur1).heap[gn]?=some (.cells cur1 E (0,0)):=setRow_heap W1 gn b cur1 _ _ O;have D:bR [gn] W1 (W1.setRow gn cur1):=(bR.refl [gn] W1).setRow gn _ (.inl (by simp));have t:=D.heap a4 (by simpa using Q);obtain⟨W2,a7⟩:∃ W2,W2=W1.setRow gn cur1:=⟨_,rfl⟩
 rw[← a7] at hB C D t;generalize a8:(l.drop i).flatMap c=cs at *
 have d:(i+1)*sz+cs.length≤cur1.size:=by rw[J,R,A,c1c _ hi];exact a2
 have hA:=(fun ty dc sc=>jA (P:=P) (sz:=sz) (dT:=T) (sT:=T) (ty:=ty) (dLen:=l.length+1-(i+1)) (dCap:=dc) (a:=⟨g,i*sz,none⟩) (sLen:=l.length-i) (sCap:=sc) (k:=l.length-i) und p W2.drew C (by simp only[Nat.min_def];split<;>omega) J (fun j u v=>by rw[dB];exact Y.cell t j u v) d Z)
 have a5:=oO cur1 ((i+1)*sz) cs d;have k1:=m1.stay ((i+1)*sz) cs d (.inl (by omega));have k2:=m2.stay ((i+1)*sz) cs d (.inl (by rw[hcl];omega));have k3:=eP.lay cur1 ((i+1)*sz) cs d;generalize iE cur1 ((i+1)*sz) cs=cur2 at *
 refine⟨rfl,rfl,gn,G,W1,W2,W2.drew.setRow gn cur2,M,N,rfl,fun ty=>by rw[a0];exact m ty,hB,hA,?_,((B.trans (T:=[g]) D (by simp) (fun y hy => .inr (by simp at hy;omega))).drew).setRow gn _ (.inr (by omega))⟩;refine cF.of_piece hcl cur2 (by simp;omega) hbs (by simp;omega) N (setRow_heap W2.drew gn cur1 _ _ _ C) (by rw[a5,R,A]) ?_;rw[bL,bM,a8];refine k1.app ?_;rw[h,aM (i*sz)];refine k2.app ?_;rw[hcl,← e1];exact k3
end
theorem c4k (w:World) (s:ByteArray) (h:s.size < 1) :
  Calls Tryz.prog 189 #[sv s] w fun e w'=>e = .returned (.bool (dL s))∧w=w':=by
 have q:¬ (1:Int)≤s.size:=by omega
 have a:Hid (dL s=false):=by unfold Hid dL;exact decide_eq_false (fun x=>by omega)
 go_enter Tryz.func189,Tryz.ntmps189;go_wp2_with fail
 go_loopw [3,4] (fun x i wr=>∃ (k:Nat) (b:Bool),k≤s.size∧i = .int .i64 k∧x = .bool b∧w=wr∧Hid (b=true→1≤s.size∧s.size≤32∧∀ j (h:j < s.size),j < k→33≤(s[j]).toNat∧(s[j]).toNat≤126)∧Hid (b=false→dL s=false)) (fun _ i _=>s.size-(intOf i).toNat)
 case atStart=>exact⟨0,false,aS _,rfl,rfl,rfl,fun h=>absurd h (by simp),fun _=>a.out⟩
 case round =>
  obtain⟨k,b,p,rfl,rfl,rfl,d,f⟩:=hrel;by_cases c:k < s.size
  ·exact absurd c (by omega)
  ·obtain rfl:k=s.size:=by omega
   have a:Hid (dL s=b):=by
    cases b with
    | false=>exact f.out rfl
    | true=>obtain⟨l,m,o⟩:=d.out rfl;unfold Hid dL;exact decide_eq_true ⟨l,m,fun j g=>o j g g⟩
   clear d f;go_wp2_with fail
   go_ret;exact⟨by rw[a.out];rfl,rfl⟩
theorem c4l (w:World) (s:ByteArray) (h:32 < s.size) :
  Calls Tryz.prog 189 #[sv s] w fun e w'=>e = .returned (.bool (dL s))∧w=w':=by
 have q:(1:Int)≤s.size:=by omega
 have p:¬ (s.size:Int)≤32:=by omega
 have a:Hid (dL s=false):=by unfold Hid dL;exact decide_eq_false (fun x=>by omega)
 go_enter Tryz.func189,Tryz.ntmps189;go_wp2_with fail
 go_loopw [3,4] (fun x i wr=>∃ (k:Nat) (b:Bool),k≤s.size∧i = .int .i64 k∧x = .bool b∧w=wr∧Hid (b=true→1≤s.size∧s.size≤32∧∀ j (h:j < s.size),j < k→33≤(s[j]).toNat∧(s[j]).toNat≤126)∧Hid (b=false→dL s=false)) (fun _ i _=>s.size-(intOf i).toNat)
 case atStart=>exact⟨0,false,aS _,rfl,rfl,rfl,fun h=>absurd h (by simp),fun _=>a.out⟩
 case round =>
  obtain⟨k,b,u,rfl,rfl,rfl,c,d⟩:=hrel;by_cases o:k < s.size
  ·have r:(k:Int) < s.size:=by omega
   have t:(0:Int)≤k:=by omega
   cases b with
   | true =>
    exact absurd (c.out rfl).2.1 (by omega)
   | false =>
    have a:=bG (d.out rfl);clear c d;go_wp2_with fail
    go_ret;exact⟨by rw[a.out];rfl,rfl⟩
  ·obtain rfl:k=s.size:=by omega
   have a:Hid (dL s=b):=by
    cases b with
    | false=>exact d.out rfl
    | true=>obtain⟨g,l,m⟩:=c.out rfl;unfold Hid dL;exact decide_eq_true ⟨g,l,fun j f=>m j f f⟩
   clear c d;go_wp2_with fail
   go_ret;exact⟨by rw[a.out];rfl,rfl⟩
theorem b6l (w:World) (s:ByteArray) (h:1≤s.size) (h2:s.size≤32) :
  Calls Tryz.prog 189 #[sv s] w fun e w'=>e = .returned (.bool (dL s))∧w=w':=by
 have q:(1:Int)≤s.size:=by omega
 have D:(s.size:Int)≤32:=by omega
 go_enter Tryz.func189,Tryz.ntmps189;go_wp2_with fail
 go_loopw [3,4] (fun x i wr=>∃ (k:Nat) (b:Bool),k≤s.size∧i = .int .i64 k∧x = .bool b∧w=wr∧Hid (b=true→1≤s.size∧s.size≤32∧∀ j (h:j < s.size),j < k→33≤(s[j]).toNat∧(s[j]).toNat≤126)∧Hid (b=false→dL s=false)) (fun _ i _=>s.size-(intOf i).toNat)
 case atStart=>exact⟨0,true,aS _,rfl,rfl,rfl,fun _=>⟨by omega,by omega,fun j _ h=>absurd h (by omega)⟩,fun h=>absurd h (by simp)⟩
 case round =>
  obtain⟨k,b,G,rfl,rfl,rfl,g,l⟩:=hrel;by_cases m:k < s.size
  ·have E:(k:Int) < s.size:=by omega
   have F:(0:Int)≤k:=by omega
   cases b with
   | true =>
    obtain⟨u,v,o⟩:=g.out rfl;have r:=bG o;clear o g l;by_cases a:33≤(s[k]).toNat
    ·have A:¬ ((s[k]).toNat:Int) < 33:=by omega
     by_cases d:(s[k]).toNat≤126
     ·have B:¬ (126:Int) < ((s[k]).toNat:Int):=by omega
      have f:=bG a;have t:=bG d;have z:decide (33≤(s[k]).toNat)=true:=decide_eq_true a;have C:decide ((s[k]).toNat≤126)=true:=decide_eq_true d;clear a d;go_wp2_with fail
      go_roundw
      case rel=>exact⟨k+1,true,by omega,by go_num,by first|rfl|exact congrArg Value.bool (decide_eq_true (by omega)),by first|trivial|rfl,fun _=>⟨u,v,fun j p y=>by
       rcases Nat.lt_or_eq_of_le (Nat.le_of_lt_succ y) with h|h
       ·exact r.out j p h
       ·subst h;exact⟨f.out,t.out⟩⟩,fun h=>absurd h (by simp)⟩
      case measure=>(try simp[intOf])<;>omega
     ·have B:(126:Int) < ((s[k]).toNat:Int):=by omega
      have c:Hid (dL s=false):=by unfold Hid dL;exact decide_eq_false (fun h=>d (h.2.2 k m).2)
      have f:=bG a;have z:decide (33≤(s[k]).toNat)=true:=decide_eq_true a;have C:decide ((s[k]).toNat≤126)=false:=decide_eq_false d;clear a d;go_wp2_with fail
      go_roundw
      case rel=>exact⟨k+1,false,by omega,by go_num,by first|rfl|exact congrArg Value.bool (decide_eq_false (by omega)),by first|trivial|rfl,fun h=>absurd h (by simp),fun _=>c.out⟩
      case measure=>(try simp[intOf])<;>omega
    ·have A:((s[k]).toNat:Int) < 33:=by omega
     have c:Hid (dL s=false):=by unfold Hid dL;exact decide_eq_false (fun h=>a (h.2.2 k m).1)
     have z:decide (33≤(s[k]).toNat)=false:=decide_eq_false a;clear a;go_wp2_with fail
     go_roundw
     case rel=>exact⟨k+1,false,by omega,by go_num,by first|rfl|exact congrArg Value.bool (decide_eq_false (by omega)),by first|trivial|rfl,fun h=>absurd h (by simp),fun _=>c.out⟩
     case measure=>(try simp[intOf])<;>omega
   | false =>
    have c:=bG (l.out rfl);clear g l;go_wp2_with fail
    go_ret;exact⟨by rw[c.out];rfl,rfl⟩
  ·obtain rfl:k=s.size:=by omega
   have c:Hid (dL s=b):=by
    cases b with
    | false=>exact l.out rfl
    | true=>obtain⟨u,v,o⟩:=g.out rfl;unfold Hid dL;exact decide_eq_true ⟨u,v,fun j p=>o j p p⟩
   clear g l;go_wp2_with fail
   go_ret;exact⟨by rw[c.out];rfl,rfl⟩
theorem qA (w:World) (s:ByteArray) :
  Calls Tryz.prog 189 #[sv s] w fun e w'=>e = .returned (.bool (dL s))∧w=w':=by
 rcases (show s.size < 1∨32 < s.size∨(1≤s.size∧s.size≤32) by omega) with h|h|⟨h,a⟩
 ·exact c4k w s h
 ·exact c4l w s h
 ·exact b6l w s h a
theorem a7v (w:World) (s:ByteArray) :
  Calls Tryz.prog 208 #[sv s] w fun e w'=>e = .returned (.bool (lF s))∧w=w':=by
 by_cases L:s.size < 1
 ·have z:Hid (lF s=false):=by unfold Hid lF;simp;omega
  obtain rfl:s=⟨#[]⟩:=pV _ _ (by rw[gM,gM];exact List.eq_nil_of_length_eq_zero (by rw[bD];show s.size=0;omega));go_enter Tryz.func208,Tryz.ntmps208;go_wp2_with fail
  go_ret;exact⟨by rw[z.out];rfl,rfl⟩
 ·have q:(s.toList==([]:List UInt8))=false:=by
   rw[bJ,gM];intro q;have:=congrArg List.length q;rw[bD] at this;have:s.size=0:=this;omega
  by_cases G:s.size≤32
  ·have E:¬ (32:Int) < s.size:=by omega
   go_enter Tryz.func208,Tryz.ntmps208;go_wp2_with fail
   go_loopw [15] (fun i wr=>∃ k:Nat,k≤s.size∧i = .int .i64 k∧w=wr∧Hid (∀ j (h:j < s.size),j < k→vC s[j]=true)) (fun i _=>s.size-(intOf i).toNat)
   case atStart=>exact⟨0,aS _,rfl,rfl,fun j _ h=>absurd h (by omega)⟩
   case round =>
    obtain⟨k,K,rfl,rfl,g⟩:=hrel;by_cases B:k < s.size
    ·have I:(0:Int)≤k:=by omega
     have J:(k:Int) < s.size:=by omega
     have c:Hid (vC s[k]=true→∀ j (h:j < s.size),j < k+1→vC s[j]=true):=fun C j A D=>by
      rcases Nat.lt_or_eq_of_le (Nat.le_of_lt_succ D) with h|h
      ·exact g.out j A h
      ·subst h;exact C
     have f:Hid (vC s[k]=false→lF s=false):=fun C=>by
      unfold lF;exact decide_eq_false (fun h=>by have:=h.2.2 k B;rw[C] at this;exact absurd this (by simp))
     obtain⟨d,hd⟩:∃ d:Int,((s[k]).toNat:Int)=d:=⟨_,rfl⟩
     have l:Hid (vC s[k]=decide ((97≤d∧d≤122)∨(65≤d∧d≤90)∨(48≤d∧d≤57)∨d=45∨d=95∨d=46)):=by
      unfold Hid vC;rw[← hd];exact decide_eq_decide.2 (by omega)
     have F:0≤d:=by omega
     rcases (show (97≤d∧d≤122)∨(122 < d)∨(65≤d∧d≤90)∨(d=95)∨((90 < d∧d < 97)∧d≠95)∨(48≤d∧d≤57)∨(57 < d∧d < 65)∨(d=45)∨(d=46)∨(d < 48∧d≠45∧d≠46) by omega) with b|b|b|b|b|b|b|b|b|b
     ·have m:(97:Int)≤d:=by omega
      have o:(65:Int)≤d:=by omega
      have p:(48:Int)≤d:=by omega
      have r:d≤(122:Int):=by omega
      have t:¬ d≤(90:Int):=by omega
      have u:¬ d≤(57:Int):=by omega
      have v:(d==(45:Int))=false:=by rw[bJ];omega
      have x:(d==(95:Int))=false:=by rw[bJ];omega
      have y:(d==(46:Int))=false:=by rw[bJ];omega
      have a:=bG (c.out (by rw[l.out];exact decide_eq_true (by omega)));clear b c f g;go_wp2_with fail
      go_roundw
      case rel=>exact⟨k+1,by omega,by go_num,by first|trivial|rfl,a⟩
      case measure=>simp[intOf];omega
     ·have m:(97:Int)≤d:=by omega
      have o:(65:Int)≤d:=by omega
      have p:(48:Int)≤d:=by omega
      have r:¬ d≤(122:Int):=by omega
      have t:¬ d≤(90:Int):=by omega
      have u:¬ d≤(57:Int):=by omega
      have v:(d==(45:Int))=false:=by rw[bJ];omega
      have x:(d==(95:Int))=false:=by rw[bJ];omega
      have y:(d==(46:Int))=false:=by rw[bJ];omega
      have a:=bG (f.out (by rw[l.out];exact decide_eq_false (by omega)));clear b c f g;go_wp2_with fail
      go_ret;exact⟨by rw[a.out];rfl,rfl⟩
     ·have m:¬ (97:Int)≤d:=by omega
      have o:(65:Int)≤d:=by omega
      have p:(48:Int)≤d:=by omega
      have r:d≤(122:Int):=by omega
      have t:d≤(90:Int):=by omega
      have u:¬ d≤(57:Int):=by omega
      have v:(d==(45:Int))=false:=by rw[bJ];omega
      have x:(d==(95:Int))=false:=by rw[bJ];omega
      have y:(d==(46:Int))=false:=by rw[bJ];omega
      have a:=bG (c.out (by rw[l.out];exact decide_eq_true (by omega)));clear b c f g;go_wp2_with fail
      go_roundw
      case rel=>exact⟨k+1,by omega,by go_num,by first|trivial|rfl,a⟩
      case measure=>simp[intOf];omega
     ·have m:¬ (97:Int)≤d:=by omega
      have o:(65:Int)≤d:=by omega
      have p:(48:Int)≤d:=by omega
      have r:d≤(122:Int):=by omega
      have t:¬ d≤(90:Int):=by omega
      have u:¬ d≤(57:Int):=by omega
      have v:(d==(45:Int))=false:=by rw[bJ];omega
      have x:(d==(95:Int))=true:=by rw[beq_iff_eq];omega
      have y:(d==(46:Int))=false:=by rw[bJ];omega
      have a:=bG (c.out (by rw[l.out];exact decide_eq_true (by omega)));clear b c f g;go_wp2_with fail
      go_roundw
      case rel=>exact⟨k+1,by omega,by go_num,by first|trivial|rfl,a⟩
      case measure=>simp[intOf];omega
     ·have m:¬ (97:Int)≤d:=by omega
      have o:(65:Int)≤d:=by omega
      have p:(48:Int)≤d:=by omega
      have r:d≤(122:Int):=by omega
      have t:¬ d≤(90:Int):=by omega
      have u:¬ d≤(57:Int):=by omega
      have v:(d==(45:Int))=false:=by rw[bJ];omega
      have x:(d==(95:Int))=false:=by rw[bJ];omega
      have y:(d==(46:Int))=false:=by rw[bJ];omega
      have a:=bG (f.out (by rw[l.out];exact decide_eq_false (by omega)));clear b c f g;go_wp2_with fail
      go_ret;exact⟨by rw[a.out];rfl,rfl⟩
     ·have m:¬ (97:Int)≤d:=by omega
      have o:¬ (65:Int)≤d:=by omega
      have p:(48:Int)≤d:=by omega
      have r:d≤(122:Int):=by omega
      have t:d≤(90:Int):=by omega
      have u:d≤(57:Int):=by omega
      have v:(d==(45:Int))=false:=by rw[bJ];omega
      have x:(d==(95:Int))=false:=by rw[bJ];omega
      have y:(d==(46:Int))=false:=by rw[bJ];omega
      have a:=bG (c.out (by rw[l.out];exact decide_eq_true (by omega)));clear b c f g;go_wp2_with fail
      go_roundw
      case rel=>exact⟨k+1,by omega,by go_num,by first|trivial|rfl,a⟩
      case measure=>simp[intOf];omega
     ·have m:¬ (97:Int)≤d:=by omega
      have o:¬ (65:Int)≤d:=by omega
      have p:(48:Int)≤d:=by omega
      have r:d≤(122:Int):=by omega
      have t:d≤(90:Int):=by omega
      have u:¬ d≤(57:Int):=by omega
      have v:(d==(45:Int))=false:=by rw[bJ];omega
      have x:(d==(95:Int))=false:=by rw[bJ];omega
      have y:(d==(46:Int))=false:=by rw[bJ];omega
      have a:=bG (f.out (by rw[l.out];exact decide_eq_false (by omega)));clear b c f g;go_wp2_with fail
      go_ret;exact⟨by rw[a.out];rfl,rfl⟩
     ·have m:¬ (97:Int)≤d:=by omega
      have o:¬ (65:Int)≤d:=by omega
      have p:¬ (48:Int)≤d:=by omega
      have r:d≤(122:Int):=by omega
      have t:d≤(90:Int):=by omega
      have u:d≤(57:Int):=by omega
      have v:(d==(45:Int))=true:=by rw[beq_iff_eq];omega
      have x:(d==(95:Int))=false:=by rw[bJ];omega
      have y:(d==(46:Int))=false:=by rw[bJ];omega
      have a:=bG (c.out (by rw[l.out];exact decide_eq_true (by omega)));clear b c f g;go_wp2_with fail
      go_roundw
      case rel=>exact⟨k+1,by omega,by go_num,by first|trivial|rfl,a⟩
      case measure=>simp[intOf];omega
     ·have m:¬ (97:Int)≤d:=by omega
      have o:¬ (65:Int)≤d:=by omega
      have p:¬ (48:Int)≤d:=by omega
      have r:d≤(122:Int):=by omega
      have t:d≤(90:Int):=by omega
      have u:d≤(57:Int):=by omega
      have v:(d==(45:Int))=false:=by rw[bJ];omega
      have x:(d==(95:Int))=false:=by rw[bJ];omega
      have y:(d==(46:Int))=true:=by rw[beq_iff_eq];omega
      have a:=bG (c.out (by rw[l.out];exact decide_eq_true (by omega)));clear b c f g;go_wp2_with fail
      go_roundw
      case rel=>exact⟨k+1,by omega,by go_num,by first|trivial|rfl,a⟩
      case measure=>simp[intOf];omega
     ·have m:¬ (97:Int)≤d:=by omega
      have o:¬ (65:Int)≤d:=by omega
      have p:¬ (48:Int)≤d:=by omega
      have r:d≤(122:Int):=by omega
      have t:d≤(90:Int):=by omega
      have u:d≤(57:Int):=by omega
      have v:(d==(45:Int))=false:=by rw[bJ];omega
      have x:(d==(95:Int))=false:=by rw[bJ];omega
      have y:(d==(46:Int))=false:=by rw[bJ];omega
      have a:=bG (f.out (by rw[l.out];exact decide_eq_false (by omega)));clear b c f g;go_wp2_with fail
      go_ret;exact⟨by rw[a.out];rfl,rfl⟩
    ·obtain rfl:k=s.size:=by omega
     have z:Hid (lF s=true):=by
      unfold Hid lF;exact decide_eq_true ⟨by omega,by omega,fun j A=>g.out j A A⟩
     go_wp2_with fail
     go_ret;exact⟨by rw[z.out];rfl,rfl⟩
  ·have z:Hid (lF s=false):=by unfold Hid lF;exact decide_eq_false (fun h=>G h.2.1)
   have E:(32:Int) < s.size:=by omega
   go_enter Tryz.func208,Tryz.ntmps208;go_wp2_with fail
   go_ret;exact⟨by rw[z.out];rfl,rfl⟩
abbrev eB (ino gen at_:Int) (rule:ByteArray) (kind c0 c1 c2 c3 c4 c5 c6 c7 c8 c9:Int):kC:=⟨⟨ino,gen,at_,rule⟩,kind,⟨[c0,c1,c2,c3,c4,c5,c6,c7,c8,c9],rfl⟩⟩
abbrev cA (ino gen at_:Int) (rule:ByteArray) (kind c0 c1 c2 c3 c4 c5 c6 c7 c8 c9:Int):Value := .agg #[.int .i64 ino,.int .i64 gen,.int .i64 at_,.string rule,.int .i64 kind,.int .i64 c0,.int .i64 c1,.int .i64 c2,.int .i64 c3,.int .i64 c4,.int .i64 c5,.int .i64 c6,.int .i64 c7,.int .i64 c8,.int .i64 c9]
theorem e1o (r:kC):∃ ino gen at_ rule kind c0 c1 c2 c3 c4 c5 c6 c7 c8 c9,r=eB ino gen at_ rule kind c0 c1 c2 c3 c4 c5 c6 c7 c8 c9:=by
 obtain⟨⟨ino,gen,at_,rule⟩,kind,⟨a,b⟩⟩:=r;obtain⟨c0,c1,c2,c3,c4,c5,c6,c7,c8,c9,rfl⟩:=ten b;exact⟨ino,gen,at_,rule,kind,c0,c1,c2,c3,c4,c5,c6,c7,c8,c9,rfl⟩
theorem a7w {α:Type} [Inhabited α] {l:List α} (k:Nat) (h:k < l.length):bT l k∈l:=by rw[cO l k h];exact bP _
abbrev a5v (ino gen at_:Int):Bool:=decide (1≤ino∧ino≤12∧1≤gen∧gen≤1099511627776∧0≤at_∧at_≤1099511627776)
theorem e6f:∃ i,Tryz.prog.info? 3=some i:=by
 have:(Tryz.prog.info? 3).isSome=true:=by kernel_rfl
 exact Option.isSome_iff_exists.1 this
theorem e1p:Tryz.prog.cellsOf 3=1:=by kernel_rfl
theorem e1q (c0 c1 c2 c3 c4 c5 c6 c7 c8 c9 d0 d1 d2 d3 d4 d5 d6 d7 d8 d9:Int):((⟨[c0,c1,c2,c3,c4,c5,c6,c7,c8,c9],rfl⟩:C10)=⟨[d0,d1,d2,d3,d4,d5,d6,d7,d8,d9],rfl⟩)↔(c0=d0∧c1=d1∧c2=d2∧c3=d3∧c4=d4∧c5=d5∧c6=d6∧c7=d7∧c8=d8∧c9=d9):=by
 rw[Subtype.mk.injEq];simp
theorem b6m (w:World) (c0 c1 c2 c3 c4 c5 c6 c7 c8 c9 d0 d1 d2 d3 d4 d5 d6 d7 d8 d9:Int):(Op.equalIn 10000 46 (.agg #[.int .i64 c0,.int .i64 c1,.int .i64 c2,.int .i64 c3,.int .i64 c4,.int .i64 c5,.int .i64 c6,.int .i64 c7,.int .i64 c8,.int .i64 c9]) (.agg #[.int .i64 d0,.int .i64 d1,.int .i64 d2,.int .i64 d3,.int .i64 d4,.int .i64 d5,.int .i64 d6,.int .i64 d7,.int .i64 d8,.int .i64 d9])).run Tryz.prog w = .ok (decide (c0=d0∧c1=d1∧c2=d2∧c3=d3∧c4=d4∧c5=d5∧c6=d6∧c7=d7∧c8=d8∧c9=d9)) w:=by
 obtain⟨i,a⟩:=e6f;rw[run_equalIn_array w 9999 _ _ Tryz.underlying46 a,e1p];simp only[Op.eqItems,List.range_succ,List.range_zero,List.nil_append,List.cons_append,part,go_sem];simp[Op.eqItems,List.range_succ,part,go_sem]
 repeat' split
 all_goals simp_all
theorem b2c (c0 c1 c2 c3 c4 c5 c6 c7 c8 c9:Int) (k:Nat) (hk:k < 10) (W:World):(Instr.index 46 (.agg #[.int .i64 c0,.int .i64 c1,.int .i64 c2,.int .i64 c3,.int .i64 c4,.int .i64 c5,.int .i64 c6,.int .i64 c7,.int .i64 c8,.int .i64 c9]) (.int .i64 (k:Int))).run Tryz.prog W = .ok (.int .i64 (bT [c0,c1,c2,c3,c4,c5,c6,c7,c8,c9] k)) W:=by
 rcases (show k=0∨k=1∨k=2∨k=3∨k=4∨k=5∨k=6∨k=7∨k=8∨k=9 by omega) with rfl|rfl|rfl|rfl|rfl|rfl|rfl|rfl|rfl|rfl<;>kernel_rfl
theorem nH (w:World) (ino gen at_:Int) (rule:ByteArray) (kind c0 c1 c2 c3 c4 c5 c6 c7 c8 c9:Int) :
  Calls Tryz.prog 147 #[cA ino gen at_ rule kind c0 c1 c2 c3 c4 c5 c6 c7 c8 c9] w fun e w'=>e = .returned (.bool (gT (eB ino gen at_ rule kind c0 c1 c2 c3 c4 c5 c6 c7 c8 c9)))∧bR [] w w':=by
 have f:Hid (bR [] w (w.alloc (.cells #[.int .i64 ino,.int .i64 gen,.int .i64 at_,.string rule,.int .i64 kind,.int .i64 c0,.int .i64 c1,.int .i64 c2,.int .i64 c3,.int .i64 c4,.int .i64 c5,.int .i64 c6,.int .i64 c7,.int .i64 c8,.int .i64 c9] 48))):=(bR.refl [] w).alloc _;have a:a5v ino gen at_=false→gT (eB ino gen at_ rule kind c0 c1 c2 c3 c4 c5 c6 c7 c8 c9)=false:=fun h=>by
  unfold gT;show (a5v ino gen at_&&_)=false;rw[h];rfl
 by_cases z:1≤ino∧ino≤12∧1≤gen∧gen≤1099511627776∧0≤at_∧at_≤1099511627776
 ·have D:Hid (a5v ino gen at_=true):=decide_eq_true z;obtain⟨O,P,Q,R,S,n6⟩:=z;have p:¬ ino < 1:=by omega
  have s:¬ (12:Int) < ino:=by omega
  have v:¬ gen < 1:=by omega
  have E:¬ (1099511627776:Int) < gen:=by omega
  have I:¬ at_ < 0:=by omega
  have K:¬ (1099511627776:Int) < at_:=by omega
  clear O P Q R S n6 a;by_cases A:kind=2
  ·subst A;have c:Hid (gT (eB ino gen at_ rule 2 c0 c1 c2 c3 c4 c5 c6 c7 c8 c9)=decide (rule=⟨#[]⟩∧(⟨[c0,c1,c2,c3,c4,c5,c6,c7,c8,c9],rfl⟩:C10)=c4c)):=by
    unfold Hid gT;show (a5v ino gen at_&&_)=_;rw[D.out];rfl
   by_cases B:rule=⟨#[]⟩
   ·subst B;have L:=fun W=>b6m W c0 c1 c2 c3 c4 c5 c6 c7 c8 c9 0 0 0 0 0 0 0 0 0 0
    have g:Hid (gT (eB ino gen at_ ⟨#[]⟩ 2 c0 c1 c2 c3 c4 c5 c6 c7 c8 c9)=decide (c0=0∧c1=0∧c2=0∧c3=0∧c4=0∧c5=0∧c6=0∧c7=0∧c8=0∧c9=0)):=by
     unfold Hid;rw[c.out];refine decide_eq_decide.2 ?_;show (_∧(⟨[c0,c1,c2,c3,c4,c5,c6,c7,c8,c9],rfl⟩:C10)=⟨[0,0,0,0,0,0,0,0,0,0],rfl⟩)↔_;rw[e1q];simp
    obtain⟨b,o⟩:∃ b:Bool,decide (c0=0∧c1=0∧c2=0∧c3=0∧c4=0∧c5=0∧c6=0∧c7=0∧c8=0∧c9=0)=b:=⟨_,rfl⟩
    have M:=bG o;rw[o] at L;clear o;go_enter Tryz.func147,Tryz.ntmps147;go_wp2_with fail
    go_ret;exact⟨by rw[g.out,M.out];rfl,f.out⟩
   ·have g:Hid (gT (eB ino gen at_ rule 2 c0 c1 c2 c3 c4 c5 c6 c7 c8 c9)=false):=by
     unfold Hid;rw[c.out];exact decide_eq_false (fun h=>B h.1)
    have q:(rule.toList==([]:List UInt8))=false:=by
     rw[bJ,gM];intro q;exact B (pV _ _ (by rw[gM,gM,q]))
    clear B;go_enter Tryz.func147,Tryz.ntmps147;go_wp2_with fail
    go_ret;exact⟨by rw[g.out];rfl,f.out⟩
  ·have U:(kind==2)=false:=by rw[bJ];exact A
   by_cases C:kind=1
   ·subst C;have c:Hid (gT (eB ino gen at_ rule 1 c0 c1 c2 c3 c4 c5 c6 c7 c8 c9)=([c0,c1,c2,c3,c4,c5,c6,c7,c8,c9].all uG&&lF rule)):=by
     unfold Hid gT;show (a5v ino gen at_&&_)=_;rw[D.out];rfl
    go_enter Tryz.func147,Tryz.ntmps147;go_wp2_with fail
    go_loopw [57] (fun i wr=>∃ k:Nat,k≤10∧i = .int .i64 k∧wr=(w.alloc (.cells #[.int .i64 ino,.int .i64 gen,.int .i64 at_,.string rule,.int .i64 1,.int .i64 c0,.int .i64 c1,.int .i64 c2,.int .i64 c3,.int .i64 c4,.int .i64 c5,.int .i64 c6,.int .i64 c7,.int .i64 c8,.int .i64 c9] 48))∧Hid (∀ j,j < k→uG (bT [c0,c1,c2,c3,c4,c5,c6,c7,c8,c9] j)=true)) (fun i _=>10-(intOf i).toNat)
    case atStart=>exact⟨0,aS _,rfl,rfl,fun j h=>absurd h (by omega)⟩
    case round =>
     obtain⟨k,Z,rfl,rfl,r⟩:=hrel;by_cases u:k < 10
     ·have V:(0:Int)≤k:=by omega
      have X:(k:Int) < 10:=by omega
      have N:=fun W=>b2c c0 c1 c2 c3 c4 c5 c6 c7 c8 c9 k u W
      have y:Hid (uG (bT [c0,c1,c2,c3,c4,c5,c6,c7,c8,c9] k)=true→∀ j,j < k+1→uG (bT [c0,c1,c2,c3,c4,c5,c6,c7,c8,c9] j)=true):=fun o j G=>by
       rcases Nat.lt_or_eq_of_le (Nat.le_of_lt_succ G) with h|h
       ·exact r.out j h
       ·subst h;exact o
      have t:Hid (uG (bT [c0,c1,c2,c3,c4,c5,c6,c7,c8,c9] k)=false→gT (eB ino gen at_ rule 1 c0 c1 c2 c3 c4 c5 c6 c7 c8 c9)=false):=fun o=>by
       rw[c.out];have:[c0,c1,c2,c3,c4,c5,c6,c7,c8,c9].all uG=false:=by
        rw[List.all_eq_false];exact⟨_,a7w (l:=[c0,c1,c2,c3,c4,c5,c6,c7,c8,c9]) k u,by rw[o];simp⟩
       rw[this];rfl
      generalize bT [c0,c1,c2,c3,c4,c5,c6,c7,c8,c9] k=d at *
      rcases (show d < -1∨(¬ d < -1∧500 < d)∨(¬ d < -1∧¬ 500 < d) by omega) with hd|⟨hd,F⟩|⟨hd,F⟩
      ·have m:=bG (t.out (decide_eq_false (by omega)));clear y t r;go_wp2_with fail
       go_ret;exact⟨by rw[m.out];rfl,f.out⟩
      ·have m:=bG (t.out (decide_eq_false (by omega)));clear y t r;go_wp2_with fail
       go_ret;exact⟨by rw[m.out];rfl,f.out⟩
      ·have m:=bG (y.out (decide_eq_true (by omega)));clear y t r;go_wp2_with fail
       go_roundw
       case rel=>exact⟨k+1,by omega,by go_num,by first|trivial|rfl,m⟩
       case measure=>simp[intOf];omega
     ·obtain rfl:k=10:=by omega
      have m:Hid (gT (eB ino gen at_ rule 1 c0 c1 c2 c3 c4 c5 c6 c7 c8 c9)=lF rule):=by
       unfold Hid;rw[c.out];have:[c0,c1,c2,c3,c4,c5,c6,c7,c8,c9].all uG=true:=by
        rw[bB];intro x T;obtain⟨j,J,rfl⟩:=List.mem_iff_getElem.1 T;have:=r.out j J;rwa[cO _ j J] at this
       rw[this,Bool.true_and]
      clear r;go_wp2_with fail
      (with_reducible refine(a7v _ rule).mono ?_)
      rintro e w1 ⟨rfl,rfl⟩;go_wp2_with fail
      go_ret;exact⟨by rw[m.out];rfl,f.out⟩
   ·have Y:(kind==1)=false:=by rw[bJ];exact C
    have c:Hid (gT (eB ino gen at_ rule kind c0 c1 c2 c3 c4 c5 c6 c7 c8 c9)=false):=by
     unfold Hid gT;show (a5v ino gen at_&&_)=_;rw[D.out];show (if kind=2 then _ else if kind=1 then _ else false)=false;rw[if_neg A,if_neg C]
    clear C A;go_enter Tryz.func147,Tryz.ntmps147;go_wp2_with fail
    go_ret;exact⟨by rw[c.out];rfl,f.out⟩
 ·have c:=bG (a (decide_eq_false z));rcases (show ino < 1∨(¬ ino < 1∧(12:Int) < ino)∨(¬ ino < 1∧¬ (12:Int) < ino∧gen < 1)∨(¬ ino < 1∧¬ (12:Int) < ino∧¬ gen < 1∧(1099511627776:Int) < gen)∨(¬ ino < 1∧¬ (12:Int) < ino∧¬ gen < 1∧¬ (1099511627776:Int) < gen∧at_ < 0)∨(¬ ino < 1∧¬ (12:Int) < ino∧¬ gen < 1∧¬ (1099511627776:Int) < gen∧¬ at_ < 0∧(1099511627776:Int) < at_) by omega) with p|⟨p,s⟩|⟨p,s,v⟩|⟨p,s,v,E⟩|⟨p,s,v,E,I⟩|⟨p,s,v,E,I,K⟩
  all_goals
   clear a z;go_enter Tryz.func147,Tryz.ntmps147;go_wp2_with fail
   go_ret;exact⟨by rw[c.out];rfl,f.out⟩
structure uH (k:Key):Prop where
 ino:gR k.ino
 gen:gR k.gen
 at_:gR k.at_
 rule:k.rule.size≤maxLen
def c9y (k:Key):Lit := .string (keyBytes [.int .i64 k.ino,.int .i64 k.gen,.int .i64 k.at_,.string k.rule.data.toList])
theorem c9z:laidOutB Tryz.prog=true:=by kernel_rfl
theorem d0a:(44:TypeId) < Tryz.prog.types.size:=bI (by kernel_rfl)
theorem a7x:Maps.Keyed Tryz.prog 44:=Maps.Keyed.of_law (deep_law_laid c9z (m:=2) (by omega) d0a (by kernel_rfl) (by kernel_rfl))
theorem c4m:Tryz.prog.keyType 44=true:=by kernel_rfl
theorem b6n:Tryz.prog.cellsOf 44=4:=by kernel_rfl
theorem b6o:Tryz.prog.cellsOf 3=1:=by kernel_rfl
theorem b6p:Tryz.prog.cellsOf 9=1:=by kernel_rfl
theorem wf_i64 {x:Int} (h:gR x):(Lit.int .i64 x).wf=true:=WalkArith.wf_i64 ⟨h.1,h.2⟩
theorem d0b {n m:Nat} (h:m < n):∃ k,n=k+1:=⟨n-1,by omega⟩
theorem pE (k:Key) (h:uH k):keyOf Tryz.prog 44 (vB k)=some (c9y k):=by
 obtain⟨m,a⟩:=d0b d0a;unfold keyOf c9y;rw[Tryz.underlying44];dsimp only;rw[c4m,a];simp[Value.formed,Tryz.underlying44,Tryz.underlying3,Tryz.underlying9,b6n,b6o,b6p,Program.keyLits,Value.cells,wf_i64 h.ino,wf_i64 h.gen,wf_i64 h.at_,h.rule]
theorem b6q {a b:Key} (h:vB a=vB b):a=b:=by
 obtain⟨c,d,f,g⟩:=a;obtain⟨i,j,l,m⟩:=b;simp at h;obtain⟨rfl,rfl,rfl,rfl⟩:=h;rfl
theorem d0c {a b:Key} (ha:uH a) (hb:uH b) (h:c9y a=c9y b):a=b :=
 b6q (a7x.inj (pE a ha) (by rw[h];exact pE b hb))
def vF (rl:List kC) (k:Key):Bool:=rl.any fun r=>decide (r.key=k)
theorem a5w (rl:List kC) (r:kC) (k:Key):vF (rl++[r]) k=(vF rl k||decide (r.key=k)):=by unfold vF;simp
abbrev nul:DataW Unit := .lit (.int .i64 0)
structure pF (w:World) (gm:Nat) (rl:List kC):Prop where
 ex:∃ (n:Nat) (D:DataW Unit),w.ownsMap Tryz.prog 44 (plainElem Tryz.prog 3) gm n D∧n≤rl.length∧Maps.IsMap D∧∀ k,uH k→∃ c:Int,D.atKey (c9y k) nul = .lit (.int .i64 c)∧(0 < c↔vF rl k=true)
theorem pF.new (w:World):pF (w.alloc (.map #[] 0)) w.heap.size [] :=
 ⟨0,.map [],World.ownsMap_made _ _ _ _,aF _,Maps.isMap_empty,fun k _=>⟨0,rfl,by simp[vF]⟩⟩
theorem pF.lt {w:World} {gm:Nat} {rl:List kC} (h:pF w gm rl):gm < w.heap.size:=by
 obtain⟨n,D,a,-⟩:=h.ex;exact a.lt
theorem pF.heap {w w':World} {gm:Nat} {rl:List kC} (h:pF w gm rl) (hb:w'.heap[gm]?=w.heap[gm]?):pF w' gm rl:=by
 obtain⟨n,D,⟨b,a,c,d⟩,f⟩:=h.ex;exact⟨n,D,⟨b,a,by rw[hb];exact c,d⟩,f⟩
theorem pF.upd {w w':World} {gm:Nat} {rl:List kC} (h:pF w gm rl) {S:List Nat} (hu:bR S w w') (hs:gm∉S):pF w' gm rl:=h.heap (hu.block gm h.lt hs)
theorem pF.typ {w:World} {gm:Nat} {rl:List kC} (h:pF w gm rl):∃ es clock,w.heap[gm]?=some (.map es clock):=by
 obtain⟨n,D,⟨es,clock,a,b⟩,c⟩:=h.ex;exact⟨es,clock,a⟩
theorem d6i (w:World):(zeroValue 3).run Tryz.prog w = .ok (.int .i64 0) w:=by kernel_rfl
theorem pF.look {w:World} {gm:Nat} {rl:List kC} (h:pF w gm rl) (k:Key) (hk:uH k) :
  ∃ c:Int,(∀ W,bR [] w W→(Instr.lookup 214 (.map (some gm)) (vB k) false).run Tryz.prog W = .ok (.int .i64 c) W)∧(0 < c↔vF rl k=true):=by
 obtain⟨n,D,f,s,t,g⟩:=h.ex;obtain⟨c,i,j⟩:=g k hk;refine⟨c,fun W hW=>?_,j⟩;have b:W.ownsMap Tryz.prog 44 (plainElem (H:=Unit) Tryz.prog 3) gm n D:=by
  obtain⟨l,a,m,o⟩:=f;exact⟨l,a,hW.heap m (by simp),o⟩
 obtain⟨d,p,r,-⟩:=b.lookup_int a7x Tryz.underlying214 Tryz.underlying3 (d6i W) (pE k hk);have:(DataW.lit (.int .i64 c):DataW Unit) = .lit (.int .i64 d):=by rw[← i];exact r
 have e:c=d:=by simpa using this
 rw[e];exact p
theorem pF.put {w:World} {gm:Nat} {rl:List kC} (h:pF w gm rl) (r:kC) (hk:uH r.key) (hl:rl.length < 1000000000) (N:Int) (hN:N=((rl++[r]).length:Int)) :
  ∃ w',(Instr.mapUpdate 214 (.map (some gm)) (vB r.key) (.int .i64 N)).run Tryz.prog w = .ok () w'∧pF w' gm (rl++[r])∧bR [gm] w w':=by
 obtain⟨n,D,f,p,d,g⟩:=h.ex;rw[aE,List.length_singleton] at hN;have a:gR N:=⟨by omega,by omega⟩
 obtain⟨w',i,j,l⟩:=f.update a7x Tryz.underlying214 (by unfold maxLen;omega) (pE r.key hk) (plainElem_int Tryz.underlying3 (wf_i64 a));refine⟨w',i,⟨n+1,_,j,by rw[aE,List.length_singleton];omega,d.put _ _,fun k b=>?_⟩,?_⟩
 ·by_cases he:r.key=k
  ·subst he;exact⟨N,by rw[Maps.atKey_put_same d (a7x.key (pE _ hk))],by rw[a5w];simp;omega⟩
  ·obtain⟨c,m,o⟩:=g k b;refine⟨c,?_,?_⟩
   ·rw[Maps.atKey_put_other (fun q=>he (d0c hk b q.symm)),m]
   ·rw[a5w,o];simp[he]
 ·have:=bR.of_grown l;simpa using this
structure LC (w0 w:World) (gl gd gm:Nat) (lv:Value) (rl:List kC):Prop where
 top:cU w gl 216 [.pointer (some ⟨gd,0,none⟩),lv,.map (some gm)]
 rows:cF 15 nB w0.heap.size 48 w lv rl
 map:pF w gm rl
 glb:w0.heap.size≤gl
 gmb:w0.heap.size≤gm
 old:bR [] w0 w
abbrev nI (gl gm:Nat) (lv:Value):List Nat:=gl::gm::blk lv
theorem a7y (gl gm:Nat) (lv:Value):gl∈nI gl gm lv:=aR
theorem b6r (gl gm:Nat) (lv:Value):gm∈nI gl gm lv:=aT _ aR
theorem a7z {gl gm:Nat} {lv:Value} {x:Nat} (h:x∈blk lv):x∈nI gl gm lv:=aT _ (aT _ h)
section
variable {w0 w w' : World} {gl gd gm : Nat} {lv : Value} {rl : List kC}
theorem LC.glm (h:LC w0 w gl gd gm lv rl):gl≠gm:=by
 intro e;obtain⟨d,a,c⟩:=h.map.typ;have b:w.heap[gl]?=some (.cells _ _ _):=h.top;rw[e,c] at b;exact absurd b (by simp)
theorem LC.gll (h:LC w0 w gl gd gm lv rl):gl∉blk lv:=by
 intro b;obtain⟨C,f,c⟩:=h.rows.typ gl b;have a:w.heap[gl]?=some (.cells _ _ _):=h.top;rw[c] at a;injection a with a;injection a with _ a;exact absurd a (by decide)
theorem LC.gml (h:LC w0 w gl gd gm lv rl):gm∉blk lv:=by
 intro c;obtain⟨C,f,d⟩:=h.rows.typ gm c;obtain⟨g,a,b⟩:=h.map.typ;rw[d] at b;exact absurd b (by simp)
theorem LC.upd (h:LC w0 w gl gd gm lv rl) {S:List Nat} (hu:bR S w w') (hs:∀ x∈nI gl gm lv,x∉S) (hS:∀ x∈S,w0.heap.size≤x):LC w0 w' gl gd gm lv rl :=
 ⟨h.top.upd hu (hs gl (by simp)),h.rows.upd hu (fun x a=>hs x (by simp[a])),h.map.upd hu (hs gm (by simp)),h.glb,h.gmb,h.old.trans hu (by simp) (fun x a => .inr (hS x a))⟩
theorem LC.upd0 (h:LC w0 w gl gd gm lv rl) (hu:bR [] w w'):LC w0 w' gl gd gm lv rl:=h.upd hu (by simp) (by simp)
theorem LC.ge (h:LC w0 w gl gd gm lv rl):∀ x∈nI gl gm lv,w0.heap.size≤x∧x < w.heap.size:=by
 intro x a;rcases aG.1 a with rfl|a
 ·exact⟨h.glb,h.top.lt⟩
 ·rcases aG.1 a with rfl|a
  ·exact⟨h.gmb,h.map.lt⟩
  ·exact h.rows.ge x a
theorem b2d (h:LC w0 w gl gd gm lv rl) (ino gen at_:Int) (rule:ByteArray) (hk:uH ⟨ino,gen,at_,rule⟩) :
  Calls Tryz.prog 89 #[.pointer (some ⟨gl,0,none⟩),.agg #[.int .i64 ino,.int .i64 gen,.int .i64 at_,.string rule]] w fun e w'=>e = .returned (.bool (vF rl ⟨ino,gen,at_,rule⟩))∧bR [] w w':=by
 have b:bR [] w (w.alloc (.cells #[.int .i64 ino,.int .i64 gen,.int .i64 at_,.string rule] 44)):=(bR.refl [] w).alloc _;have i:=bG b;obtain⟨c,g,f⟩:=h.map.look _ hk;have d:=g _ b.drew;have p:(w.alloc (.cells #[.int .i64 ino,.int .i64 gen,.int .i64 at_,.string rule] 44)).cell? ⟨gl,2,none⟩=some (.map (some gm)):=(h.upd0 b).top.cell 2;have a:=cU.new w 44 [.int .i64 ino,.int .i64 gen,.int .i64 at_,.string rule];have j:=a.cell 0;have l:=a.cell 1;have d2:=a.cell 2;have m:=a.cell 3;simp only[List.getElem?_cons_zero,List.getElem?_cons_succ] at j l d2 m;have o:Hid (vF rl ⟨ino,gen,at_,rule⟩=decide (0 < c)):=by
  unfold Hid;cases a:vF rl ⟨ino,gen,at_,rule⟩ with
  | true=>exact(decide_eq_true (f.2 a)).symm
  | false=>exact(decide_eq_false (fun q=>by have:=f.1 q;rw[a] at this;exact absurd this (by simp))).symm
 simp only[vB] at d;clear h b hk g f a;go_enter Tryz.func89,Tryz.ntmps89;go_wp2_with fail
 generalize w.alloc (.cells #[.int .i64 ino,.int .i64 gen,.int .i64 at_,.string rule] 44)=w1 at *
 go_region
 all_goals (go_wp2_with fail)
 go_ret;exact⟨by rw[o.out];rfl,i.out.drew⟩
end
theorem d0d:(Tryz.prog.info? 48).map (fun i=>(i.zero,i.size,i.bytes))=some (some (.agg #[.int .i64 0,.int .i64 0,.int .i64 0,.string ⟨#[]⟩,.int .i64 0,.int .i64 0,.int .i64 0,.int .i64 0,.int .i64 0,.int .i64 0,.int .i64 0,.int .i64 0,.int .i64 0,.int .i64 0,.int .i64 0]),15,128):=by kernel_rfl
theorem e1r:Tryz.prog.underlying 36=some (.slice 48):=by kernel_rfl
theorem a5x {base:Nat} {e:TypeId} {w:World} {v:Value} {l:List kC} (h:cF 15 nB base e w v l):∃ a k,v = .slice a l.length k∧l.length≤k∧k≤maxLen:=by
 obtain⟨a,k,b,c,d,_⟩:=h.rd wF;exact⟨a,k,b,c,d⟩
section
variable {P : Program} {ops : Array Oper} {rest : List Oper} {o : Oper} {a : Act} {w : World} {Q : Exit → Act → World → Prop}
theorem a4h (hgd:o.guard=none) (m x v:Operand) {t:TypeId} (ho:o.op=Op.mapUpdate t m x v) (vm key val:Value) (hm:a.eval m=vm) (hx:a.eval x=key) (hv:a.eval v=val)
  {R:World→Prop} (hr:∃ w',(Instr.mapUpdate t vm key val).run P w = .ok () w'∧R w') (h:∀ w',R w'→wpList P ops Q rest (a.put o.dst undef) w'):wpList P ops Q (o::rest) a w:=by
 obtain⟨w',b,hR⟩:=hr;refine wpList_plain hgd fun d c=>?_
 unfold Oper.wp;simp[execOp,ho,hm,hx,hv,b,Result.andThen];exact c _ _ (h w' hR)
end
section
variable {w0 w w' : World} {gl gd gm : Nat} {lv : Value} {rl : List kC}
theorem c4n (h:LC w0 w gl gd gm lv rl) (ino gen at_:Int) (rule:ByteArray) (kind c0 c1 c2 c3 c4 c5 c6 c7 c8 c9:Int) (hk:uH ⟨ino,gen,at_,rule⟩) (hl:rl.length≤100000000) :
  Calls Tryz.prog 90 #[.pointer (some ⟨gl,0,none⟩),cA ino gen at_ rule kind c0 c1 c2 c3 c4 c5 c6 c7 c8 c9] w fun e w'=>e = .returned (.tuple #[])∧∃ lv',LC w0 w' gl gd gm lv' (rl++[eB ino gen at_ rule kind c0 c1 c2 c3 c4 c5 c6 c7 c8 c9])∧bR (nI gl gm lv) w w'∧(∀ x∈blk lv',x∈blk lv∨w.heap.size≤x):=by
 obtain⟨R,O,rfl,f0,b0⟩:=a5x h.rows;have F:bR [] w (w.alloc (.cells #[.int .i64 ino,.int .i64 gen,.int .i64 at_,.string rule,.int .i64 kind,.int .i64 c0,.int .i64 c1,.int .i64 c2,.int .i64 c3,.int .i64 c4,.int .i64 c5,.int .i64 c6,.int .i64 c7,.int .i64 c8,.int .i64 c9] 48)):=(bR.refl [] w).alloc _;have G:=bG F;have l:=bG (h.upd0 F);have a:cU (w.alloc (.cells #[.int .i64 ino,.int .i64 gen,.int .i64 at_,.string rule,.int .i64 kind,.int .i64 c0,.int .i64 c1,.int .i64 c2,.int .i64 c3,.int .i64 c4,.int .i64 c5,.int .i64 c6,.int .i64 c7,.int .i64 c8,.int .i64 c9] 48)) w.heap.size 48 [.int .i64 ino,.int .i64 gen,.int .i64 at_,.string rule,.int .i64 kind,.int .i64 c0,.int .i64 c1,.int .i64 c2,.int .i64 c3,.int .i64 c4,.int .i64 c5,.int .i64 c6,.int .i64 c7,.int .i64 c8,.int .i64 c9]:=cU.new w _ [.int .i64 ino,.int .i64 gen,.int .i64 at_,.string rule,.int .i64 kind,.int .i64 c0,.int .i64 c1,.int .i64 c2,.int .i64 c3,.int .i64 c4,.int .i64 c5,.int .i64 c6,.int .i64 c7,.int .i64 c8,.int .i64 c9];have I:=bG a;have HK:=bG hk;have HL:=bG hl;have hg:=(h.ge gl (by simp)).2;have e6:O≤9223372036854775807:=by unfold maxLen at b0;omega
 have S:=bG h.ge;clear h F hk hl b0;go_enter Tryz.func90,Tryz.ntmps90;go_wp2_with fail
 have d0:=a.cell 0;have d1:=a.cell 1;have d2:=a.cell 2;have d3:=a.cell 3;have d4:=a.cell 4;have d5:=a.cell 5;have d6:=a.cell 6;have d7:=a.cell 7;have d8:=a.cell 8;have d9:=a.cell 9;have U:=a.cell 10;have V:=a.cell 11;have W:=a.cell 12;have X:=a.cell 13;have Y:=a.cell 14;simp only[List.getElem?_cons_zero,List.getElem?_cons_succ] at d0 d1 d2 d3 d4 d5 d6 d7 d8 d9 U V W X Y;have e7:Hid (w.heap.size+1=(w.alloc (.cells #[.int .i64 ino,.int .i64 gen,.int .i64 at_,.string rule,.int .i64 kind,.int .i64 c0,.int .i64 c1,.int .i64 c2,.int .i64 c3,.int .i64 c4,.int .i64 c5,.int .i64 c6,.int .i64 c7,.int .i64 c8,.int .i64 c9] 48)).heap.size):=by unfold Hid;simp
 generalize w.alloc (.cells #[.int .i64 ino,.int .i64 gen,.int .i64 at_,.string rule,.int .i64 kind,.int .i64 c0,.int .i64 c1,.int .i64 c2,.int .i64 c3,.int .i64 c4,.int .i64 c5,.int .i64 c6,.int .i64 c7,.int .i64 c8,.int .i64 c9] 48)=w1 at *
 have b4:w1.cell? ⟨gl,1,none⟩=some (.slice R rl.length O):=l.out.top.cell 1;have f1:=l.out.top.frozen 1;have e8:gl < w1.heap.size:=l.out.top.lt;have e9:w.heap.size < w1.heap.size:=I.out.lt;have t:bR [] w1 (w1.drew.alloc (.cells #[.int .i64 ino,.int .i64 gen,.int .i64 at_,.string rule,.int .i64 kind,.int .i64 c0,.int .i64 c1,.int .i64 c2,.int .i64 c3,.int .i64 c4,.int .i64 c5,.int .i64 c6,.int .i64 c7,.int .i64 c8,.int .i64 c9] 48)):=(bR.refl [] w1).drew.alloc _;have Z:cU (w1.drew.alloc (.cells #[.int .i64 ino,.int .i64 gen,.int .i64 at_,.string rule,.int .i64 kind,.int .i64 c0,.int .i64 c1,.int .i64 c2,.int .i64 c3,.int .i64 c4,.int .i64 c5,.int .i64 c6,.int .i64 c7,.int .i64 c8,.int .i64 c9] 48)) w1.heap.size 48 [.int .i64 ino,.int .i64 gen,.int .i64 at_,.string rule,.int .i64 kind,.int .i64 c0,.int .i64 c1,.int .i64 c2,.int .i64 c3,.int .i64 c4,.int .i64 c5,.int .i64 c6,.int .i64 c7,.int .i64 c8,.int .i64 c9]:=cU.new w1.drew _ _;have a0:qW 15 nB (w1.drew.alloc (.cells #[.int .i64 ino,.int .i64 gen,.int .i64 at_,.string rule,.int .i64 kind,.int .i64 c0,.int .i64 c1,.int .i64 c2,.int .i64 c3,.int .i64 c4,.int .i64 c5,.int .i64 c6,.int .i64 c7,.int .i64 c8,.int .i64 c9] 48)) (.slice (some ⟨w1.heap.size,0,none⟩) 1 1) [eB ino gen at_ rule kind c0 c1 c2 c3 c4 c5 c6 c7 c8 c9]:=by
  refine⟨_,1,rfl,by simp,by simp[maxLen],fun _=>⟨w1.heap.size,0,rfl,fun j hj i hi=>?_⟩⟩;have b5:j=0:=by simpa using hj
  subst b5;rw[Nat.zero_mul,aM,aM,Z.cell];rfl
 have B:=bG (fun ty=>fR (P:=Tryz.prog) (ty:=ty) wF (by decide) a7q e1r d0d rfl _ _ rl [eB ino gen at_ rule kind c0 c1 c2 c3 c4 c5 c6 c7 c8 c9] (l.out.rows.upd t (by simp)) a0 (by have:=HL.out;simp;omega) (by have:=HL.out;simp[maxLen];omega) (l.out.old.seq t).size);have D:=bG (l.out.top.upd t (by simp));have a1:=bG l.out.gll;have J:=bG t;have a2:=bG (I.out.upd t (by simp));clear t Z a0;go_region_law (first|((with_reducible refine jS rfl (.tmp 8) (.tmp 10) rfl (.slice R rl.length O) (.slice (some ⟨w1.heap.size,0,none⟩) 1 1) rfl rfl (B.out _) ?_);(rintro v4 u ⟨m,Q,b1⟩;obtain⟨p,s,rfl,-⟩:=a5x m;have y:=D.out.upd Q a1.out;have b6:=y.cell 1;have f4:=y.frozen 1;have K:=bG y;have a3:=bG m;have L:=bG Q;have a5:=bG b1;clear m Q b1 y;dsimp only)))
 all_goals
  have c:bR [gl] u (u.setCell ⟨gl,1,none⟩ (.slice p (rl.length+1) s)):=(bR.refl [gl] u).setCell _ _ (.inl (by simp));have M:=l.out.glm;have d:bR (blk (Value.slice R rl.length O)) w1 u:=J.out.trans L.out (by simp) (fun x b => .inl b);have z:cU (u.setCell ⟨gl,1,none⟩ (.slice p (rl.length+1) s)) gl 216 [.pointer (some ⟨gd,0,none⟩),.slice p (rl.length+1) s,.map (some gm)]:=K.out.set_ 1 _;have N:pF (u.setCell ⟨gl,1,none⟩ (.slice p (rl.length+1) s)) gm rl:=(l.out.map.upd d l.out.gml).upd c (by simp;exact fun q=>M q.symm);have g:cU (u.setCell ⟨gl,1,none⟩ (.slice p (rl.length+1) s)) w.heap.size 48 [.int .i64 ino,.int .i64 gen,.int .i64 at_,.string rule,.int .i64 kind,.int .i64 c0,.int .i64 c1,.int .i64 c2,.int .i64 c3,.int .i64 c4,.int .i64 c5,.int .i64 c6,.int .i64 c7,.int .i64 c8,.int .i64 c9]:=((a2.out.upd L.out (fun b=>by have:=(S.out _ (a7z b)).2;omega))).upd c (by simp;omega);have a6:cF 15 nB w0.heap.size 48 (u.setCell ⟨gl,1,none⟩ (.slice p (rl.length+1) s)) (.slice p (rl.length+1) s) (rl++[eB ino gen at_ rule kind c0 c1 c2 c3 c4 c5 c6 c7 c8 c9]):=by
   have m:=a3.out;rw[aE,List.length_singleton] at m;refine m.upd c (fun x b o=>?_);simp at o;subst o;obtain⟨C,f,h1⟩:=m.typ x b;have A:u.heap[x]?=some (.cells _ _ _):=K.out;rw[h1] at A;injection A with A;injection A with _ A;exact absurd A (by decide)
  have a7:bR (nI gl gm (Value.slice R rl.length O)) w (u.setCell ⟨gl,1,none⟩ (.slice p (rl.length+1) s)):=(G.out.mono (by simp)).trans (d.trans c (T:=nI gl gm (Value.slice R rl.length O)) (fun x b=>a7z b) (fun x b => .inl (by simp at b;subst b;exact a7y _ _ _))) (fun x b=>b) (fun x b => .inl b);have v:bR [] w0 (u.setCell ⟨gl,1,none⟩ (.slice p (rl.length+1) s)):=(l.out.old.trans (T:=[]) d (by simp) (fun x b => .inr (l.out.rows.ge x b).1)).trans c (by simp) (fun x b => .inr (by simp at b;subst b;exact l.out.glb));have b7:Hid (∀ x∈blk (Value.slice p (rl.length+1) s),x∈blk (Value.slice R rl.length O)∨w.heap.size≤x):=fun x b=>by
   have o:x∈blk (Value.slice p (rl++[eB ino gen at_ rule kind c0 c1 c2 c3 c4 c5 c6 c7 c8 c9]).length s):=by
    cases p with
    | none=>simp[blk] at b
    | some q=>simpa [blk] using b
   rcases a5.out x o with q|q
   ·exact .inl q
   ·have:=G.out.size;have:=J.out.size;exact .inr (by omega)
  have a8:=bG l.out.glb;have E:=bG l.out.gmb;generalize u.setCell ⟨gl,1,none⟩ (.slice p (rl.length+1) s)=w5 at *
  have HM:=bG ((N.upd (bR.refl [] w5).drew (by simp)).put (eB ino gen at_ rule kind c0 c1 c2 c3 c4 c5 c6 c7 c8 c9) HK.out (by have:=HL.out;omega) ((rl.length:Int)+1) (by simp));have b8:=bG z;have b9:=bG N;have a9:=bG a6;have e0:=bG a7;have e1:=bG v;have e2:=bG M;have k0:=g.cell 0;have k1:=g.cell 1;have k2:=g.cell 2;have k3:=g.cell 3;simp only[List.getElem?_cons_zero,List.getElem?_cons_succ] at k0 k1 k2 k3;have g1:w5.cell? ⟨gl,1,none⟩=some (.slice p (rl.length+1) s):=z.cell 1;have g2:w5.cell? ⟨gl,2,none⟩=some (.map (some gm)):=z.cell 2;clear c M d z N g a6 a7 v B D a1 J a2 K a3 L a5 b4 f1 b6 f4 a I l G S d0 d1 d2 d3 d4 d5 d6 d7 d8 d9 U V W X Y;go_wp2_with fail
  go_still_tail 11,(by kernel_rfl)
  change wpList _ _ _ _ _ w5.drew;go_wp2_with (at_mapUpdate;go_must (refine a4h rfl _ _ _ rfl (.map (some gm)) (vB ⟨ino,gen,at_,rule⟩) (.int .i64 ((rl.length:Int)+1)) rfl rfl rfl HM.out ?_;rintro w6 ⟨b2,b3⟩;have e3:=bG b2;have e4:=bG b3;clear b2 b3 HM;dsimp only))
  go_end0
  have r:bR [gm] w5 w6:=(bR.refl [] w5).drew.trans e4.out (by simp) (fun x b => .inl b);refine⟨rfl,.slice p (rl.length+1) s,⟨b8.out.upd r (by simp;exact e2.out),a9.out.upd r (fun x b o=>?_),e3.out,a8.out,E.out,e1.out.trans r (by simp) (fun x b => .inr (by simp at b;subst b;exact E.out))⟩,e0.out.trans r (fun x b=>b) (fun x b => .inl (by simp at b;subst b;exact b6r _ _ _)),b7.out⟩;simp at o;subst o;obtain⟨C,f,h1⟩:=(a9.out).typ x b;obtain⟨es,e5,A⟩:=b9.out.typ;rw[h1] at A;exact absurd A (by simp)
end
theorem c1d (w:World) (b:Nat) (C:Array Value):bR [b] w (w.setRow b C):=⟨rfl,rfl,rfl,by simp,fun k _ a=>setRow_other w b k _ (by simpa using a)⟩
theorem c4o {α:Type} [Inhabited α] (l:List α) (k:Nat) (h:k < l.length):l.take (k+1)=l.take k++[bT l k]:=by rw[List.take_add_one,cO _ _ h,aO h];rfl
theorem b2e (b:Nat) (W:World):fB bv b 5 W (.slice none 0 0) []:=bK _ _ _ _
theorem a2v (b:Nat) (w W:World) (v:Value) (l:List UInt8) (M:Int) (hb:b≤w.heap.size) (ho:fB bv b 5 W v l) (hu:bR [] w W) (hl:l.length≤100000) (hM:gR M) :
  Calls Tryz.prog 123 #[v,.int .i64 M] W fun e w'=>∃ a n k,e = .returned (.slice a n k)∧Hid (fB bv b 5 w' (.slice a n k) (l++dF M.toNat))∧bR [] w w':=by
 refine(rJ _ l M _ ho.rd (by omega) hM).mono ?_;rintro e w' ⟨x,rfl,h,c⟩;obtain⟨a,k,rfl,-⟩:=h.rd;exact⟨a,_,k,rfl,h.base_le (aL hb hu.size),hu.seq c⟩
theorem d6j (b:Nat) (w W:World) (v:Value) (l:List UInt8) (S:ByteArray) (hb:b≤w.heap.size) (ho:fB bv b 5 W v l) (hu:bR [] w W) (hl:l.length≤100000) (hM:S.size≤1000000) :
  Calls Tryz.prog 121 #[v,.string S] W fun e w'=>∃ a n k,e = .returned (.slice a n k)∧Hid (fB bv b 5 w' (.slice a n k) (l++hU S))∧bR [] w w':=by
 refine(sO _ l S _ ho.rd (by omega) (by omega)).mono ?_;rintro e w' ⟨x,rfl,h,c⟩;obtain⟨a,k,rfl,-⟩:=h.rd;exact⟨a,_,k,rfl,h.base_le (aL hb hu.size),hu.seq c⟩
theorem mS (n:Nat) (h:n < 18446744073709551616):(dF n).length≤9:=by have:=lZ n h;rw[fN];omega
theorem b6s (l:List Int) (h:∀ c∈l,c≤500):(fL l).length≤9*l.length:=by
 induction l with
 | nil=>simp[fL]
 | cons c l ih =>
  have b:=ih (fun x a=>h x (by simp[a]));have d:=h c (by simp);have f:=mS (c+1).toNat (by omega);rw[pW,aE,aW];omega
theorem d0e (w:World) (ino gen at_:Int) (rule:ByteArray) (kind c0 c1 c2 c3 c4 c5 c6 c7 c8 c9:Int) :
  Calls Tryz.prog 218 #[cA ino gen at_ rule kind c0 c1 c2 c3 c4 c5 c6 c7 c8 c9] w fun e w'=>∃ v,e = .returned v∧fB bv w.heap.size 5 w' v (if gT (eB ino gen at_ rule kind c0 c1 c2 c3 c4 c5 c6 c7 c8 c9) then fI (eB ino gen at_ rule kind c0 c1 c2 c3 c4 c5 c6 c7 c8 c9) else [])∧bR [] w w':=by
 have F:bR [] w (w.alloc (.cells #[.int .i64 ino,.int .i64 gen,.int .i64 at_,.string rule,.int .i64 kind,.int .i64 c0,.int .i64 c1,.int .i64 c2,.int .i64 c3,.int .i64 c4,.int .i64 c5,.int .i64 c6,.int .i64 c7,.int .i64 c8,.int .i64 c9] 48)):=(bR.refl [] w).alloc _;have G:=bG F;have I:cU (w.alloc (.cells #[.int .i64 ino,.int .i64 gen,.int .i64 at_,.string rule,.int .i64 kind,.int .i64 c0,.int .i64 c1,.int .i64 c2,.int .i64 c3,.int .i64 c4,.int .i64 c5,.int .i64 c6,.int .i64 c7,.int .i64 c8,.int .i64 c9] 48)) w.heap.size 48 [.int .i64 ino,.int .i64 gen,.int .i64 at_,.string rule,.int .i64 kind,.int .i64 c0,.int .i64 c1,.int .i64 c2,.int .i64 c3,.int .i64 c4,.int .i64 c5,.int .i64 c6,.int .i64 c7,.int .i64 c8,.int .i64 c9]:=cU.new w _ [.int .i64 ino,.int .i64 gen,.int .i64 at_,.string rule,.int .i64 kind,.int .i64 c0,.int .i64 c1,.int .i64 c2,.int .i64 c3,.int .i64 c4,.int .i64 c5,.int .i64 c6,.int .i64 c7,.int .i64 c8,.int .i64 c9];have b0:=bG I;cases r:gT (eB ino gen at_ rule kind c0 c1 c2 c3 c4 c5 c6 c7 c8 c9) with
 | false =>
  have B:=bG r;clear r;go_enter Tryz.func218,Tryz.ntmps218;go_wp2_with fail
  (with_reducible refine(nH _ ino gen at_ rule kind c0 c1 c2 c3 c4 c5 c6 c7 c8 c9).mono ?_)
  rw[B.out];rintro e g ⟨rfl,j⟩;have t:=bG (G.out.seq j);clear j;go_wp2_with fail
  go_ret;exact⟨_,rfl,b2e _ _,t.out⟩
 | true =>
  have B:=bG r;have h:=a2h r;have HI:=bG h;have b6:Hid (gR ino):=⟨by have:=h.ino;dsimp only at this;omega,by have:=h.ino;dsimp only at this;omega⟩
  have b7:Hid (gR gen):=⟨by have:=h.gen;dsimp only at this;omega,by have:=h.gen;dsimp only at this;omega⟩
  have b8:Hid (gR at_):=⟨by have:=h.at_;dsimp only at this;omega,by have:=h.at_;dsimp only at this;omega⟩
  have b9:Hid (gR kind):=⟨by have:=h.kind;dsimp only at this;omega,by have:=h.kind;dsimp only at this;omega⟩
  have d5:Hid (rule.size≤32):=h.rule;have J:Hid (∀ c∈[c0,c1,c2,c3,c4,c5,c6,c7,c8,c9],-1≤c∧c≤500):=h.caps;obtain⟨L1,u⟩:∃ L,dF ino.toNat=L:=⟨_,rfl⟩
  obtain⟨L2,x⟩:∃ L,L1++dF gen.toNat=L:=⟨_,rfl⟩
  obtain⟨L3,y⟩:∃ L,L2++dF at_.toNat=L:=⟨_,rfl⟩
  obtain⟨L4,z⟩:∃ L,L3++hU rule=L:=⟨_,rfl⟩
  obtain⟨L5,A⟩:∃ L,L4++dF kind.toNat=L:=⟨_,rfl⟩
  have i1:=h.ino;have i2:=h.gen;have i3:=h.at_;have i4:=h.rule;have i5:=h.kind;dsimp only at i1 i2 i3 i4 i5;have b1:=mS ino.toNat (by omega);have b2:=mS gen.toNat (by omega);have b3:=mS at_.toNat (by omega);have b4:=mS rule.size (by omega);have b5:=mS kind.toNat (by omega);have ht:(hU rule).length≤41:=by unfold hU;rw[aE,zQ];omega
  have l1:L1.length≤9:=by rw[← u];exact b1
  have l2:L2.length≤18:=by rw[← x,aE];omega
  have l3:L3.length≤27:=by rw[← y,aE];omega
  have l4:L4.length≤70:=by rw[← z,aE];omega
  have l5:L5.length≤79:=by rw[← A,aE];omega
  have d6:Hid (L1.length≤100000):=by unfold Hid;omega
  have d7:Hid (L2.length≤100000):=by unfold Hid;omega
  have d8:Hid (L3.length≤100000):=by unfold Hid;omega
  have d9:Hid (L4.length≤100000):=by unfold Hid;omega
  have e0:Hid (L5.length≤79):=l5;have e1:Hid (fI (eB ino gen at_ rule kind c0 c1 c2 c3 c4 c5 c6 c7 c8 c9)=L5++fL [c0,c1,c2,c3,c4,c5,c6,c7,c8,c9]):=by
   unfold Hid fI;rw[← A,← z,← y,← x,← u]
  have e2:=bG u;have e3:=bG x;have e4:=bG y;have f0:=bG z;have f1:=bG A;rw[if_pos rfl,e1.out];clear r h i1 i2 i3 i4 i5 b1 b2 b3 b4 b5 ht l1 l2 l3 l4 l5 u x y z A I F;go_enter Tryz.func218,Tryz.ntmps218;go_wp2_with fail
  (with_reducible refine(nH _ ino gen at_ rule kind c0 c1 c2 c3 c4 c5 c6 c7 c8 c9).mono ?_)
  rw[B.out];rintro e g ⟨rfl,j⟩;have o:=b0.out.upd j (by simp);have d0:=o.cell 0;have d1:=o.cell 1;have d2:=o.cell 2;simp only[List.getElem?_cons_zero,List.getElem?_cons_succ] at d0 d1 d2;have C:=bG o;have t:=bG (G.out.seq j);have p:Hid (w.heap.size≤g.heap.size):=t.out.size;have C0:=bG d0;have C1:=bG d1;have C2:=bG d2;clear j o;have K:Hid (∀ W,bR [] g W→Calls Tryz.prog 123 #[.slice none 0 0,.int .i64 ino] W fun e w'=>∃ a n k,e = .returned (.slice a n k)∧Hid (fB bv w.heap.size 5 w' (.slice a n k) L1)∧bR [] g w'):=fun W m=>by
   have:=a2v w.heap.size g W _ [] ino p.out (b2e _ _) m (by simp) b6.out;rw[List.nil_append,e2.out] at this;exact this
  have M:Hid (∀ W a n k,fB bv w.heap.size 5 W (.slice a n k) L1→bR [] g W→Calls Tryz.prog 123 #[.slice a n k,.int .i64 gen] W fun e w'=>∃ a n k,e = .returned (.slice a n k)∧Hid (fB bv w.heap.size 5 w' (.slice a n k) L2)∧bR [] g w'):=fun W a n k s m=>by
   have:=a2v w.heap.size g W _ L1 gen p.out s m d6.out b7.out;rw[e3.out] at this;exact this
  have N:Hid (∀ W a n k,fB bv w.heap.size 5 W (.slice a n k) L2→bR [] g W→Calls Tryz.prog 123 #[.slice a n k,.int .i64 at_] W fun e w'=>∃ a n k,e = .returned (.slice a n k)∧Hid (fB bv w.heap.size 5 w' (.slice a n k) L3)∧bR [] g w'):=fun W a n k s m=>by
   have:=a2v w.heap.size g W _ L2 at_ p.out s m d7.out b8.out;rw[e4.out] at this;exact this
  have O:Hid (∀ W a n k,fB bv w.heap.size 5 W (.slice a n k) L3→bR [] g W→Calls Tryz.prog 121 #[.slice a n k,.string rule] W fun e w'=>∃ a n k,e = .returned (.slice a n k)∧Hid (fB bv w.heap.size 5 w' (.slice a n k) L4)∧bR [] g w'):=fun W a n k s m=>by
   have:=d6j w.heap.size g W _ L3 rule p.out s m d8.out (by have:=d5.out;omega);rw[f0.out] at this;exact this
  have P:Hid (∀ W a n k,fB bv w.heap.size 5 W (.slice a n k) L4→bR [] g W→Calls Tryz.prog 123 #[.slice a n k,.int .i64 kind] W fun e w'=>∃ a n k,e = .returned (.slice a n k)∧Hid (fB bv w.heap.size 5 w' (.slice a n k) L5)∧bR [] g w'):=fun W a n k s m=>by
   have:=a2v w.heap.size g W _ L4 kind p.out s m d9.out b9.out;rw[f1.out] at this;exact this
  have f:=bR.refl [] g;go_wp2_with fail
  go_region_held3 (fun w'=>w'.cell? ⟨w.heap.size,0,none⟩=some (.int .i64 ino)∧w'.cell? ⟨w.heap.size,1,none⟩=some (.int .i64 gen)∧w'.cell? ⟨w.heap.size,2,none⟩=some (.int .i64 at_)) (first|go_keep|exact⟨f.cell C0.out (by simp),f.cell C1.out (by simp),f.cell C2.out (by simp)⟩)
   (first
    | (go_at_call 123;(with_reducible refine(K.out _ (bR.seq f ?_)).mono ?_);(repeat (first|exact bR.refl _ _|apply bR.drew|apply bR.drewN|apply bR.alloc));(rintro _ W1 ⟨a1,n1,k1,rfl,X,f⟩;dsimp only))
    | (go_at_call 123;(with_reducible refine(M.out _ a1 n1 k1 (fB.upd (S:=[]) X.out ?_ (by simp)) (bR.seq f ?_)).mono ?_);(repeat (first|exact bR.refl _ _|apply bR.drew|apply bR.drewN|apply bR.alloc));(rintro _ W2 ⟨a2,n2,k2,rfl,Y,f⟩;dsimp only))
    | (go_at_call 123;(with_reducible refine(N.out _ a2 n2 k2 (fB.upd (S:=[]) Y.out ?_ (by simp)) (bR.seq f ?_)).mono ?_);(repeat (first|exact bR.refl _ _|apply bR.drew|apply bR.drewN|apply bR.alloc));(rintro _ W3 ⟨a3,n3,k3,rfl,Z,f⟩;dsimp only)))
  all_goals
   have C3:=bG (C.out.cell 3);have C4:=bG (C.out.cell 4);simp only[List.getElem?_cons_zero,List.getElem?_cons_succ] at C3 C4;have d3:=f.cell C3.out (by simp);have d4:=f.cell C4.out (by simp);clear K M N d0 d1 d2 X Y C0 C1 C2;go_wp2_with fail
   go_region_held3 (fun w'=>w'.cell? ⟨w.heap.size,3,none⟩=some (.string rule)∧w'.cell? ⟨w.heap.size,4,none⟩=some (.int .i64 kind)) (first|go_keep|exact⟨f.cell C3.out (by simp),f.cell C4.out (by simp)⟩)
    (first
     | (go_at_call 121;(with_reducible refine(O.out _ a3 n3 k3 (fB.upd (S:=[]) Z.out ?_ (by simp)) (bR.seq f ?_)).mono ?_);(repeat (first|exact bR.refl _ _|apply bR.drew|apply bR.drewN|apply bR.alloc));(rintro _ W4 ⟨a4,n4,k4,rfl,a0,f⟩;dsimp only))
     | (go_at_call 123;(with_reducible refine(P.out _ a4 n4 k4 (fB.upd (S:=[]) a0.out ?_ (by simp)) (bR.seq f ?_)).mono ?_);(repeat (first|exact bR.refl _ _|apply bR.drew|apply bR.drewN|apply bR.alloc));(rintro _ W5 ⟨a5,n5,k5,rfl,a7,f⟩;dsimp only)))
   all_goals
    have b:=bG (C.out.upd f (by simp));have e5:=b.out.cell 5;have e6:=b.out.cell 6;have e7:=b.out.cell 7;have e8:=b.out.cell 8;have e9:=b.out.cell 9;have Q:=b.out.cell 10;have R:=b.out.cell 11;have T:=b.out.cell 12;have U:=b.out.cell 13;have V:=b.out.cell 14;simp only[List.getElem?_cons_zero,List.getElem?_cons_succ] at e5 e6 e7 e8 e9 Q R T U V;have f2:=bG (t.out.seq f);clear O P d3 d4 Z a0 C3 C4 f;go_wp2_with fail
    go_loopw [3,31] (fun v i wr=>∃ (k:Nat) (a:Option Addr) (n cp:Nat),k≤10∧i = .int .i64 k∧v = .slice a n cp∧Hid (fB bv w.heap.size 5 wr (.slice a n cp) (L5++fL ([c0,c1,c2,c3,c4,c5,c6,c7,c8,c9].take k)))∧Hid (bR [] w wr)) (fun _ i _=>10-(intOf i).toNat)
    case atStart=>exact⟨0,a5,n5,k5,aS _,rfl,rfl,by unfold Hid;rw[List.take_zero,show fL []=[] from rfl,bA];exact a7.out,f2.out⟩
    case round =>
     obtain⟨k,a,n,cp,hk,rfl,rfl,s,m⟩:=hrel;clear a7 b e5 e6 e7 e8 e9 Q R T U V;by_cases D:k < 10
     ·have q0:(0:Int)≤k:=by omega
      have q1:(k:Int) < 10:=by omega
      have g0:=fun W=>b2c c0 c1 c2 c3 c4 c5 c6 c7 c8 c9 k D W
      have f3:Hid (fL ([c0,c1,c2,c3,c4,c5,c6,c7,c8,c9].take (k+1))=fL ([c0,c1,c2,c3,c4,c5,c6,c7,c8,c9].take k)++dF (bT [c0,c1,c2,c3,c4,c5,c6,c7,c8,c9] k+1).toNat):=by
       unfold Hid;rw[c4o [c0,c1,c2,c3,c4,c5,c6,c7,c8,c9] k D,b1n,pW];simp[fL]
      have f4:Hid ((L5++fL ([c0,c1,c2,c3,c4,c5,c6,c7,c8,c9].take k)).length≤100000):=by
       have h1:=b6s ([c0,c1,c2,c3,c4,c5,c6,c7,c8,c9].take k) (fun c hc=>(J.out c (List.mem_of_mem_take hc)).2);have h2:=e0.out;have h3:([c0,c1,c2,c3,c4,c5,c6,c7,c8,c9].take k).length≤10:=by rw[aJ];omega
       unfold Hid;rw[aE];omega
      have hd:=J.out (bT [c0,c1,c2,c3,c4,c5,c6,c7,c8,c9] k) (a7w (l:=[c0,c1,c2,c3,c4,c5,c6,c7,c8,c9]) k D);obtain⟨f8,f9⟩:=hd;generalize fL ([c0,c1,c2,c3,c4,c5,c6,c7,c8,c9].take k)=E at *
      generalize bT [c0,c1,c2,c3,c4,c5,c6,c7,c8,c9] k=d at *
      have g1:IntKind.i64.wrap (d+1)=d+1:=by rw[aQ];omega
      have f5:Hid (gR (d+1)):=⟨by omega,by omega⟩
      clear f8 f9;go_wp2_with fail
      (with_reducible refine(a2v w.heap.size w wr _ (L5++E) (d+1) (aF _) s.out m.out f4.out f5.out).mono ?_)
      rintro e W6 ⟨a6,n6,k6,rfl,a8,a9⟩;have f6:Hid (fB bv w.heap.size 5 W6 (.slice a6 n6 k6) (L5++fL ([c0,c1,c2,c3,c4,c5,c6,c7,c8,c9].take (k+1)))):=by unfold Hid;rw[f3.out,← bN];exact a8.out
      have f7:=bG a9;clear a8 a9;go_wp2_with fail
      go_roundw
      case rel=>exact⟨k+1,a6,n6,k6,by omega,by go_num,rfl,f6,f7⟩
      case measure=>simp[intOf];omega
     ·obtain rfl:k=10:=by omega
      go_wp2_with fail
      go_ret;exact⟨_,rfl,s.out,m.out⟩
end Go.Proofs.YthgnlfikneipiaaGreat
namespace Go.Proofs.YthgnlfikneipiaaGreat
abbrev fv (p:ByteArray×Sl):Value := .agg #[sv p.1,gF p.2]
open Go.RowKit
abbrev kK (p:Int×(ByteArray×Sl)):List Value:=[iv p.1,sv p.2.1,gF p.2.2]
theorem fJ:∀ p,(kK p).length=3:=fun _=>rfl
theorem sU:(Tryz.prog.info? 171).map (fun i=>(i.zero,i.size,i.bytes))=some (some (.agg #[.int .i64 0,.string ⟨#[]⟩,.slice none 0 0]),3,48):=by kernel_rfl
abbrev dP:Int→Int→Bool:=fun a b=>decide (a < b)
structure jK (base:Nat) (w:World) (g:Nat) (lv:Value) (l:List (Int×(ByteArray×Sl))):Prop where
 tab:cU w g 145 [lv]
 rows:cF 3 kK base 171 w lv l
 gb:base≤g
section
variable {base : Nat} {g : Nat} {lv : Value} {l : List (Int × (ByteArray × Sl))} {w w' : World}
theorem jK.upd (h:jK base w g lv l) {S:List Nat} (hu:bR S w w') (hs:∀ x∈g::blk lv,x∉S):jK base w' g lv l :=
 ⟨h.tab.upd hu (hs g (by simp)),h.rows.upd hu (fun x a=>hs x (by simp[a])),h.gb⟩
theorem jK.upd0 (h:jK base w g lv l) (hu:bR [] w w'):jK base w' g lv l:=h.upd hu (by simp)
theorem jK.g_lv (h:jK base w g lv l):g∉blk lv:=fun e=>by
 obtain⟨C,f,a⟩:=h.rows.typ g e;exact h.tab.ne g a (by decide) rfl
theorem jK.lt (h:jK base w g lv l):∀ x∈g::blk lv,base≤x∧x < w.heap.size:=by
 intro x a;rcases aG.1 a with rfl|a
 ·exact⟨h.gb,h.tab.lt⟩
 ·exact h.rows.ge x a
theorem b6t (w:World) (hs:jK base w g lv l) :
  Calls Tryz.prog 38 #[.pointer (some ⟨g,0,none⟩)] w fun e w'=>e = .returned (.int .i64 (l.length:Int))∧w=w':=by
 obtain⟨a,b,rfl,-⟩:=hs.rows.rd fJ;have c0:w.cell? ⟨g,0,none⟩=some (.slice a l.length b):=hs.tab.cell 0;go_enter Tryz.func38,Tryz.ntmps38;go_wp2
 go_ret;exact⟨rfl,rfl⟩
theorem b6u (w:World) :
  Calls Tryz.prog 30 #[] w fun e w'=>e = .returned (.pointer (some ⟨w.heap.size,0,none⟩))∧jK w.heap.size w' w.heap.size (.slice none 0 0) []∧bR [] w w':=by
 go_enter Tryz.func30,Tryz.ntmps30;go_wp2
 go_ret;exact⟨rfl,⟨cU.new w _ [.slice none 0 0],cF.nil _ _ _,aF _⟩,(bR.refl [] w).alloc _⟩
theorem jT (w:World) (k:Int) (hs:jK base w g lv l) (hr:bV dP l) (hlen:l.length≤100000) (hk:gR k) :
  Calls Tryz.prog 62 #[.pointer (some ⟨g,0,none⟩),iv k] w fun e w'=>e = .returned (.tuple #[.int .i64 (below dP l k:Int),.bool (cB dP l k)])∧bR [] w w':=by
 have W:=bG hs;have L:=bG hr;obtain⟨Q,R,rfl,S,F,o⟩:=hs.rows.rd fJ;have c0:w.cell? ⟨g,0,none⟩=some (.slice Q l.length R):=hs.tab.cell 0;have M:=bG o;clear hs hr o F;go_enter Tryz.func62,Tryz.ntmps62;go_wp2_with fail
 go_quiet (fail)
 have r:=bG ((bR.refl [] w).drewN nq);generalize w.drewN nq=v at *
 replace c0:=r.out.cell c0 (by simp)
 go_wp2_with fail
 go_loop [6,7] (fun I J=>∃ a b:Nat,I = .int .i64 a∧J = .int .i64 b∧a≤b∧b≤l.length∧Hid (∀ j,j < a→dP (bT l j).1 k=true)∧Hid (∀ j,b≤j→j < l.length→dP (bT l j).1 k=false)) (fun I J=>(intOf J).toNat-(intOf I).toNat)
 case atStart=>exact⟨0,l.length,rfl,rfl,aS _,aF _,fun j h=>absurd h (by omega),fun j K N=>absurd K (by omega)⟩
 case round =>
  obtain⟨a,b,rfl,rfl,T,y,z,A⟩:=hrel;by_cases U:a < b
  ·have d:(a+b) / 2 < l.length:=by omega
   obtain⟨G,t,rfl,B⟩:=M.out (by intro h;simp[h] at d);have O:v.cell? ⟨G,t+(a+b) / 2*3,none⟩=some (iv (bT l ((a+b) / 2)).1):=r.out.cell (B _ d 0 (by omega)) (by simp);clear B;cases c:dP (bT l ((a+b) / 2)).1 k with
   | true =>
    have C:Hid (∀ j,j < (a+b) / 2+1→dP (bT l j).1 k=true):=fun j Z=>L.out.mono jH k j ((a+b) / 2) (by omega) d c
    generalize (bT l ((a+b) / 2)).1=m at *
    have D:m < k:=by simpa using c
    clear c;go_wp2
    go_round
    case rel=>exact⟨(a+b) / 2+1,b,by go_num,rfl,by omega,y,C,A⟩
    case measure=>simp[intOf];omega
   | false =>
    have E:Hid (∀ j,(a+b) / 2≤j→j < l.length→dP (bT l j).1 k=false):=fun j K N=>by
     cases V:dP (bT l j).1 k with
     | false=>rfl
     | true=>exact absurd ((L.out.mono jH k _ j K N V).symm.trans c) (by simp)
    generalize (bT l ((a+b) / 2)).1=m at *
    have D:¬ m < k:=by simpa using c
    clear c;go_wp2
    go_round
    case rel=>exact⟨a,(a+b) / 2,rfl,by go_num,by omega,by omega,z,E⟩
    case measure=>simp[intOf];omega
  ·obtain rfl:a=b:=by omega
   have f:below dP l k=a:=nD l k a y z.out (fun h=>A.out a (aF _) h);have u:Hid (cB dP l k=decide (a < l.length∧(bT l a).1=k)):=by unfold Hid cB;rw[f]
   have i:=bG f;clear f;by_cases p:a < l.length
   ·obtain⟨G,t,rfl,B⟩:=M.out (by intro h;simp[h] at p);have O:v.cell? ⟨G,t+a*3,none⟩=some (iv (bT l a).1):=r.out.cell (B _ p 0 (by omega)) (by simp);have s:Hid (cB dP l k=decide ((bT l a).1=k)):=by unfold Hid;rw[u.out];simp[p]
    clear B;generalize (bT l a).1=m at *
    have X:(0:Int)≤a:=by omega
    have Y:(a:Int) < l.length:=by omega
    by_cases he:m=k
    ·have P:(m==k)=true:=by simpa using he
     have x:Hid (cB dP l k=true):=by unfold Hid;rw[s.out];simp[he]
     clear he;go_wp2_with fail
     go_quiet (fail)
     go_wp2_with fail
     go_ret2
     exact⟨by rw[i.out,x.out];rfl,by first|exact r.out.drewN _|exact r.out.drew⟩
    ·have P:(m==k)=false:=by simpa using he
     have x:Hid (cB dP l k=false):=by unfold Hid;rw[s.out];simp[he]
     clear he;go_wp2_with fail
     go_quiet (fail)
     go_wp2_with fail
     go_ret2
     exact⟨by rw[i.out,x.out];rfl,by first|exact r.out.drewN _|exact r.out.drew⟩
   ·have x:Hid (cB dP l k=false):=by unfold Hid;rw[u.out];simp[p]
    have hd:decide (a < l.length)=false:=by simpa using p
    go_wp2_with fail
    go_quiet (fail)
    go_wp2_with fail
    go_ret2
    exact⟨by rw[i.out,x.out];rfl,by first|exact r.out.drewN _|exact r.out.drew⟩
end
theorem wJ:∀ p,∀ u∈kK p,u.oneCell'=true:=by intro p u a;simp[kK] at a;rcases a with rfl|rfl|rfl<;>rfl
theorem a5y:Tryz.prog.underlying 143=some (.slice 171):=by kernel_rfl
section
variable {base : Nat} {g : Nat} {lv : Value} {l : List (Int × (ByteArray × Sl))} {w w' : World}
theorem d6k (w:World) (v:Value) (i:Nat) (hs:cF 3 kK base 171 w v l) (hi:i < l.length) (hlen:l.length≤100000) :
  Calls Tryz.prog 64 #[v,.int .i64 (i:Int),.int .i64 ((i:Int)+1)] w fun e w'=>∃ v',e = .returned v'∧cF 3 kK base 171 w' v' (l.take i++l.drop (i+1))∧bR (blk v) w w'∧blk v'=blk v:=by
 rcases hs.2 with⟨-,L⟩|⟨g,cap,Q,rfl,-⟩
 ·omega
 obtain⟨-,V,W,X,b,I,t,F⟩:=hs.open_ fJ;obtain⟨m,G⟩:∃ m,l.length=i+1+m:=⟨l.length-(i+1),by omega⟩
 have f:((l.drop (i+1)).flatMap kK).length=m*3:=by rw[dH fJ,aH,G];congr 1;omega
 have z:((l.take i).flatMap kK).length=i*3:=by rw[dH fJ,aJ];congr 1;omega
 have o:((l.take (i+1)).flatMap kK).length=(i+1)*3:=by rw[dH fJ,aJ];congr 1;omega
 have B:eP b 0 ((l.take i).flatMap kK):=by rw[gO kK l i] at F;exact F.left
 have C:eP b ((i+1)*3) ((l.drop (i+1)).flatMap kK):=by rw[gO kK l (i+1)] at F;have:=F.right;rwa[o,aM] at this
 generalize y:(l.drop (i+1)).flatMap kK=cs at *
 have D:(i+1+m)*3≤b.size:=by rw[t];exact bO 3 (by omega)
 have a:i*3+cs.length≤b.size:=by rw[f];omega
 obtain⟨A,hA,p⟩:∃ A:Addr,(if cap=i+1 then some (⟨g,0,none⟩:Addr) else some ⟨g,(i+1)*3,none⟩)=some A∧∀ j u,cs[j]?=some u→w.cell? (A.add j)=some u:=by
  by_cases h:cap=i+1
  ·refine⟨⟨g,0,none⟩,by simp[h],fun j u x=>?_⟩;have L:cs.length=0:=by rw[f];omega
   rw[List.length_eq_zero_iff.1 L] at x;simp at x
  ·refine⟨⟨g,(i+1)*3,none⟩,by simp[h],fun j u x=>?_⟩;rw[dB];exact C.cell I j u x
 have E:∀ u∈cs,u.oneCell'=true:=by rw[← y];exact kI wJ _
 have R:=bG (fun ty c=>rM (P:=Tryz.prog) (ty:=ty) (n:=i) (m:=m) (cap:=cap) (c:=c) (sz:=3) a5y (by kernel_rfl) w.drew I f p E (by omega) a);have J:=oO b (i*3) cs a;have M:=B.stay (i*3) cs a (.inl (by omega));have N:=eP.lay b (i*3) cs a;generalize iE b (i*3) cs=cur1 at *
 have r:(w.drew.setRow g cur1).heap[g]?=some (.cells cur1 171 (0,0)):=setRow_heap w.drew g b cur1 _ _ I;have d:(i+m)*3+1*3≤cur1.size:=by rw[J];omega
 have S:i+1+m-(i+m)=1:=by omega
 have O:=(fun ty c=>oP (P:=Tryz.prog) (ty:=ty) (c:=c) (n:=1) a5y sU rfl (by intro u x;simp[Value.cells] at x;rcases x with rfl|rfl|rfl<;>rfl) (w.drew.setRow g cur1) (by omega) r d)
 have T:Hid (∀ ty c,(Builtin.clear_ #[143] ty #[.slice (some ⟨g,(i+m)*3,none⟩) (i+1+m-(i+m)) c]).run Tryz.prog (w.drew.setRow g cur1) = .ok (.tuple #[]) ((w.drew.setRow g cur1).setRow g (iE cur1 ((i+m)*3) (Builtin.zeroCells (Value.agg #[.int .i64 0,.string ⟨#[]⟩,.slice none 0 0]).cells 1).toList))):=fun ty c=>by rw[S];exact O ty c
 clear O;have HK:=bG (show cF 3 kK base 171 ((w.drew.setRow g cur1).setRow g (iE cur1 ((i+m)*3) (Builtin.zeroCells (Value.agg #[.int .i64 0,.string ⟨#[]⟩,.slice none 0 0]).cells 1).toList)) (.slice (some ⟨g,0,none⟩) (i+m) cap) (l.take i++l.drop (i+1)) from by
  have K:(Builtin.zeroCells (Value.agg #[.int .i64 0,.string ⟨#[]⟩,.slice none 0 0]).cells 1).toList.length=3:=by rw[bD,size_zeroCells];rfl
  have s:(i+m)*3+(Builtin.zeroCells (Value.agg #[.int .i64 0,.string ⟨#[]⟩,.slice none 0 0]).cells 1).toList.length≤cur1.size:=by rw[K];omega
  refine cF.of_piece fJ _ (by simp;omega) V (by simp;omega) X (setRow_heap _ g cur1 _ _ _ r) (by rw[oO _ _ _ s,J,t]) ?_;rw[bL,y];refine(M.stay _ _ s (.inl (by omega))).app ?_;rw[z,aM (i*3)];exact N.stay _ _ s (.inl (by omega)))
 clear hs F B C t I f z o p E a J M N r d y D;rw[G] at hlen W ⊢;have U:IntKind.i64.wrap ((i:Int)+1)=(i:Int)+1:=by rw[aQ];omega
 have Y:(0:Int)≤(i:Int)+1:=by omega
 have Z:(i:Int)+1≤(i:Int)+1+(m:Int):=by omega
 have q3:((i:Int)+1).toNat=i+1:=by omega
 have q4:i+1+m-(i+1)=m:=by omega
 have q5:i≤cap:=by omega
 have q6:¬ (cap=i+m):=by omega
 have q8:i+m≤i+1+m:=by omega
 have q9:(i:Int)+(m:Int)≤(i:Int)+1+(m:Int):=by omega
 go_enter Tryz.func64,Tryz.ntmps64;go_wp2_with fail
 go_region_law (refine rN rfl (.tmp 22) (.tmp 25) 143 rfl (.slice (some ⟨g,0,none⟩) i cap) (.slice (some A) m (cap-(i+1))) (by simp[Act.eval,Act.put]) (by simp[Act.eval,Act.put]) (R.out _ _) ?_)
 go_wp2_with (with_reducible refine mB rfl (.tmp 31) 143 rfl (.slice (some ⟨g,(i+m)*3,none⟩) (i+1+m-(i+m)) (cap-(i+m))) rfl (T.out _ _) ?_)
 go_ret;exact⟨_,rfl,HK.out,((bR.refl [g] w).drew.setRow g _ (.inl (by simp))).setRow g _ (.inl (by simp)),rfl⟩
theorem c4p (w:World) (k:Int) (hs:jK base w g lv l) (hr:bV dP l) (hlen:l.length≤100000) (hk:gR k) (hn:cB dP l k=false) :
  Calls Tryz.prog 41 #[.pointer (some ⟨g,0,none⟩),iv k] w fun e w'=>e = .returned (.bool false)∧bR [] w w':=by
 have a:=jT w k hs hr hlen hk;rw[hn] at a;have c:=bG a;clear hs hr hlen hk a hn;go_enter Tryz.func41,Tryz.ntmps41;go_wp2_with fail
 with_reducible refine c.out.mono ?_
 rintro e d ⟨rfl,b⟩;go_wp2_with fail
 go_ret;exact⟨rfl,b⟩
theorem b6v (w:World) (k:Int) (hs:jK base w g lv l) (hr:bV dP l) (hlen:l.length≤100000) (hk:gR k) (hn:cB dP l k=true) :
  Calls Tryz.prog 41 #[.pointer (some ⟨g,0,none⟩),iv k] w fun e w'=>e = .returned (.bool true)∧∃ lv',jK base w' g lv' (l.take (below dP l k)++l.drop (below dP l k+1))∧bR (g::blk lv) w w'∧blk lv'=blk lv:=by
 have u:=jT w k hs hr hlen hk;rw[hn] at u;have C:=bG u;have p:=bG hs;unfold cB at hn;have v:=(bI hn).1;have D:=bG (fun r (h:bR [] w r)=>d6k r lv (below dP l k) (hs.rows.upd h (by simp)) v hlen);have E:=bG (show w.cell? ⟨g,0,none⟩=some lv from hs.tab.cell 0);obtain⟨z,n,A,rfl⟩:=hs.rows.slice_;clear hs hr hk u hn;generalize below dP l k=i at *
 have F:IntKind.i64.wrap ((i:Int)+1)=(i:Int)+1:=by rw[aQ];omega
 go_enter Tryz.func41,Tryz.ntmps41;go_wp2_with fail
 with_reducible refine C.out.mono ?_
 rintro e r ⟨rfl,j⟩;have G:=j.cell E.out (by simp);have c:=bG j;go_wp2_with fail
 with_reducible refine(D.out r c.out).mono ?_
 rintro e s ⟨K,rfl,m,b,o⟩;have a:=p.out.g_lv;have J:s.frozen? ⟨g,0,none⟩=false:=((p.out.tab.upd c.out (by simp)).upd b a).frozen 0;have d2:s.cell? ⟨g,0,none⟩=some (.slice z n A):=b.cell G a;obtain⟨d,t,f,rfl⟩:=m.slice_
 have I:=bG (show jK base (s.setCell ⟨g,0,none⟩ (.slice d t f)) g (.slice d t f) (l.take i++l.drop (i+1)) from
  ⟨by simpa using((p.out.tab.upd c.out (by simp)).upd b a).set_ 0 (.slice d t f),m.upd ((bR.refl [g] _).setCell _ _ (.inl (by simp))) (by rw[o];intro x B;simp;rintro rfl;exact a B),p.out.gb⟩)
 have y:=bG (show bR (g::blk (.slice z n A)) w (s.setCell ⟨g,0,none⟩ (.slice d t f)) from(c.out.trans (T:=g::blk (.slice z n A)) b (by simp) (fun x B => .inl (by simp[B]))).setCell _ _ (.inl (by simp)));clear m j b a;go_wp2_with fail
 go_ret;exact⟨rfl,_,I.out,y.out,o⟩
end
section
variable {base : Nat} {g : Nat} {lv : Value} {l : List (Int × (ByteArray × Sl))} {w w' : World}
theorem b6w (w:World) (k:Int) (hs:jK base w g lv l) (hr:bV dP l) (hlen:l.length≤100000) (hk:gR k) :
  Calls Tryz.prog 41 #[.pointer (some ⟨g,0,none⟩),iv k] w fun e w'=>e = .returned (.bool (cB dP l k))∧∃ lv',jK base w' g lv' (fS dP l k)∧bR (g::blk lv) w w'∧(∀ x∈blk lv',x∈blk lv∨w.heap.size≤x):=by
 cases b:cB dP l k with
 | false =>
  refine(c4p w k hs hr hlen hk b).mono ?_;rintro e w' ⟨rfl,a⟩;exact⟨rfl,lv,by unfold fS;rw[b];exact hs.upd0 a,a.mono (by simp),fun x c => .inl c⟩
 | true =>
  refine(b6v w k hs hr hlen hk b).mono ?_;rintro e w' ⟨rfl,d,f,a,h⟩;exact⟨rfl,d,by unfold fS;rw[b];exact f,a,fun x c => .inl (by rw[← h];exact c)⟩
end
section
variable {base : Nat} {g : Nat} {lv : Value} {l : List (Int × (ByteArray × Sl))} {w w' : World}
theorem b2f (w:World) (v:Value) (vb:Nat) (x:Int×(ByteArray×Sl)) (hs:cF 3 kK base 171 w v l) (hlen:l.length≤100000) (hbs:base≤w.heap.size) (hv:cU w vb 171 (kK x)) :
  Calls Tryz.prog 63 #[v,.int .i64 (l.length:Int),.slice (some ⟨vb,0,none⟩) 1 1] w fun e w'=>∃ v',e = .returned v'∧cF 3 kK base 171 w' v' (l++[x])∧bR (blk v) w w'∧(∀ y∈blk v',y∈blk v∨w.heap.size≤y):=by
 have b:qW 3 kK w (.slice (some ⟨vb,0,none⟩) 1 1) [x]:=⟨_,1,rfl,by simp,by simp[maxLen],fun _=>⟨vb,0,rfl,fun j o i G=>by
  simp at o;subst o;rw[hv.cell];simp[cP]⟩⟩
 have p:=bG (fun ty=>fR (P:=Tryz.prog) (ty:=ty) fJ (by decide) wJ a5y sU rfl v _ l [x] hs b (by simp;omega) (by simp[maxLen];omega) hbs);obtain⟨s,n,c,rfl⟩:=hs.slice_;have r:n=l.length∧l.length≤c:=by
  rcases hs.2 with⟨he,u⟩|⟨_,_,_,he,_,_,z,_⟩
  ·injection he with A h m;subst h;subst m;exact⟨u.symm,by omega⟩
  ·injection he with A h m;subst h;subst m;exact⟨rfl,z⟩
 obtain⟨rfl,t⟩:=r;clear hs b hv;have hd:c=l.length∨¬ c=l.length:=by omega
 rcases hd with hd|hd
 all_goals
  go_enter Tryz.func63,Tryz.ntmps63;go_wp2_with (at_builtin;refine cQ rfl _ _ rfl (.slice s l.length c) (.slice (some ⟨vb,0,none⟩) 1 1) rfl rfl (p.out _) ?_;rintro B C ⟨a,f,g⟩;have d:=bG a;obtain⟨D,E,F,rfl⟩:=a.slice_;clear a)
  go_ret;exact⟨_,rfl,d.out,f,g⟩
theorem e6g (w:World) (vb gb vo go_ la ca lb cb kA kB:Nat) (tA tB:TypeId) (hne:vb≠gb) (hsa:w.shape? vb=some (tA,kA)) (hsb:w.shape? gb=some (tB,kB)) (hkB:kB≠0) (hfa:w.frozen? ⟨vb,vo,none⟩=false) (hfe:w.frozen? ⟨vb,kA,none⟩=false) :
  (callFunc 104 #[.slice (some ⟨vb,vo,none⟩) la ca,.slice (some ⟨gb,go_,none⟩) lb cb]).run Tryz.prog w = .ok (.value (.bool false)) w:=by
 have a:∀ w,(sizeOf 171).run Tryz.prog w = .ok 3 w:=by
  intro w;obtain⟨i,b,d,c,f⟩:=info_parts sU;simp[sizeOf,typeInfo,b,c]
 rw[run_callFunc_extern Tryz.func104 (by kernel_rfl) (by kernel_rfl) (by kernel_rfl) (e:=Extern.SlicesOverlaps.overlaps #[143,143] #[4]) (by kernel_rfl),
  Lib.run_overlaps_apart w 143 4 171 a5y 3 a ⟨vb,vo,none⟩ ⟨gb,go_,none⟩ la ca lb cb hne tA tB kA kB hsa hsb hkB hfa hfe]
 rfl
theorem a4i (w:World) (g n cap i:Nat) (vb:Nat) (x:Int×(ByteArray×Sl)) (hs:cF 3 kK base 171 w (.slice (some ⟨g,0,none⟩) n cap) l) (hi:i < l.length) (hroom:l.length+1≤cap) (hlen:l.length≤100000) (hv:cU w vb 171 (kK x)) (hvg:vb≠g) :
  Calls Tryz.prog 63 #[.slice (some ⟨g,0,none⟩) n cap,.int .i64 (i:Int),.slice (some ⟨vb,0,none⟩) 1 1] w fun e w'=>∃ v',e = .returned v'∧cF 3 kK base 171 w' v' (l.take i++x::l.drop i)∧bR [g] w w'∧(∀ y∈blk v',y∈[g]∨w.heap.size≤y):=by
 obtain⟨rfl,j,W1,F,m,o,HK,p,r,s,a,b,c,d,f⟩:=sS fJ (by decide) wJ a5y (by kernel_rfl) hs hi hroom hv hvg;have h:=bG (fun C D=>e6g w vb g 0 ((i+1)*3) 1 1 C D r s _ _ hvg a b c d f);clear hs hv a b c d f;generalize l.length=n at *
 obtain⟨G,I,J,K,L,M,N,O,P,Q,t,u,v,z,A,B⟩:=rP hi hlen hroom j;go_enter Tryz.func63,Tryz.ntmps63;go_wp2_with (simp only[h.out])
 go_region_law (refine fU rfl (.tmp 73) (.tmp 76) 143 143 rfl (.slice (some ⟨g,(i+1)*3,none⟩) (n+1-(i+1)) (cap-(i+1))) (.slice (some ⟨g,i*3,none⟩) (n+1-i) (cap-i)) (by simp[Act.eval,Act.put]) (by simp[Act.eval,Act.put]) (m.out _ _ _) ?_)
 go_wp2_with (with_reducible refine eG rfl (.tmp 80) (.tmp 81) 143 143 rfl (.slice (some ⟨g,i*3,none⟩) (n+1-i) (cap-i)) (.slice (some ⟨vb,0,none⟩) 1 1) rfl rfl (o.out _ _) ?_)
 go_ret;exact⟨_,rfl,HK.out,p.out,fun y E => .inl (by simpa [blk] using E)⟩
theorem a8a (w:World) (g n cap i:Nat) (vb:Nat) (x:Int×(ByteArray×Sl)) (hs:cF 3 kK base 171 w (.slice (some ⟨g,0,none⟩) n cap) l) (hi:i < l.length) (hroom:cap < l.length+1) (hlen:l.length≤100000) (hbs:base≤w.heap.size) (hv:cU w vb 171 (kK x)) :
  Calls Tryz.prog 63 #[.slice (some ⟨g,0,none⟩) n cap,.int .i64 (i:Int),.slice (some ⟨vb,0,none⟩) 1 1] w fun e w'=>∃ v',e = .returned v'∧cF 3 kK base 171 w' v' (l.take i++x::l.drop i)∧bR [g] w w'∧(∀ y∈blk v',y∈[g]∨w.heap.size≤y):=by
 obtain⟨rfl,rfl,c,G,W1,z,A,a,b,d,f,h,j,HK,m⟩:=wI (Ti:=3) fJ (by decide) wJ a5y sU rfl (by decide) (by kernel_rfl) hs hi hroom hlen hbs hv;clear hs hroom hv;generalize l.length=n at *
 obtain⟨B,C,D,E,F,I,J,K,L,M,o,p,r,s,t,u⟩:=rP hi hlen a b;go_enter Tryz.func63,Tryz.ntmps63
 go_wp2_with (first
  | (at_builtin;refine lM rfl _ _ 143 3 rfl (.slice (some ⟨g,0,none⟩) i n) (.int .i64 ((n:Int)+1-(i:Int))) rfl rfl (f.out _) ?_)
  | (with_reducible refine eG rfl (.tmp 43) (.tmp 44) 143 143 rfl (.slice (some ⟨c,i*3,none⟩) (n+1-i) (G-i)) (.slice (some ⟨vb,0,none⟩) 1 1) rfl rfl (h.out _ _) ?_))
 go_region_law (refine fU rfl (.tmp 50) (.tmp 53) 143 143 rfl (.slice (some ⟨c,(i+1)*3,none⟩) (n+1-(i+1)) (G-(i+1))) (.slice (some ⟨g,i*3,none⟩) (n-i) (n-i)) (by simp[Act.eval,Act.put]) (by simp[Act.eval,Act.put]) (j.out _ _ _) ?_)
 go_wp2_with fail
 go_ret;exact⟨_,rfl,HK.out,m.out,fun y v => .inr (by simp[blk] at v;have:=d.out;omega)⟩
theorem b2g (w:World) (v:Value) (i:Nat) (vb:Nat) (x:Int×(ByteArray×Sl)) (hs:cF 3 kK base 171 w v l) (hi:i≤l.length) (hlen:l.length≤100000) (hbs:base≤w.heap.size) (hv:cU w vb 171 (kK x)) (hvg:vb∉blk v) :
  Calls Tryz.prog 63 #[v,.int .i64 (i:Int),.slice (some ⟨vb,0,none⟩) 1 1] w fun e w'=>∃ v',e = .returned v'∧cF 3 kK base 171 w' v' (l.take i++x::l.drop i)∧bR (blk v) w w'∧(∀ y∈blk v',y∈blk v∨w.heap.size≤y):=by
 by_cases he:i=l.length
 ·subst he;rw[aV,List.drop_length];exact b2f w v vb x hs hlen hbs hv
 ·rcases hs.2 with⟨-,d⟩|⟨g,a,b,rfl,-⟩
  ·omega
  ·by_cases c:l.length+1≤a
   ·exact a4i w g l.length a i vb x hs (by omega) c hlen hv (by simpa [blk] using hvg)
   ·exact a8a w g l.length a i vb x hs (by omega) (by omega) hlen hbs hv
end
theorem qB {w:World} {b:Nat} {e:TypeId} {x0 y0:Value} (h:cU w b e [x0,y0]) (x y:Value):cU ((w.setCell ⟨b,0,none⟩ x).setCell ⟨b,1,none⟩ y) b e [x,y]:=by
 have:=(h.set_ 0 x).set_ 1 y;simpa using this
abbrev zF:ByteArray×Sl:=(⟨#[]⟩,⟨none,0,0⟩)
section
variable {base : Nat} {g : Nat} {lv : Value} {l : List (Int × (ByteArray × Sl))} {w w' : World}
theorem c4q (w:World) (k:Int) (hs:jK base w g lv l) (hr:bV dP l) (hlen:l.length≤100000) (hk:gR k) (hn:cB dP l k=false) :
  Calls Tryz.prog 39 #[.pointer (some ⟨g,0,none⟩),iv k] w fun e w'=>e = .returned (.tuple #[fv zF,.bool false])∧bR [] w w':=by
 have b:=(bR.refl [] w).alloc (.cells #[.string ⟨#[]⟩,.slice none 0 0] 103);have f:=jT _ k (hs.upd0 b) hr hlen hk;rw[hn] at f;have m:=bG f;have h:=bG b;clear hs hr hlen hk f hn b;go_enter Tryz.func39,Tryz.ntmps39;go_wp2_with fail
 (with_reducible refine m.out.mono ?_)
 rintro e d ⟨rfl,a⟩;have t:d.cell? ⟨w.heap.size,0,none⟩=some (.string ⟨#[]⟩):=a.cell (by go_simp) (by simp);have u:d.cell? ⟨w.heap.size,1,none⟩=some (.slice none 0 0):=a.cell (by go_simp) (by simp);have c:=(cU.new w 103 [.string ⟨#[]⟩,.slice none 0 0]).upd a (by simp);have x:=c.frozen 0;have y:=c.frozen 1;have i:=bG ((qB c (.string ⟨#[]⟩) (.slice none 0 0)).upd ((bR.refl [] _).alloc (.cells #[.string ⟨#[]⟩,.slice none 0 0] 103)) (by simp));have j:Hid (bR [] w (((d.setCell ⟨w.heap.size,0,none⟩ (.string ⟨#[]⟩)).setCell ⟨w.heap.size,1,none⟩ (.slice none 0 0)).alloc (.cells #[.string ⟨#[]⟩,.slice none 0 0] 103))) :=
  (((h.out.seq a).setCell _ _ (.inr (aF _))).setCell _ _ (.inr (aF _))).alloc _
 have o:w.heap.size < d.heap.size:=c.lt;clear c;go_wp2_with fail
 have p:=i.out.cell 0;have r:=i.out.cell 1;have s:=j.out;clear i j;generalize World.alloc _ _=W at *
 exact bodyPost_ret (v := .tuple #[fv zF,.bool false]) (by simp[results,Tryz.results39,go_sem,p,r];try rfl) rfl ⟨rfl,s⟩
theorem c4r (w:World) (k:Int) (hs:jK base w g lv l) (hr:bV dP l) (hlen:l.length≤100000) (hk:gR k) (hn:cB dP l k=true) :
  Calls Tryz.prog 39 #[.pointer (some ⟨g,0,none⟩),iv k] w fun e w'=>e = .returned (.tuple #[fv (bT l (below dP l k)).2,.bool true])∧bR [] w w':=by
 have f:=(bR.refl [] w).alloc (.cells #[.string ⟨#[]⟩,.slice none 0 0] 103);have r:=jT _ k (hs.upd0 f) hr hlen hk;rw[hn] at r;have A:=bG r;have d:=bG f;unfold cB at hn;have j:=(bI hn).1;obtain⟨T,L,rfl,M,t,c⟩:=hs.rows.rd fJ;obtain⟨b,m,rfl,o⟩:=c (by intro h;simp[h] at j);have B:=bG (show w.cell? ⟨g,0,none⟩=some (.slice (some ⟨b,m,none⟩) l.length L) from hs.tab.cell 0);have C:=bG (show w.cell? ⟨b,m+below dP l k*3+1,none⟩=some (sv (bT l (below dP l k)).2.1) from o _ j 1 (by omega));have D:=bG (show w.cell? ⟨b,m+below dP l k*3+2,none⟩=some (gF (bT l (below dP l k)).2.2) from o _ j 2 (by omega));clear hs hr hk r hn c o t f;generalize (bT l (below dP l k)).2=x at *
 obtain⟨u,sl⟩:=x;generalize below dP l k=i at *
 have N:(0:Int)≤i:=by omega
 have O:(i:Int) < l.length:=by omega
 go_enter Tryz.func39,Tryz.ntmps39;go_wp2_with fail
 (with_reducible refine A.out.mono ?_)
 rintro e y ⟨rfl,a⟩;have E:=(d.out.seq a).cell B.out (by simp);have F:=(d.out.seq a).cell C.out (by simp);have G:=(d.out.seq a).cell D.out (by simp);have P:y.cell? ⟨w.heap.size,0,none⟩=some (.string ⟨#[]⟩):=a.cell (by go_simp) (by simp);have Q:y.cell? ⟨w.heap.size,1,none⟩=some (.slice none 0 0):=a.cell (by go_simp) (by simp);have p:=(cU.new w 103 [.string ⟨#[]⟩,.slice none 0 0]).upd a (by simp);have R:=p.frozen 0;have S:=p.frozen 1;have s:=bG (qB p (sv u) (gF sl));have z:Hid (bR [] w ((y.setCell ⟨w.heap.size,0,none⟩ (sv u)).setCell ⟨w.heap.size,1,none⟩ (gF sl))) :=
  ((d.out.seq a).setCell _ _ (.inr (aF _))).setCell _ _ (.inr (aF _))
 clear p;go_wp2_with fail
 have I:=s.out.cell 0;have J:=s.out.cell 1;have K:=z.out;clear s z;generalize World.setCell _ _ _=W at *
 exact bodyPost_ret (v := .tuple #[fv (u,sl),.bool true]) (by simp[results,Tryz.results39,go_sem,I,J];try rfl) rfl ⟨rfl,K⟩
end
section
variable {base : Nat} {g : Nat} {lv : Value} {l : List (Int × (ByteArray × Sl))} {w w' : World}
theorem d0f (w:World) (i:Nat) (hs:jK base w g lv l) (hlen:l.length≤100000) (hi:i < l.length) :
  Calls Tryz.prog 61 #[.pointer (some ⟨g,0,none⟩),.int .i64 (i:Int)] w fun e w'=>e = .returned (.tuple #[iv (bT l i).1,fv (bT l i).2,.bool true])∧bR [] w w':=by
 obtain⟨Q,E,rfl,F,p,d⟩:=hs.rows.rd fJ;obtain⟨b,f,rfl,j⟩:=d (by intro h;simp[h] at hi);have t:=bG (show w.cell? ⟨g,0,none⟩=some (.slice (some ⟨b,f,none⟩) l.length E) from hs.tab.cell 0);have u:=bG (show w.cell? ⟨b,f+i*3,none⟩=some (iv (bT l i).1) from j _ hi 0 (by omega));have z:=bG (show w.cell? ⟨b,f+i*3+1,none⟩=some (sv (bT l i).2.1) from j _ hi 1 (by omega));have A:=bG (show w.cell? ⟨b,f+i*3+2,none⟩=some (gF (bT l i).2.2) from j _ hi 2 (by omega));clear hs d j p;generalize (bT l i).1=x at *
 generalize (bT l i).2=y at *
 obtain⟨m,sl⟩:=y;have G:(0:Int)≤i:=by omega
 have I:(i:Int) < l.length:=by omega
 have c:=bG ((bR.refl [] w).alloc (.cells #[.string ⟨#[]⟩,.slice none 0 0] 103));have r:=cU.new w 103 [.string ⟨#[]⟩,.slice none 0 0];have c0:=c.out.cell t.out (by simp);go_enter Tryz.func61,Tryz.ntmps61;go_wp2_with fail
 generalize w.alloc (.cells #[.string ⟨#[]⟩,.slice none 0 0] 103)=v at *
 have J:=c.out.cell u.out (by simp);have K:=c.out.cell z.out (by simp);have L:=c.out.cell A.out (by simp);have a:cU v w.heap.size 103 [.string ⟨#[]⟩,.slice none 0 0]:=r;have M:=a.cell 0;have N:=a.cell 1;have O:=a.frozen 0;have P:=a.frozen 1;have o:Hid (cU ((v.setCell ⟨w.heap.size,0,none⟩ (sv m)).setCell ⟨w.heap.size,1,none⟩ (gF sl)).drew w.heap.size 103 [sv m,gF sl]):=qB a (sv m) (gF sl);have s:Hid (bR [] w ((v.setCell ⟨w.heap.size,0,none⟩ (sv m)).setCell ⟨w.heap.size,1,none⟩ (gF sl)).drew) :=
  ((c.out.setCell _ _ (.inr (aF _))).setCell _ _ (.inr (aF _))).drew
 clear r a;go_region
 all_goals (go_wp2_with fail)
 have B:=o.out.cell 0;have C:=o.out.cell 1;have D:=s.out;clear o s;generalize World.drew _=W at *
 exact bodyPost_ret (v := .tuple #[iv x,fv (m,sl),.bool true]) (by simp[results,Tryz.results61,go_sem,B,C];try rfl) rfl ⟨rfl,D⟩
theorem c4s (w:World) (i:Int) (hi64:gR i) (hs:jK base w g lv l) (hi:i < 0) :
  Calls Tryz.prog 61 #[.pointer (some ⟨g,0,none⟩),.int .i64 i] w fun e w'=>e = .returned (.tuple #[iv 0,fv zF,.bool false])∧bR [] w w':=by
 obtain⟨C,D,rfl,E,m,b⟩:=hs.rows.rd fJ;have p:=bG (show w.cell? ⟨g,0,none⟩=some (.slice C l.length D) from hs.tab.cell 0);clear hs b m;have a:=bG ((bR.refl [] w).alloc (.cells #[.string ⟨#[]⟩,.slice none 0 0] 103));have d:=cU.new w 103 [.string ⟨#[]⟩,.slice none 0 0];have c0:=a.out.cell p.out (by simp);go_enter Tryz.func61,Tryz.ntmps61;go_wp2_with fail
 have f:=bG (a.out.alloc (.cells #[.int .i64 0,.string ⟨#[]⟩,.slice none 0 0] 171));have c:=d.upd ((bR.refl [] _).alloc (.cells #[.int .i64 0,.string ⟨#[]⟩,.slice none 0 0] 171)) (by simp);have hR:=cU.new (w.alloc (.cells #[.string ⟨#[]⟩,.slice none 0 0] 103)) 171 [.int .i64 0,.string ⟨#[]⟩,.slice none 0 0];have r:w.heap.size≠w.heap.size+1:=by omega
 have h:(w.alloc (.cells #[.string ⟨#[]⟩,.slice none 0 0] 103)).heap.size=w.heap.size+1:=by simp
 rw[h] at hR;clear d a c0 h;change cU ((w.alloc (.cells #[.string ⟨#[]⟩,.slice none 0 0] 103)).alloc (.cells #[.int .i64 0,.string ⟨#[]⟩,.slice none 0 0] 171)) _ _ _ at hR;generalize (w.alloc (.cells #[.string ⟨#[]⟩,.slice none 0 0] 103)).alloc (.cells #[.int .i64 0,.string ⟨#[]⟩,.slice none 0 0] 171)=v at *
 have s:=c.cell 0;have t:=c.cell 1;have F:=c.frozen 0;have G:=c.frozen 1;have u:=hR.cell 0;have x:=hR.cell 1;have y:=hR.cell 2;simp only[List.getElem?_cons_zero,List.getElem?_cons_succ] at s t u x y;have j:Hid (cU ((v.setCell ⟨w.heap.size,0,none⟩ (.string ⟨#[]⟩)).setCell ⟨w.heap.size,1,none⟩ (.slice none 0 0)).drew w.heap.size 103 [.string ⟨#[]⟩,.slice none 0 0]):=qB c _ _;have o:Hid (bR [] w ((v.setCell ⟨w.heap.size,0,none⟩ (.string ⟨#[]⟩)).setCell ⟨w.heap.size,1,none⟩ (.slice none 0 0)).drew) :=
  ((f.out.setCell _ _ (.inr (aF _))).setCell _ _ (.inr (aF _))).drew
 clear c hR f;go_region
 all_goals (go_wp2_with fail)
 all_goals
  have z:=j.out.cell 0;have A:=j.out.cell 1;have B:=o.out;clear j o;generalize World.drew _=W at *
  exact bodyPost_ret (v := .tuple #[iv 0,fv zF,.bool false]) (by simp[results,Tryz.results61,go_sem,z,A];try rfl) rfl ⟨rfl,B⟩
theorem b6x (w:World) (i:Int) (hi64:gR i) (hs:jK base w g lv l) (hlen:l.length≤100000) (hi:(l.length:Int)≤i) :
  Calls Tryz.prog 61 #[.pointer (some ⟨g,0,none⟩),.int .i64 i] w fun e w'=>e = .returned (.tuple #[iv 0,fv zF,.bool false])∧bR [] w w':=by
 obtain⟨C,D,rfl,E,m,b⟩:=hs.rows.rd fJ;have p:=bG (show w.cell? ⟨g,0,none⟩=some (.slice C l.length D) from hs.tab.cell 0);have F:(0:Int)≤i:=by omega
 clear hs b m;have a:=bG ((bR.refl [] w).alloc (.cells #[.string ⟨#[]⟩,.slice none 0 0] 103));have d:=cU.new w 103 [.string ⟨#[]⟩,.slice none 0 0];have c0:=a.out.cell p.out (by simp);go_enter Tryz.func61,Tryz.ntmps61;go_wp2_with fail
 have f:=bG (a.out.alloc (.cells #[.int .i64 0,.string ⟨#[]⟩,.slice none 0 0] 171));have c:=d.upd ((bR.refl [] _).alloc (.cells #[.int .i64 0,.string ⟨#[]⟩,.slice none 0 0] 171)) (by simp);have hR:=cU.new (w.alloc (.cells #[.string ⟨#[]⟩,.slice none 0 0] 103)) 171 [.int .i64 0,.string ⟨#[]⟩,.slice none 0 0];have r:w.heap.size≠w.heap.size+1:=by omega
 have h:(w.alloc (.cells #[.string ⟨#[]⟩,.slice none 0 0] 103)).heap.size=w.heap.size+1:=by simp
 rw[h] at hR;clear d a c0 h;change cU ((w.alloc (.cells #[.string ⟨#[]⟩,.slice none 0 0] 103)).alloc (.cells #[.int .i64 0,.string ⟨#[]⟩,.slice none 0 0] 171)) _ _ _ at hR;generalize (w.alloc (.cells #[.string ⟨#[]⟩,.slice none 0 0] 103)).alloc (.cells #[.int .i64 0,.string ⟨#[]⟩,.slice none 0 0] 171)=v at *
 have s:=c.cell 0;have t:=c.cell 1;have G:=c.frozen 0;have I:=c.frozen 1;have u:=hR.cell 0;have x:=hR.cell 1;have y:=hR.cell 2;simp only[List.getElem?_cons_zero,List.getElem?_cons_succ] at s t u x y;have j:Hid (cU ((v.setCell ⟨w.heap.size,0,none⟩ (.string ⟨#[]⟩)).setCell ⟨w.heap.size,1,none⟩ (.slice none 0 0)).drew w.heap.size 103 [.string ⟨#[]⟩,.slice none 0 0]):=qB c _ _;have o:Hid (bR [] w ((v.setCell ⟨w.heap.size,0,none⟩ (.string ⟨#[]⟩)).setCell ⟨w.heap.size,1,none⟩ (.slice none 0 0)).drew) :=
  ((f.out.setCell _ _ (.inr (aF _))).setCell _ _ (.inr (aF _))).drew
 clear c hR f;go_region
 all_goals (go_wp2_with fail)
 all_goals
  have z:=j.out.cell 0;have A:=j.out.cell 1;have B:=o.out;clear j o;generalize World.drew _=W at *
  exact bodyPost_ret (v := .tuple #[iv 0,fv zF,.bool false]) (by simp[results,Tryz.results61,go_sem,z,A];try rfl) rfl ⟨rfl,B⟩
end
section
variable {base : Nat} {g : Nat} {lv : Value} {l : List (Int × (ByteArray × Sl))} {w w' : World}
theorem b6y (w:World) (k:Int) (y:ByteArray×Sl) (hs:jK base w g lv l) (hr:bV dP l) (hlen:l.length≤100000) (hk:gR k) (hn:cB dP l k=true) :
  Calls Tryz.prog 40 #[.pointer (some ⟨g,0,none⟩),iv k,fv y] w fun e w'=>e = .returned (.bool false)∧jK base w' g lv (l.set (below dP l k) ((bT l (below dP l k)).1,y))∧bR (blk lv) w w':=by
 obtain⟨u,sl⟩:=y;have r:=(bR.refl [] w).alloc (.cells #[sv u,gF sl] 103);have d:=hs.upd0 r;have A:=jT _ k d hr hlen hk;rw[hn] at A;have L:=bG A;have M:=bG d;unfold cB at hn;have f:=(bI hn).1;have B:=hs.g_lv;rcases d.rows.2 with⟨-,h0⟩|⟨b,Y,z,rfl,hb,K,-⟩
 ·omega
 have N:b < w.heap.size:=(hs.rows.ge b (by simp[blk])).2;have O:=bG f;obtain⟨U,V,W,-,-,c⟩:=hs.rows.rd fJ;injection W with x Z e3;obtain⟨b',X,J,t⟩:=c (by intro h;simp[h] at f);rw[J] at x;injection x with x;injection x with x e5;subst x;subst e5;have P:=bG (show w.cell? ⟨g,0,none⟩=some (.slice (some ⟨b,0,none⟩) l.length Y) from hs.tab.cell 0);have Q:=bG (show w.cell? ⟨b,below dP l k*3+1,none⟩=some (sv (bT l (below dP l k)).2.1) from by simpa using t _ f 1 (by omega));have R:=bG (show w.cell? ⟨b,below dP l k*3+2,none⟩=some (gF (bT l (below dP l k)).2.2) from by simpa using t _ f 2 (by omega));have S:=bG K;have C:=bG r;clear hs d hr hk A hn B K c t Z e3 J r;generalize below dP l k=i at *
 have q1:(0:Int)≤i:=by omega
 have q2:(i:Int) < l.length:=by omega
 go_enter Tryz.func40,Tryz.ntmps40;go_wp2_with fail
 (with_reducible refine L.out.mono ?_)
 rintro e o ⟨rfl,a⟩;have x0:=a.cell (p:=⟨w.heap.size,0,none⟩) (v:=sv u) (by go_simp) (by simp);have x1:=a.cell (p:=⟨w.heap.size,1,none⟩) (v:=gF sl) (by go_simp) (by simp);have j:=bG (C.out.seq a);have d0:=j.out.cell P.out (by simp);have d1:=j.out.cell Q.out (by simp);have d2:=j.out.cell R.out (by simp);have s:=a.heap S.out (by simp);have f1:o.frozen? ⟨b,i*3+1,none⟩=false:=frozen_of_row o b _ z _ s;have f2:o.frozen? ⟨b,i*3+2,none⟩=false:=frozen_of_row o b _ z _ s;have D:=bG (M.out.upd0 a);clear a s;go_wp2_with fail
 go_region
 all_goals (go_wp2_with fail)
 all_goals
  go_ret;have E:=O.out;have m:=D.out;have F:g≠b:=fun e=>m.g_lv (by rw[e];simp[blk])
  have G:bR [b] o ((o.setCell ⟨b,i*3+1,none⟩ (sv u)).setCell ⟨b,i*3+2,none⟩ (gF sl)):=((bR.refl [b] o).setCell _ _ (.inl (by simp))).setCell _ _ (.inl (by simp));refine⟨rfl,⟨(m.tab.upd G (by simpa using F)).upd (bR.refl [] _).drew (by simp),?_,m.gb⟩,?_⟩
  ·have T:=cF.set_ fJ m.rows i 1 E (by omega) (sv u) (l[i].1,u,l[i].2.2) rfl;have I:=cF.set_ fJ T i 2 (by rw[List.length_set];exact E) (by omega) (gF sl) (l[i].1,u,sl) (by rw[List.getElem_set_self];rfl);rw[List.set_set] at I;rw[cO l i E];exact I.upd (bR.refl [] _).drew (by simp)
  ·exact(((show bR [b] w o from j.out.mono (by simp)).setCell _ _ (.inl (by simp))).setCell _ _ (.inl (by simp))).drew
theorem b6z (w:World) (k:Int) (y:ByteArray×Sl) (hs:jK base w g lv l) (hr:bV dP l) (hlen:l.length≤100000) (hbs:base≤w.heap.size) (hk:gR k) (hn:cB dP l k=false) :
  Calls Tryz.prog 40 #[.pointer (some ⟨g,0,none⟩),iv k,fv y] w fun e w'=>e = .returned (.bool true)∧∃ lv',jK base w' g lv' (l.take (below dP l k)++(k,y)::l.drop (below dP l k))∧bR (g::blk lv) w w'∧(∀ x∈blk lv',x∈blk lv∨w.heap.size≤x):=by
 obtain⟨j,sl⟩:=y;have s:=(bR.refl [] w).alloc (.cells #[sv j,gF sl] 103);have D:=hs.upd0 s;have M:=jT _ k D hr hlen hk;rw[hn] at M;have Y:=bG M;have L:=bG hs;have N:=bG s;have E:=iR (lt:=dP) l k;have Z:Hid (∀ (d W:World) (G:Nat),bR [] w d→bR [] d W→d.heap.size≤G→cU W G 171 [iv k,sv j,gF sl]→Calls Tryz.prog 63 #[lv,.int .i64 ((below dP l k:Nat):Int),.slice (some ⟨G,0,none⟩) 1 1] W fun e w'=>∃ v',e = .returned v'∧cF 3 kK base 171 w' v' (l.take (below dP l k)++(k,j,sl)::l.drop (below dP l k))∧bR (blk lv) W w'∧(∀ y∈blk v',y∈blk lv∨W.heap.size≤y)):=fun d W G V X hG hB =>
  b2g W lv (below dP l k) G (k,j,sl) (hs.rows.upd (V.seq X) (by simp)) E hlen (by have:=V.size;have:=X.size;omega) hB (fun r=>by have:=(hs.rows.ge _ r).2;have:=V.size;omega)
 have D0:=bG (show w.cell? ⟨g,0,none⟩=some lv from hs.tab.cell 0);obtain⟨R,n,S,rfl⟩:=hs.rows.slice_;clear hs D hr hk M hn hbs E s;generalize below dP l k=i at *
 go_enter Tryz.func40,Tryz.ntmps40;go_wp2_with fail
 (with_reducible refine Y.out.mono ?_)
 rintro e d ⟨rfl,o⟩;have x0:=o.cell (p:=⟨w.heap.size,0,none⟩) (v:=sv j) (by go_simp) (by simp);have x1:=o.cell (p:=⟨w.heap.size,1,none⟩) (v:=gF sl) (by go_simp) (by simp);have f:=bG (N.out.seq o);have d0:=f.out.cell D0.out (by simp);have t:=L.out.g_lv;have F:=L.out.tab.upd f.out (by simp);have a:=(bR.refl [] d).alloc (.cells #[iv k,sv j,gF sl] 171);have a0:=a.cell d0 (by simp);have a1:=a.cell x0 (by simp);have a2:=a.cell x1 (by simp);clear o a;go_wp2_with fail
 go_region_law
  (first
   | (go_simp;go_at_call 63;(with_reducible refine(Z.out d _ d.heap.size f.out ?_ (aF _) ?_).mono ?_);(repeat (first|exact bR.refl _ _|apply bR.drew|apply bR.drewN|apply bR.alloc));(refine cU.fresh (w:=d) (C:=#[iv k,sv j,gF sl]) (xs:=[iv k,sv j,gF sl]) rfl rfl ?_;(repeat (first|exact bR.refl _ _|apply bR.drew|apply bR.drewN|apply bR.alloc)));(rintro e U ⟨v2,rfl,z,A,K⟩;obtain⟨b,B,c,rfl⟩:=z.slice_;have O:bR [] d _:=bR.alloc (bR.drew (bR.refl [] d)) (.cells #[iv k,sv j,gF sl] 171);have m:cU U g 145 _:=(F.upd O (by simp)).upd A t;have f0:=m.frozen 0;have e0:=m.cell 0;dsimp only)))
 all_goals
  have a:=((bR.refl [] d).alloc (.cells #[iv k,sv j,gF sl] 171)).drew;have I:bR (g::blk (.slice R n S)) w (U.setCell ⟨g,0,none⟩ (.slice b B c)):=((f.out.seq a).trans (T:=g::blk (.slice R n S)) A (by simp) (fun x r => .inl (by simp[r]))).setCell _ _ (.inl (by simp));have u:∀ x∈blk (.slice b B c),x∈blk (.slice R n S)∨w.heap.size≤x:=fun x r=>(K x r).imp id (fun h=>by have:=(f.out.seq a).size;omega)
  have J:g∉blk (.slice b B c):=fun r=>by
   rcases u g r with q|q
   ·exact t q
   ·have:=L.out.tab.lt;omega
  have HT:Hid (jK base (U.setCell ⟨g,0,none⟩ (.slice b B c)) g (.slice b B c) (l.take i++(k,j,sl)::l.drop i)) :=
   ⟨by simpa using m.set_ 0 (.slice b B c),z.upd ((bR.refl [g] _).setCell _ _ (.inl (by simp))) (by intro x r;simp;rintro rfl;exact J r),L.out.gb⟩
  have P:=bG I;have Q:=bG u;clear a I u J A z K m t;go_wp2_with fail
  go_ret;exact⟨rfl,_,HT.out,P.out,Q.out⟩
theorem b7a (w:World) (k:Int) (y:ByteArray×Sl) (hs:jK base w g lv l) (hr:bV dP l) (hlen:l.length≤100000) (hbs:base≤w.heap.size) (hk:gR k) :
  Calls Tryz.prog 40 #[.pointer (some ⟨g,0,none⟩),iv k,fv y] w fun e w'=>e = .returned (.bool (!cB dP l k))∧∃ lv',jK base w' g lv' (dD dP l k y)∧bR (g::blk lv) w w'∧(∀ x∈blk lv',x∈blk lv∨w.heap.size≤x):=by
 cases a:cB dP l k with
 | false =>
  refine(b6z w k y hs hr hlen hbs hk a).mono ?_;rintro e w' ⟨rfl,f,b,c,h⟩;exact⟨rfl,f,by unfold dD;rw[a];exact b,c,h⟩
 | true =>
  refine(b6y w k y hs hr hlen hk a).mono ?_;rintro e w' ⟨rfl,b,c⟩;refine⟨rfl,lv,?_,c.mono (fun x d => .inl (by simp[d])),fun x d => .inl d⟩;rw[sQ l k y a];exact b
end
structure oQ (w0 w:World) (g:Nat) (F:List Nat) (l:List (Int×(ByteArray×Sl))):Prop where
 ex:∃ lv,F=g::blk lv∧jK w0.heap.size w g lv l
 ris:bV dP l
 old:bR [] w0 w
section
variable {w0 w w' : World} {g : Nat} {F : List Nat} {l : List (Int × (ByteArray × Sl))}
theorem oQ.ge (h:oQ w0 w g F l):∀ x∈F,w0.heap.size≤x∧x < w.heap.size:=by
 obtain⟨b,rfl,a⟩:=h.ex;exact a.lt
theorem oQ.upd (h:oQ w0 w g F l) {S:List Nat} (hu:bR S w w') (hs:∀ x∈F,x∉S) (hS:∀ x∈S,w0.heap.size≤x):oQ w0 w' g F l:=by
 obtain⟨a,rfl,b⟩:=h.ex;exact⟨⟨a,rfl,b.upd hu hs⟩,h.ris,h.old.trans hu (by simp) (fun x c => .inr (hS x c))⟩
theorem oQ.upd0 (h:oQ w0 w g F l) (hu:bR [] w w'):oQ w0 w' g F l:=h.upd hu (by simp) (by simp)
theorem d0g (w0 w:World) (hu:bR [] w0 w) :
  Calls Tryz.prog 30 #[] w fun e w'=>∃ g F,e = .returned (.pointer (some ⟨g,0,none⟩))∧oQ w0 w' g F []∧bR [] w w'∧(∀ x∈F,w.heap.size≤x):=by
 refine(b6u w).mono ?_;rintro e w' ⟨rfl,b,a⟩;exact⟨_,_,rfl,⟨⟨_,rfl,⟨b.tab,cF.nil _ _ _,hu.size⟩⟩,bV.nil,hu.seq a⟩,a,fun x c=>(b.lt x c).1⟩
theorem b2h (k:Int) (y:(ByteArray×Sl)) (r:Bool) (l':List (Int×(ByteArray×Sl))) (hs:oQ w0 w g F l) (hlen:l.length≤100000) (hk:gR k) (h1:(!cB dP l k)=r) (h2:dD dP l k y=l') :
  Calls Tryz.prog 40 #[.pointer (some ⟨g,0,none⟩),iv k,fv y] w fun e w'=>e = .returned (.bool r)∧∃ F',oQ w0 w' g F' l'∧bR F w w'∧(∀ x∈F',x∈F∨w.heap.size≤x):=by
 subst h1;subst h2;have a:=hs.old;obtain⟨⟨m,rfl,f⟩,h,-⟩:=hs;refine(b7a w k y f h hlen a.size hk).mono ?_;rintro e w' ⟨rfl,b,d,i,j⟩;refine⟨rfl,g::blk b,⟨⟨b,rfl,d⟩,h.set_ jH k y,a.trans i (by simp) (fun x c => .inr (f.lt x c).1)⟩,i,fun x c=>?_⟩;rcases aG.1 c with rfl|c
 ·exact .inl (by simp)
 ·exact(j x c).imp (fun q=>by simp[q]) id
theorem d0h (k:Int) (r:Bool) (l':List (Int×(ByteArray×Sl))) (hs:oQ w0 w g F l) (hlen:l.length≤100000) (hk:gR k) (h1:cB dP l k=r) (h2:fS dP l k=l') :
  Calls Tryz.prog 41 #[.pointer (some ⟨g,0,none⟩),iv k] w fun e w'=>e = .returned (.bool r)∧∃ F',oQ w0 w' g F' l'∧bR F w w'∧(∀ x∈F',x∈F∨w.heap.size≤x):=by
 subst h1;subst h2;have a:=hs.old;obtain⟨⟨m,rfl,f⟩,h,-⟩:=hs;refine(b6w w k f h hlen hk).mono ?_;rintro e w' ⟨rfl,b,d,i,j⟩;refine⟨rfl,g::blk b,⟨⟨b,rfl,d⟩,h.del jH k,a.trans i (by simp) (fun x c => .inr (f.lt x c).1)⟩,i,fun x c=>?_⟩;rcases aG.1 c with rfl|c
 ·exact .inl (by simp)
 ·exact(j x c).imp (fun q=>by simp[q]) id
theorem rQ (k:Int) (y:(ByteArray×Sl)) (r:Bool) (hs:oQ w0 w g F l) (hlen:l.length≤100000) (hk:gR k) (h:fC dP (((⟨#[]⟩:ByteArray),(⟨none,0,0⟩:Sl)):ByteArray×Sl) l k=(y,r)) :
  Calls Tryz.prog 39 #[.pointer (some ⟨g,0,none⟩),iv k] w fun e w'=>e = .returned (.tuple #[fv y,.bool r])∧bR [] w w':=by
 obtain⟨⟨i,rfl,d⟩,f,-⟩:=hs;unfold fC at h;cases a:cB dP l k with
 | false=>rw[a] at h;injection h with b c;subst b;subst c;exact c4q w k d f hlen hk a
 | true=>rw[a] at h;injection h with b c;subst b;subst c;exact c4r w k d f hlen hk a
theorem wK (n:Int) (hs:oQ w0 w g F l) (h:(l.length:Int)=n) :
  Calls Tryz.prog 38 #[.pointer (some ⟨g,0,none⟩)] w fun e w'=>e = .returned (.int .i64 n)∧w=w':=by
 subst h;obtain⟨⟨b,rfl,a⟩,c,-⟩:=hs;exact b6t w a
theorem a8b (i:Int) (k:Int) (y:(ByteArray×Sl)) (r:Bool) (hi:gR i) (hs:oQ w0 w g F l) (hlen:l.length≤100000) (h:tAt (0:Int) (((⟨#[]⟩:ByteArray),(⟨none,0,0⟩:Sl)):ByteArray×Sl) l i=(k,y,r)) :
  Calls Tryz.prog 61 #[.pointer (some ⟨g,0,none⟩),.int .i64 i] w fun e w'=>e = .returned (.tuple #[iv k,fv y,.bool r])∧bR [] w w':=by
 obtain⟨⟨m,rfl,b⟩,o,-⟩:=hs;unfold tAt at h;split at h
 ·rename_i hd;obtain⟨j,rfl⟩:=Int.eq_ofNat_of_zero_le hd.1;injection h with c a;injection a with a d;subst c;subst a;subst d;exact d0f w j b hlen (by omega)
 ·rename_i hd;injection h with c a;injection a with a d;subst c;subst a;subst d;by_cases f:i < 0
  ·exact c4s w i hi b f
  ·exact b6x w i hi b hlen (by omega)
end
end Go.Proofs.YthgnlfikneipiaaGreat
