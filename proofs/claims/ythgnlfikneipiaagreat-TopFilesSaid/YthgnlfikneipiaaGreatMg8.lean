/- Texts of the proof, joined. -/
import Derived.Test.YthgnlfikneipiaaGreatMg7
import Derived.Test.YthgnlfikneipiaaGreatMg3
import Derived.Test.YthgnlfikneipiaaGreatMg4
import Derived.Test.YthgnlfikneipiaaGreatMg5
import Derived.Test.YthgnlfikneipiaaGreatRows
import Derived.Test.YthgnlfikneipiaaGreatMg1
import Derived.StillTailTactics
import Derived.Laws.Externs
import Derived.Test.YthgnlfikneipiaaGreatMg6
import Derived.Lib.JoinLaws
set_option linter.unusedSimpArgs false
set_option linter.unusedVariables false
set_option linter.unusedSectionVars false
set_option maxRecDepth 100000
set_option maxHeartbeats 4000000
namespace Go.Proofs.YthgnlfikneipiaaGreat
open Go.RowKit
abbrev nR:Int×Int:=(65533,1)
theorem b7m (w:World) (g:Nat) (l:List UInt8) (hd:qX w g l) :
  Calls Tryz.prog 290 #[.pointer (some ⟨g,0,none⟩)] w fun e w'=>∃ v,e = .returned v∧cF 2 eA w.heap.size 333 w' v (List.replicate l.length nR)∧bR [g] w w':=by
 obtain⟨p,f4,h4⟩:=hd.n;obtain⟨A,-,-,-,hB⟩:=hd.ex;have HB:Hid (∃ C,cU w g 378 C):=⟨_,hB⟩
 have HG:Hid (g < w.heap.size):=hB.lt;have C4:=bG p;have F4:=bG f4;clear hd hB p f4;go_enter Tryz.func290,Tryz.ntmps290;go_wp2_with fail
 go_loopw [3] (fun vo wr=>∃ k:Nat,k≤l.length∧Hid (cF 2 eA w.heap.size 333 wr vo (List.replicate k nR))∧Hid (bR [g] w wr)∧Hid (wr.cell? ⟨g,4,none⟩=some (.int .i64 ((l.length-k:Nat):Int)))∧Hid (∃ C,cU wr g 378 C)) (fun _ wr=>heldN wr g)
 case atStart=>exact⟨0,aS _,cF.nil _ _ _,(bR.refl [] w).mono (by simp),C4.out,HB.out⟩
 case round =>
  obtain⟨k,hk,h,hu,hc,B⟩:=hrel;obtain⟨E,ok,rfl,-⟩:=h.out.rd gI;have p:=hc.out;have d:(List.replicate k nR).length=k:=List.length_replicate;by_cases b5:k < l.length
  ·obtain⟨m,hm⟩:∃ m,l.length-k=m+1:=⟨l.length-k-1,by omega⟩
   rw[hm] at p;have U:=hu.out.size;have G:=bG (h.out.upd ((bR.refl [] wr).alloc (.cells #[.int .i32 65533,.int .i64 1] 333)) (by simp));have V:Hid (qW 2 eA (wr.alloc (.cells #[.int .i32 65533,.int .i64 1] 333)) (.slice (some ⟨wr.heap.size,0,none⟩) 1 1) [nR]):=by
    have B:=cU.new wr 333 [.int .i32 65533,.int .i64 1];refine⟨_,1,rfl,by simp,by simp[maxLen],fun _=>⟨wr.heap.size,0,rfl,fun j hj i hi=>?_⟩⟩;simp at hj;subst hj;rw[cP,show 0+(0*2+i)=i by omega];exact B.cell i
   have W:Hid (w.heap.size≤(wr.alloc (.cells #[.int .i32 65533,.int .i64 1] 333)).heap.size):=by unfold Hid;simp;omega
   have I:Hid (((List.replicate k nR).length+[nR].length)*16≤140737488355328∧(List.replicate k nR).length+[nR].length≤maxLen):=by unfold Hid maxLen;rw[d];simp;omega
   have X:=bG (fun ty=>fR (P:=Tryz.prog) (ty:=ty) (c:=eA) gI (by decide) pZ b6b a7t rfl _ _ (List.replicate k nR) [nR] G.out V.out I.out.1 I.out.2 W.out);have a6:=bG ((bR.refl [] wr).alloc (.cells #[.int .i32 65533,.int .i64 1] 333));have a7:=B;have Y:Hid (wr.cell? ⟨g,4,none⟩=some (.int .i64 ((m+1:Nat):Int))):=p;have Z:Hid (∀ x∈blk (.slice E (List.replicate k nR).length ok),w.heap.size≤x):=fun x a=>(h.out.ge x a).1
   have a8:=h;have r:Hid (∀ u,bR (blk (.slice E (List.replicate k nR).length ok)) (wr.alloc (.cells #[.int .i32 65533,.int .i64 1] 333)) u→u.cell? ⟨g,4,none⟩=some (.int .i64 ((m+1:Nat):Int))∧u.frozen? ⟨g,4,none⟩=false∧(∃ C,cU u g 378 C)∧bR (blk (.slice E (List.replicate k nR).length ok)) wr u):=fun u hW=>by
    obtain⟨C,F⟩:=B.out;have J:g∉blk (.slice E (List.replicate k nR).length ok):=fun a=>by
     obtain⟨D,fr,hD⟩:=h.out.typ g a;exact absurd (yE hD F) (by decide)
    have s:bR (blk (.slice E (List.replicate k nR).length ok)) wr u:=((bR.refl [] wr).alloc _).trans hW (by simp) (fun y hy => .inl hy);have K:=F.upd s J;exact⟨s.cell p J,K.frozen 4,⟨C,K⟩,s⟩
   have q1:(0:Int) < ((m+1:Nat):Int):=by omega
   have a9:((m+1:Nat):Int)-1=(m:Int):=by omega
   have b0:m≤4:=by omega
   have b1:wrap64 (m:Int)=(m:Int):=by unfold wrap64;omega
   have hL:=bG d;have hM:=bG hm;generalize (List.replicate k nR).length=z at *
   clear d hm U hc h B;go_wp2_with (at_builtin;go_must (refine cQ rfl _ _ rfl (.slice E z ok) (.slice (some ⟨wr.heap.size,0,none⟩) 1 1) rfl rfl (X.out _) ?_;rintro v3 o ⟨O,t,Q⟩;have L:=bG O;have b2:=bG t;have b3:=bG Q;obtain⟨c3,f3,R,S⟩:=r.out _ t;have M:=bG R;have a0:=bG S;clear O t Q R S))
   have b:bR [g] o (o.setCell ⟨g,4,none⟩ (.int .i64 (m:Int))):=(bR.refl [g] o).setCell _ _ (.inl (by simp));have f:∀ x∈blk v3,x∉[g]:=fun x a hq=>by
    rw[List.mem_singleton.1 hq] at a;obtain⟨C,F⟩:=M.out;obtain⟨D,fr,hD⟩:=L.out.typ g a;exact absurd (yE hD F) (by decide)
   have a1:=bG (L.out.upd b f);have a2:Hid (bR [g] w (o.setCell ⟨g,4,none⟩ (.int .i64 (m:Int)))):=(hu.out.trans (T:=[g]) a0.out (fun x a=>a) (fun x a => .inr (Z.out x a))).trans b (fun x a=>a) (fun x a => .inl a);have N:Hid ((o.setCell ⟨g,4,none⟩ (.int .i64 (m:Int))).cell? ⟨g,4,none⟩=some (.int .i64 (m:Int))):=by unfold Hid;go_simp
   have a3:Hid (∃ C,cU (o.setCell ⟨g,4,none⟩ (.int .i64 (m:Int))) g 378 C):=by obtain⟨C,F⟩:=M.out;exact⟨_,F.set_ 4 _⟩
   have b4:heldN o g=m+1:=by unfold heldN;rw[c3];simp
   have a4:heldN wr g=m+1:=by unfold heldN;rw[Y.out];simp
   have a5:heldN (o.setCell ⟨g,4,none⟩ (.int .i64 (m:Int))) g=m:=by unfold heldN;rw[N.out];simp
   clear b f;go_roundw
   case rel=>exact⟨k+1,by omega,by rw[List.replicate_succ'];exact a1,a2,by rw[show l.length-(k+1)=m by have:=hM.out;omega];exact N,a3⟩
   case measure=>rw[a5,a4];omega
  ·obtain rfl:k=l.length:=by omega
   rw[Nat.sub_self] at p;have HO:=h;clear h B hc d;go_wp2_with fail
   go_ret;exact⟨_,rfl,HO.out,hu.out⟩
end Go.Proofs.YthgnlfikneipiaaGreat
namespace Go.Eng
theorem e6o:fG (EB bdS) 300 266 [.ptr 1 0] (fF .S0) 13 (.ptr 24 0) [⟨[0,24,13,1,16,5,6,7,23,21,15,14,2],gJ z5 (fF .S0),13,rX,[.ptr 24 0,.ptr 13 0,.ptr 16 0]⟩,⟨[0,13],yK,2,[.ptr 1 0],[.ptr 13 0]⟩]=true:=by kernel_rfl
theorem e6p:fG (EB bdS) 300 266 [.ptr 1 0] (fF .S1) 13 (.ptr 24 0) [⟨[0,24,13,1,16,5,6,7,23,21,15,14,2],gJ z5 (fF .S0),13,rX,[.ptr 24 0,.ptr 13 0,.ptr 16 0]⟩,⟨[0,13],yK,2,[.ptr 1 0],[.ptr 13 0]⟩]=true:=by kernel_rfl
theorem e6q:fG (EB bdS) 300 266 [.ptr 1 0] (fF .S2) 13 (.ptr 24 0) [⟨[0,24,13,1,16,5,6,7,23,21,15,14,2],gJ z5 (fF .S0),13,rX,[.ptr 24 0,.ptr 13 0,.ptr 16 0]⟩,⟨[0,13],yK,2,[.ptr 1 0],[.ptr 13 0]⟩]=true:=by kernel_rfl
theorem f1d:fG (EB bdS) 300 266 [.ptr 1 0] (fF .H) 13 (.ptr 24 0) [⟨[0,24,13,1,16,5,6,7,23,21,15,14,2],gJ z5 (fF .S0),13,rX,[.ptr 24 0,.ptr 13 0,.ptr 16 0]⟩,⟨[0,13],yK,2,[.ptr 1 0],[.ptr 13 0]⟩]=true:=by kernel_rfl
theorem e6r:fG (EB bdS) 300 266 [.ptr 1 0] (fF .H2) 13 (.ptr 24 0) [⟨[0,24,13,1,16,5,6,7,23,21,15,14,2],gJ z5 (fF .S0),13,rX,[.ptr 24 0,.ptr 13 0,.ptr 16 0]⟩,⟨[0,13],yK,2,[.ptr 1 0],[.ptr 13 0]⟩]=true:=by kernel_rfl
theorem f1e:fG (EB bdS) 300 266 [.ptr 1 0] (fF .D) 13 (.ptr 24 0) [⟨[0,24,13,1,16,5,6,7,23,21,15,14,2],gJ z5 (fF .S0),13,rX,[.ptr 24 0,.ptr 13 0,.ptr 16 0]⟩,⟨[0,13],yK,2,[.ptr 1 0],[.ptr 13 0]⟩]=true:=by kernel_rfl
theorem e6s:fG (EB bdS) 300 266 [.ptr 1 0] (fF .D2) 13 (.ptr 24 0) [⟨[0,24,13,1,16,5,6,7,23,21,15,14,2],gJ z5 (fF .S0),13,rX,[.ptr 24 0,.ptr 13 0,.ptr 16 0]⟩,⟨[0,13],yK,2,[.ptr 1 0],[.ptr 13 0]⟩]=true:=by kernel_rfl
theorem e6t:fG (EB bdS) 300 266 [.ptr 1 0] (fF .D3) 13 (.ptr 24 0) [⟨[0,24,13,1,16,5,6,7,23,21,15,14,2],gJ z5 (fF .S0),13,rX,[.ptr 24 0,.ptr 13 0,.ptr 16 0]⟩,⟨[0,13],yK,2,[.ptr 1 0],[.ptr 13 0]⟩]=true:=by kernel_rfl
inductive Mk where
 | S|H|D
def Xk.mk:Xk→Mk
 | .S0 | .S1 | .S2 => .S
 | .H | .H2 => .H
 | _ => .D
def Mk.x2:Mk→Xk
 | .S => .S2
 | .H => .H2
 | .D => .D2
def vG:Mk→Hp
 | .S=>[(1,.gro 290 12 (.bool false::c8z++[.slc 2 0 1])),(2,.gro 415 11 thS)]
 | .H=>[(1,.gro 290 12 (.bool false::c8z++[.slc 2 0 2])),(2,.gro 415 11 (thH++thS))]
 | .D=>[(1,.gro 290 12 (Xk.D.best++[.nils]))]
def wO:Hp:=[(1,.row 262 [.slc 2 0 1,.str ⟨#[]⟩,.slc 3 0 4,.slc 5 0 1,.nils,.nils,.ptr 6 0]),(2,.gro 29 2 [.str ⟨#[97]⟩,.str ⟨#[120]⟩]),(3,cdX 4),(4,rgX),(5,.gro 3 1 [n6 0]),(6,.row 401 [.slc 7 0 1]),(7,.gro 403 2 [.str ⟨#[97]⟩,n6 0])]
def pH (at_ ln:AV):Hp :=
 [(2,.row 209 [.ptr 1 0,.slc 3 0 4,.slc 5 0 1,.nils,.nils,.bool false,at_,ln,.bool false,.bool false,n6 0,n6 0,.nils,.nilp,.ptr 6 0,.nilp]),(3,cdX 4),(4,rgX),(5,.gro 3 1 [n6 0])]
def rT:List AV:=[.ptr 1 0,.ptr 2 0,.ptr 6 0]
def svX (at_ ln hd pl ls:AV):List AV:=[at_,ln,.bool false,.bool false,n6 0,n6 0,.nils,.nils,n6 0,.nils,hd,pl,ls,.nils,n6 0,.nils]
open Go.RowKit
structure CW where
 s:Nat
 d:Nat
 k:Nat
 p:Nat
 k':Nat
def c1l (az:List AV) (p i:Nat):Bool:=match bT az p with
 | some a=>(match a6y a with
  | some j=>Nat.beq i j
  | none=>false)
 | none=>false
def a3c:List CW→TypeId→TypeId→Nat→St→Option (AV×St)
 | [],_,_,_,_=>none
 | c::l,s,d,i,S=>match cK S.H 0 with
  | some (.gho k az)=>bif (Nat.beq s c.s&&Nat.beq d c.d)&&(Nat.beq k c.k&&c1l az c.p i) then some (.opq S.nx,{ S with H:=(0,.gho c.k' (az++[.opq S.nx]))::S.H,nx:=S.nx+1 }) else a3c l s d i S
  | _=>none
section
variable {b : Nat} {ν : Nat → Int} {st : Nat → List Value → List (cR b)}
def CW.Ok (P:Program) (st:Nat→List Value→List (cR b)) (c:CW):Prop:=∀ {gs:List Value} {v:Value} {w:World} {F:Nat→Prop},bT gs c.p=some v→cW (st c.k gs) w F→∃ str:ByteArray,(Go.convert c.s c.d v).run P w = .ok (.string str) w∧cW (st c.k' (gs++[.string str])) w F
theorem d0s {az:List AV} {p i:Nat} (h:c1l az p i=true):∃ a,bT az p=some a∧a6y a=some i:=by
 unfold c1l at h;split at h
 ·rename_i a b;split at h
  ·rename_i j c;have:=aC h;subst this;exact⟨a,b,c⟩
  ·cases h
 ·cases h
theorem c1m {P:Program} {E:iU}:∀ {l:List CW},(∀ c∈l,c.Ok P st)→∀ s d i S v S',a3c l s d i S=some (v,S')→∀ x,a6y (ev S.F x)=some i→dC E (.convert s d x)=false→@kZ (cA b ν st) P E (.convert s d x) S S' v:=by
 letI:fP:=cA b ν st
 intro l
 induction l with
 | nil=>intro _ s d i S v S' e;cases e
 | cons c l ih =>
  intro m s d i S v S' e x M N;simp only[a3c] at e;split at e
  ·rename_i k J K;cases t:(Nat.beq s c.s&&Nat.beq d c.d)&&(Nat.beq k c.k&&c1l J c.p i)<;>rw[t] at e
   ·exact ih (fun c t=>m c (aT _ t)) s d i S v S' e x M N
   ·cases e;simp only[aD] at t;obtain⟨⟨X,Y⟩,Z,h4⟩:=t;have:=aC X;subst this;have:=aC Y;subst this;have:=aC Z;subst this;obtain⟨aa,n1,n2⟩:=d0s h4;refine .inr (.inr ⟨.inl N,rfl,⟨[_],rfl⟩,Nat.le_succ _,rfl,fun {w G O a} L hS=>?_⟩);obtain⟨D,F,Q,g1,g2,g3⟩:=hS.gh c.k J K;obtain⟨u,q0,q1⟩:=vV Q n1;have V:a.eval x=u:=c3l M n2 (L x) (cZ q1);obtain⟨f,r1,r2⟩:=m c (aR ..) (gs:=D) (v:=u) (by rw[lX];exact q0) (show cW (st c.k D) w F from g1);obtain⟨A,R⟩:=hS.bind ⟨0,0,0,0,.string f⟩;have h:∀ j b,cK ((0,cU.gho c.k' (J++[.opq S.nx]))::S.H) j=some b→b.live→cK S.H j=some b:=fun j b o m=>by
     rw[cH] at o;split at o
     ·cases o;exact m.elim
     ·exact o
    have hd:dn (fun j=>if j=S.nx then some ⟨0,0,0,0,.string f⟩ else G j) (.opq S.nx)=some (.string f):=by
     show Option.bind (if S.nx=S.nx then _ else _) GI.ov=_;rw[if_pos rfl];rfl
    have W:lK G (fun j=>if j=S.nx then some ⟨0,0,0,0,.string f⟩ else G j):=R.g;refine⟨.value (.string f),.string f,w,_,O,fun d ty ps af gd=>?_,.inl rfl,cZ hd,⟨⟨fun j b o m=>A.bs j b (h j b o m) m,fun j k b c y z o U K t r hz he=>A.inj j k b c y z (h j b o U) U (h k c K t) t r hz he⟩,A.fresh,A.olt,fun k2 a0 C=>?_,A.ob,A.bw⟩,R⟩
    ·simp only[execOp,V,Sem.run_bind,r1,Result.andThen_ok,Sem.run_pure]
    ·rw[cH,if_pos rfl] at C;cases C;refine⟨D++[.string f],F,eL.2 ⟨D,_,cT W Q,bS.2 ⟨_,[],hd,rfl,rfl⟩,rfl⟩,r2,fun y r=>⟨(g2 y r).1,fun q=>q⟩,fun j b y o m r L=>?_⟩;have B:=h j b o m;have I:j≠S.nx:=fun e=>by
      subst e;obtain⟨z,T,_⟩:=hS.bs _ b B m;rw[hS.fresh _ (aF _)] at T;cases T
     have r:(if j=S.nx then _ else G j)=some y:=r;rw[if_neg I] at r;exact g3 j b y B m r L
  ·cases e
end
end Go.Eng
namespace Go.Eng
def cI (n:Int):oW := .c (.int .i64 n)
def a8l:TS:=⟨221,0,[.s (.at 0),.s (.c (.sym .u8 ⟨0,[(2,1)]⟩))],[],.t [],[.at 0],1⟩
def mmS:List oW:=[cI (-1),cI (-1),cI (-1),cI (-1),cI (-1),cI (-1),cI (-1),cI (-1)]
def e6u:Bool→List oW
 | false => .c (.bool false)::cI (-1)::cI (-1)::mmS++[.c .nils]
 | true => .c (.bool true) :: .c (l6 0 [(3,1)]) :: .c (l6 0 [(4,1)])::mmS++[.c .nils]
def a3d (y:Bool):TS:=⟨264,0,[.s (.at 0)],[],.row 290 12 1 (e6u y),[.at 0],1⟩
def a8m:TS:=⟨266,1,[.s (.at 0)],[.ptr],.s (.at 1),[.at 1],2⟩
def d0t:TS:=⟨142,0,[.s (.at 0)],[.opq,.opq],.g [.at 1,.c (l6 0 [(2,1)]),.at 2],[.at 0,.at 1,.at 2],1⟩
def xL0:AV:=l6 0 [(0,1)]
def tY:AV:=l6 0 [(0,1),(1,1)]
def vH:Hp:=[(1,.gro 321 13 ([n6 1,xL0,n6 0,l6 0 [(3,1)],l6 0 [(4,1)]]++n6s [-1,-1,-1,-1,-1,-1,-1,-1]))]
end Go.Eng
namespace Go.Eng
def pI (k:Nat):TS:=⟨141,k,[.s (.at 0)],[.ptr],.t [.at (k+1),cI 0],(List.range (k+2)).map oW.at,k+1⟩
inductive iV where
 | S|H|D|E
def iV.mk:iV→Mk
 | .S => .S
 | .H => .H
 | _ => .D
def iV.pl:iV→List (Nat×Int)
 | .S=>[(0,1)]
 | .H=>[(1,1),(2,1)]
 | _=>[(0,1),(1,1),(2,1)]
def iV.sb:iV→Sb
 | .S=>[kx 0 [(0,1)],kx 0 [],kx 0 [],kx 0 [],kx 0 [],kx 0 [],kx 0 [],kx 0 []]
 | .H=>[kx 0 [(1,1),(2,1)],kx 0 [(1,1)],kx 0 [],kx 0 [],kx 0 [],kx 0 [],kx 0 [],kx 0 []]
 | _=>[kx 0 [(0,1),(1,1),(2,1)],kx 0 [(1,1)],kx 0 [(1,1),(2,1)],kx 0 [],kx 0 [],kx 0 [],kx 0 [],kx 0 []]
def iV.bd:iV→Bd
 | .S=>[(0,110),(0,0),(0,0),(0,300),(0,3)]
 | .H=>[(0,0),(0,110),(1,4),(0,300),(0,3)]
 | .D=>[(0,60),(0,110),(1,4),(0,300),(0,3)]
 | .E=>[(0,110),(0,60),(1,4),(0,300),(0,3)]
def l64 (l:List (Nat×Int)):AV:=l6 0 l
def a8n (k:iV):AV:=l64 (k.pl++[(3,1),(4,1)])
def hdX:AV := .opl 11 ⟨0,[(4,1)]⟩
def svK (k:iV):List AV:=svX (a8n k) (l64 [(3,1)]) hdX (l64 k.pl) (.slc 9 0 1)
def ofH (k:iV):Hp:=wO++shH 8 (gJ k.sb (vG k.mk))
end Go.Eng
namespace Go.Eng
def d9y (k:Nat):TS:=⟨123,k,[.s (.at 0),.s (.num (-9223372036854775808) 9223372036854775807)],[.opq],.s (.at 2),[.at 2,.at 1],k+1⟩
def d9z (k:Nat):TS:=⟨121,k,[.s (.at 0),.s (.c (.str ⟨#[]⟩))],[.opq],.s (.at 2),[.at 2,.at 1],k+2⟩
def e0a (k:Nat):TS:=⟨121,100+k,[.s (.at 0),.s (.at 2)],[.opq],.s (.at 3),[.at 3,.at 1],k+2⟩
def e6v:TS:=⟨141,0,[.s (.at 1)],[.ptr],.t [.at 2,cI 0],[.at 0,.at 1],0⟩
def wP:List TS:=e6v::((List.range 90).map d9y++(List.range 90).map d9z++(List.range 90).map e0a)
def wQ:List CW:=(List.range 90).map (fun k=>⟨33,9,k,1,100+k⟩)++(List.range 89).map fun k=>⟨33,9,k+1,0,300⟩
def iV.bdE (k:iV):Bd:=k.bd++[(0,16),(0,4294967295),(1,12)]
def ptK (k:iV):List AV:=[.bool true,l64 [(7,1)],n6 1,l64 [(5,1)],.sym .u32 ⟨0,[(6,1)]⟩]++svK k
end Go.Eng
namespace Go.Eng
def oS:TS:=⟨205,0,[.s (.at 0)],[.opl ⟨0,[(4,1)]⟩],.s (.at 1),[.at 0,.at 1],1⟩
def nK:Bd:=[(0,200),(0,200),(0,200),(0,0),(0,3)]
def lH (c:Int×Int):Bd:=[(0,300),(0,199),c,(0,300),(0,300)]
def xsT (a c:eK):Sb:=[a,c,kx 0 [],kx 0 [],kx 0 []]
def b7n:List AV:=[.bool false,l64 [(7,1)],n6 1,n6 0,.int .u32 0,n6 0,n6 0,.bool false,.bool false,n6 0,n6 0,.nils,.nils,n6 0,.nils,.nils,n6 0,.nils,.nils,n6 0,.nils]
end Go.Eng
namespace Go.Eng
def yM:Bd:=[(0,0),(0,0),(0,0),(0,0),(0,0),(0,0),(0,0),(1,12)]
end Go.Eng
namespace Go.Eng
theorem e6w:eX (call (oL nK (hks nK [oS])) 300 142 [.ptr 1 0] ⟨[],(0,.gho 0 [.ptr 2 0])::fF .S0,13,[],[]⟩) (.agg [.opl 14 ⟨0,[(4,1)]⟩,l6 0 [(0,1)],.slc 19 0 1]) 1 [.ptr 2 0,.opl 14 ⟨0,[(4,1)]⟩] [⟨List.range 13,fF .S0,13,rX,rX⟩,⟨[0,19,17],vG Xk.S0.mk,3,[.slc 1 0 1],[.slc 19 0 1]⟩]=true:=by kernel_rfl
theorem e6x:eX (call (oL nK (hks nK [oS])) 300 142 [.ptr 1 0] ⟨[],(0,.gho 0 [.ptr 2 0])::fF .S1,13,[],[]⟩) (.agg [.opl 14 ⟨0,[(4,1)]⟩,l6 0 [(0,1)],.slc 19 0 1]) 1 [.ptr 2 0,.opl 14 ⟨0,[(4,1)]⟩] [⟨List.range 13,fF .S1,13,rX,rX⟩,⟨[0,19,17],vG Xk.S1.mk,3,[.slc 1 0 1],[.slc 19 0 1]⟩]=true:=by kernel_rfl
theorem e6y:eX (call (oL nK (hks nK [oS])) 300 142 [.ptr 1 0] ⟨[],(0,.gho 0 [.ptr 2 0])::fF .S2,13,[],[]⟩) (.agg [.opl 14 ⟨0,[(4,1)]⟩,l6 0 [(0,1)],.slc 19 0 1]) 1 [.ptr 2 0,.opl 14 ⟨0,[(4,1)]⟩] [⟨List.range 13,fF .S2,13,rX,rX⟩,⟨[0,19,17],vG Xk.S2.mk,3,[.slc 1 0 1],[.slc 19 0 1]⟩]=true:=by kernel_rfl
theorem f1f:eX (call (oL nK (hks nK [oS])) 300 142 [.ptr 1 0] ⟨[],(0,.gho 0 [.ptr 2 0])::fF .H,13,[],[]⟩) (.agg [.opl 14 ⟨0,[(4,1)]⟩,l6 0 [(0,1)],.slc 19 0 1]) 1 [.ptr 2 0,.opl 14 ⟨0,[(4,1)]⟩] [⟨List.range 13,fF .H,13,rX,rX⟩,⟨[0,19,17],vG Xk.H.mk,3,[.slc 1 0 1],[.slc 19 0 1]⟩]=true:=by kernel_rfl
theorem e6z:eX (call (oL nK (hks nK [oS])) 300 142 [.ptr 1 0] ⟨[],(0,.gho 0 [.ptr 2 0])::fF .H2,13,[],[]⟩) (.agg [.opl 14 ⟨0,[(4,1)]⟩,l6 0 [(0,1)],.slc 19 0 1]) 1 [.ptr 2 0,.opl 14 ⟨0,[(4,1)]⟩] [⟨List.range 13,fF .H2,13,rX,rX⟩,⟨[0,19,17],vG Xk.H2.mk,3,[.slc 1 0 1],[.slc 19 0 1]⟩]=true:=by kernel_rfl
theorem f1g:eX (call (oL nK (hks nK [oS])) 300 142 [.ptr 1 0] ⟨[],(0,.gho 0 [.ptr 2 0])::fF .D,13,[],[]⟩) (.agg [.opl 14 ⟨0,[(4,1)]⟩,l6 0 [(0,1)],.slc 18 0 1]) 1 [.ptr 2 0,.opl 14 ⟨0,[(4,1)]⟩] [⟨List.range 13,fF .D,13,rX,rX⟩,⟨[0,18,1],vG Xk.D.mk,3,[.slc 1 0 1],[.slc 18 0 1]⟩]=true:=by kernel_rfl
theorem e7a:eX (call (oL nK (hks nK [oS])) 300 142 [.ptr 1 0] ⟨[],(0,.gho 0 [.ptr 2 0])::fF .D2,13,[],[]⟩) (.agg [.opl 14 ⟨0,[(4,1)]⟩,l6 0 [(0,1)],.slc 18 0 1]) 1 [.ptr 2 0,.opl 14 ⟨0,[(4,1)]⟩] [⟨List.range 13,fF .D2,13,rX,rX⟩,⟨[0,18,1],vG Xk.D2.mk,3,[.slc 1 0 1],[.slc 18 0 1]⟩]=true:=by kernel_rfl
theorem e7b:eX (call (oL nK (hks nK [oS])) 300 142 [.ptr 1 0] ⟨[],(0,.gho 0 [.ptr 2 0])::fF .D3,13,[],[]⟩) (.agg [.opl 14 ⟨0,[(4,1)]⟩,l6 0 [(0,1)],.slc 18 0 1]) 1 [.ptr 2 0,.opl 14 ⟨0,[(4,1)]⟩] [⟨List.range 13,fF .D3,13,rX,rX⟩,⟨[0,18,1],vG Xk.D3.mk,3,[.slc 1 0 1],[.slc 18 0 1]⟩]=true:=by kernel_rfl
theorem e2d:eX (call (EB []) 300 109 [.ptr 1 0] ⟨[],(0,.gho 0 [])::wO,8,[],[]⟩) (.tup [.ptr 26 0,.int .i64 0]) 0 [] [⟨List.range 8,wO,8,[.ptr 1 0],[.ptr 1 0]⟩,⟨[0,1,26,25,17,11,96],gJ (xsT (kx 0 []) (kx 0 [])) (pH tY xL0),7,rT,[.ptr 1 0,.ptr 26 0,.ptr 96 0]⟩,⟨[0,96,95,1,87,86,78,72,94,92,69,68,2],gJ z5 (fF .S0),13,rX,[.ptr 96 0,.ptr 95 0,.ptr 87 0]⟩,⟨[0,95],yK,2,[.ptr 1 0],[.ptr 95 0]⟩]=true:=by kernel_rfl
theorem e7c:eX (call (oL (lH (0,9)) (hks (lH (0,9)) [a8l])) 300 167 [.ptr 2 0,.sym .u8 ⟨0,[(2,1)]⟩] ⟨[],(0,.gho 0 [.ptr 6 0])::pH tY xL0,7,[],[]⟩) (.nils) 1 [.ptr 6 0] [⟨[0,1,2,3,4,5,6],gJ (xsT (kx 0 [(0,1)]) (kx 1 [(1,1)])) (pH tY xL0),7,rT,[.ptr 1 0,.ptr 2 0,.ptr 6 0]⟩]=true:=by kernel_rfl
theorem e7d:eX (call (oL (lH (11,255)) (hks (lH (11,255)) [a8l])) 300 167 [.ptr 2 0,.sym .u8 ⟨0,[(2,1)]⟩] ⟨[],(0,.gho 0 [.ptr 6 0])::pH tY xL0,7,[],[]⟩) (.nils) 1 [.ptr 6 0] [⟨[0,1,2,3,4,5,6],gJ (xsT (kx 0 [(0,1)]) (kx 1 [(1,1)])) (pH tY xL0),7,rT,[.ptr 1 0,.ptr 2 0,.ptr 6 0]⟩]=true:=by kernel_rfl
theorem f1h:eX (call (oL (lH (0,255)) (hks (lH (0,255)) [a3d false,a8m])) 300 167 [.ptr 2 0,.int .u8 10] ⟨[],(0,.gho 0 [.ptr 6 0])::pH tY xL0,7,[],[]⟩) (.nils) 2 [.ptr 10 0] [⟨[0,1,2,3,4,5,10],gJ (xsT (kx 1 [(0,1),(1,1)]) (kx 0 [])) (pH tY xL0),7,rT,[.ptr 1 0,.ptr 2 0,.ptr 10 0]⟩]=true:=by kernel_rfl
theorem e7e:eX (call (oL (lH (0,255)) (hks (lH (0,255)) [a3d true,a8m])) 300 167 [.ptr 2 0,.int .u8 10] ⟨[],(0,.gho 0 [.ptr 6 0])::pH tY xL0,7,[],[]⟩) (.slc 12 0 1) 2 [.ptr 13 0] [⟨[0,1,2,3,4,5,13],gJ (xsT (kx 1 [(0,1),(1,1)]) (kx 0 [])) (pH tY xL0),7,rT,[.ptr 1 0,.ptr 2 0,.ptr 13 0]⟩,⟨[0,12],vH,2,[.slc 1 0 1],[.slc 12 0 1]⟩]=true:=by kernel_rfl
theorem e7f:eX (call (oL (lH (0,300)) (hks (lH (0,300)) [d0t])) 300 47 [.ptr 2 0] ⟨[],(0,.gho 0 [.ptr 6 0])::pH tY xL0,7,[],[]⟩) (.agg (svX tY xL0 (.opq 10) (l6 0 [(2,1)]) (.opq 11))) 1 [.ptr 6 0,.opq 10,.opq 11] [⟨List.range 7,pH tY xL0,7,rT,rT⟩]=true:=by kernel_rfl
theorem c4y:eX (call (EBc yM (hks yM wP) (a3c wQ)) 300 75 [.ptr 1 0,.agg b7n] ⟨[],(0,.gho 0 [.nils,.nils])::wO,8,[],[]⟩) (.opq 18) 300 [.opq 17,.nils,.opq 18] [⟨List.range 8,wO,8,[.ptr 1 0],[.ptr 1 0]⟩]=true:=by kernel_rfl
theorem f1i:eX (call (oL iV.S.bd (hks iV.S.bd [pI 0,pI 1])) 300 46 [.ptr 1 0,.agg (svK .S)] ⟨[],(0,.gho 0 [hdX])::ofH .S,12,[],[]⟩) (.tup [.ptr 119 0,.int .i64 0]) 2 [hdX,.ptr 41 0,.ptr 310 0] [⟨List.range 8,wO,8,[.ptr 1 0],[.ptr 1 0]⟩,⟨[0,9,10],gJ iV.S.sb (vG iV.S.mk),3,[.slc 1 0 1],[.slc 9 0 1]⟩,⟨[0,1,119,118,110,104,311],pH (a8n .S) (l64 [(3,1)]),7,rT,[.ptr 1 0,.ptr 119 0,.ptr 311 0]⟩,⟨[0,311,310,1,248,247,239,233,309,307,230,229,2],gJ iV.S.sb (fF iV.S.mk.x2),13,rX,[.ptr 311 0,.ptr 310 0,.ptr 248 0]⟩]=true:=by kernel_rfl
theorem f1j:eX (call (oL iV.H.bd (hks iV.H.bd [pI 0,pI 1])) 300 46 [.ptr 1 0,.agg (svK .H)] ⟨[],(0,.gho 0 [hdX])::ofH .H,12,[],[]⟩) (.tup [.ptr 121 0,.int .i64 0]) 2 [hdX,.ptr 41 0,.ptr 314 0] [⟨List.range 8,wO,8,[.ptr 1 0],[.ptr 1 0]⟩,⟨[0,9,10],gJ iV.H.sb (vG iV.H.mk),3,[.slc 1 0 1],[.slc 9 0 1]⟩,⟨[0,1,121,120,112,106,315],pH (a8n .H) (l64 [(3,1)]),7,rT,[.ptr 1 0,.ptr 121 0,.ptr 315 0]⟩,⟨[0,315,314,1,250,249,241,235,313,311,232,231,2],gJ iV.H.sb (fF iV.H.mk.x2),13,rX,[.ptr 315 0,.ptr 314 0,.ptr 250 0]⟩]=true:=by kernel_rfl
theorem f1k:eX (call (oL iV.D.bd (hks iV.D.bd [pI 0,pI 1])) 300 46 [.ptr 1 0,.agg (svK .D)] ⟨[],(0,.gho 0 [hdX])::ofH .D,12,[],[]⟩) (.tup [.ptr 115 0,.int .i64 0]) 2 [hdX,.ptr 41 0,.ptr 301 0] [⟨List.range 8,wO,8,[.ptr 1 0],[.ptr 1 0]⟩,⟨[0,9,10],gJ iV.D.sb (vG iV.D.mk),3,[.slc 1 0 1],[.slc 9 0 1]⟩,⟨[0,1,115,114,106,100,302],pH (a8n .D) (l64 [(3,1)]),7,rT,[.ptr 1 0,.ptr 115 0,.ptr 302 0]⟩,⟨[0,302,301,1,244,243,235,229,300,2,226,225,3],gJ iV.D.sb (fF iV.D.mk.x2),13,rX,[.ptr 302 0,.ptr 301 0,.ptr 244 0]⟩]=true:=by kernel_rfl
theorem f1l:eX (call (oL iV.E.bd (hks iV.E.bd [pI 0,pI 1])) 300 46 [.ptr 1 0,.agg (svK .E)] ⟨[],(0,.gho 0 [hdX])::ofH .E,12,[],[]⟩) (.tup [.ptr 115 0,.int .i64 0]) 2 [hdX,.ptr 41 0,.ptr 301 0] [⟨List.range 8,wO,8,[.ptr 1 0],[.ptr 1 0]⟩,⟨[0,9,10],gJ iV.E.sb (vG iV.E.mk),3,[.slc 1 0 1],[.slc 9 0 1]⟩,⟨[0,1,115,114,106,100,302],pH (a8n .E) (l64 [(3,1)]),7,rT,[.ptr 1 0,.ptr 115 0,.ptr 302 0]⟩,⟨[0,302,301,1,244,243,235,229,300,2,226,225,3],gJ iV.E.sb (fF iV.E.mk.x2),13,rX,[.ptr 302 0,.ptr 301 0,.ptr 244 0]⟩]=true:=by kernel_rfl
section
variable {b : Nat} {ν : Nat → Int} {st : Nat → List Value → List (cR b)}
theorem yN {P:Program} {E:iU} (hE:@sL (cA b ν st) P E) {fuel:Nat} {f:FuncId} {args:List AV} {H:Hp} {n k0 kf:Nat} {as0 asf rt:List AV} {vf:AV} {ps:List mM}
  (hev:eX (call E fuel f args ⟨[],(0,.gho k0 as0)::H,n,[],[]⟩) vf kf asf ps=true) (hn:0 < n) (h0:cK H 0=none)
  {w:World} {F:Nat→Prop} {gs us vals:List Value} (hb:b≤w.heap.size) (h:cW (st k0 gs++[cY b ν H n rt vals]) w F)
  (hg:∀ G:GM,@dG (bQ b ν) G rt=some vals→@dG (bQ b ν) G as0=some gs∧@uS (bQ b ν) G args us) :
  Calls P f us.toArray w fun e w'=>∃ u gs' G,e = .returned u∧@dv (bQ b ν) G vf=some u∧@dG (bQ b ν) G asf=some gs'∧(∃ F0,cW (st kf gs') w' F0)∧(∀ vss,d6n b ν G ps vss→∃ F',cW (st kf gs'++c1i b ν ps vss) w' F'∧∀ x,F' x→F x∨w.heap.size≤x)∧(∀ p∈ps,∀ k c,cK p.B k=some c→c.live→∃ x,(bT p.ρ k).bind G=some x)∧cJ F w w'∧∃ G0:GM,lK G0 G∧@dG (bQ b ν) G0 rt=some vals:=by
 letI:fP:=cA b ν st
 obtain⟨G0,D,z⟩:=a2d (k:=k0) (az:=as0) hn hb h0 h (fun G q=>(hg G q).1);unfold eX at hev;split at hev
 ·rename_i I S r;simp only[aD] at hev;obtain⟨⟨⟨⟨J,d⟩,A⟩,K⟩,L⟩:=hev;have C:S.obs=[]:=by simpa using L
  refine((@a0r (cA b ν st) P E hE fuel f args _ S I r).2.2 (by rw[C];intro p a;cases a) (b5t _ _ _ (hg G0 z).2) D).mono ?_;rintro e w' ⟨u,G,O,rfl,M,s,l⟩;have m:cK S.H 0=some (.gho kf asf):=by
   unfold c8u at d;split at d
   ·rename_i k' N he;rw[aD] at d;rw[he,aC d.1,mK d.2]
   ·cases d
  obtain⟨gs',t,Q,j,R,T⟩:=s.gh kf asf m;have j:cW (st kf gs') w' t:=j;refine⟨u,gs',G,rfl,by rw[a7i J,← c9j (st:=st)];exact M,by rw[← yA (st:=st)];exact Q,⟨t,j⟩,fun vss hv=>?_,fun p a k c r hl=>?_,l.u,G0,l.g,z⟩
  rotate_left
  ·have a:=bB.1 A p a;unfold mM.ok at a;rw[aD] at a;obtain⟨x,q,_⟩:=(s.gc a.1).bs k c r hl;exact⟨x,q⟩
  obtain⟨U,V,W,X⟩:=yJ s (fun p a=>bB.1 A p a) K hv;refine⟨fun x=>t x∨U x,j.join V (fun x v hy=>?_) (fun _=>Iff.rfl),fun x v=>v.elim (fun q=>l.o x (R x q).1) fun q=>l.o x (W x q)⟩;obtain⟨i,c,y,e0,Y,Z,e3,e4⟩:=X x hy;subst e4;exact T i c y Y Z e3 v
 ·cases hev
end
theorem e2e:eX (call (EBc iV.S.bdE (hks iV.S.bdE wP) (a3c wQ)) 300 75 [.ptr 1 0,.agg (ptK .S)] ⟨[],(0,.gho 0 [.nils,hdX])::ofH .S,12,[],[]⟩) (.opq 191) 300 [.opq 190,hdX,.opq 191] [⟨List.range 8,wO,8,[.ptr 1 0],[.ptr 1 0]⟩,⟨[0,9,10],gJ iV.S.sb (vG iV.S.mk),3,[.slc 1 0 1],[.slc 9 0 1]⟩]=true:=by kernel_rfl
theorem e2f:eX (call (EBc iV.H.bdE (hks iV.H.bdE wP) (a3c wQ)) 300 75 [.ptr 1 0,.agg (ptK .H)] ⟨[],(0,.gho 0 [.nils,hdX])::ofH .H,12,[],[]⟩) (.opq 207) 300 [.opq 206,hdX,.opq 207] [⟨List.range 8,wO,8,[.ptr 1 0],[.ptr 1 0]⟩,⟨[0,9,10],gJ iV.H.sb (vG iV.H.mk),3,[.slc 1 0 1],[.slc 9 0 1]⟩]=true:=by kernel_rfl
theorem e2g:eX (call (EBc iV.D.bdE (hks iV.D.bdE wP) (a3c wQ)) 300 75 [.ptr 1 0,.agg (ptK .D)] ⟨[],(0,.gho 0 [.nils,hdX])::ofH .D,12,[],[]⟩) (.opq 173) 300 [.opq 172,hdX,.opq 173] [⟨List.range 8,wO,8,[.ptr 1 0],[.ptr 1 0]⟩,⟨[0,9,10],gJ iV.D.sb (vG iV.D.mk),3,[.slc 1 0 1],[.slc 9 0 1]⟩]=true:=by kernel_rfl
theorem e2h:eX (call (EBc iV.E.bdE (hks iV.E.bdE wP) (a3c wQ)) 300 75 [.ptr 1 0,.agg (ptK .E)] ⟨[],(0,.gho 0 [.nils,hdX])::ofH .E,12,[],[]⟩) (.opq 173) 300 [.opq 172,hdX,.opq 173] [⟨List.range 8,wO,8,[.ptr 1 0],[.ptr 1 0]⟩,⟨[0,9,10],gJ iV.E.sb (vG iV.E.mk),3,[.slc 1 0 1],[.slc 9 0 1]⟩]=true:=by kernel_rfl
def kN (n m:Nat):List oW:=(List.range' n m).map oW.at++ats n
/-! The follower b0l at a file,and keeps a point: calls taken as told. The newest values stand first. Letters: 0: the ino;2,3: the head;6: the size. -/
def lw (i:Nat):AV:=l6 0 [(i,1)]
def c1n:List TS:=[
 ⟨29,0,[.s (.at 5),.s (.c (lw 0))],[],.ta [(.c (.bool false)),cI 0,cI 0,cI 0,(.c (.int .u32 0)),cI 0,cI 0,(.c (.bool false)),(.c (.bool false)),cI 0,cI 0,(.c .nils),(.c .nils),cI 0,(.c .nils),(.c .nils),cI 0,(.c .nils),(.c .nils),cI 0,(.c .nils)] [.c (.bool false)],ats 6,1⟩,
 ⟨107,1,[.s (.at 0),.s (.c (lw 0)),.s (cI 0),.s (cI 16)],[.opl ⟨0,[(2,1)]⟩],.t [(.at 6),cI 0],kN 6 1,2⟩,
 ⟨109,2,[.s (.at 5)],[.ptr],.t [(.at 7),cI 0],kN 7 1,3⟩,
 ⟨47,3,[.s (.at 0)],[.opq,.opq,.opq,.opq],.g [cI 0,(.at 8),(.c (.bool false)),(.c (.bool false)),cI 0,cI 0,(.c .nils),(.c .nils),cI 0,(.c .nils),(.at 10),(.at 9),(.at 11),(.c .nils),cI 0,(.c .nils)],kN 8 4,4⟩,
 ⟨110,4,[.s (.at 5)],[],.g [(.c (lw 2)),(.c (.sym .u32 ⟨0,[(3,1)]⟩))],ats 12,5⟩,
 ⟨46,5,[.s (.at 10),.g [cI 0,(.at 0),(.c (.bool false)),(.c (.bool false)),cI 0,cI 0,(.c .nils),(.c .nils),cI 0,(.c .nils),(.at 2),(.at 1),(.at 3),(.c .nils),cI 0,(.c .nils)]],[.ptr],.t [(.at 12),cI 0],kN 12 1,6⟩,
 ⟨107,6,[.s (.at 7),.s (.c (lw 0)),.s (cI 0),.s (.c (lw 6))],[.opl ⟨0,[(6,1)]⟩],.t [(.at 13),cI 0],kN 13 1,7⟩,
 ⟨112,7,[.s (.at 1),.s (.at 0)],[.opq],.s (.at 14),kN 14 1,8⟩,
 ⟨111,8,[.pt 98 [(.at 9),(.at 13),(.at 11),(.at 12),.any,.any],.g [(.c (.bool true)),(.c (lw 0)),cI 1,.any,.any,.any,.any,.any,.any,.any,.any,.any,.any,.any,.any,.any,.any,.any,.any,.any,.any],.s (.at 0)],[],.s (cI 0),ats 15,9⟩,
 ⟨47,9,[.s (.at 2)],[.opq,.opq,.opq,.opq],.g [(.c (lw 6)),(.at 15),(.c (.bool false)),(.c (.bool false)),cI 0,cI 0,(.c .nils),(.c .nils),cI 0,(.c .nils),(.at 17),(.at 16),(.at 18),(.c .nils),cI 0,(.c .nils)],kN 15 4,10⟩,
 ⟨75,10,[.s (.at 17),.g [(.c (.bool true)),(.c (lw 0)),cI 1,(.c (lw 2)),(.c (.sym .u32 ⟨0,[(3,1)]⟩)),(.c (lw 6)),(.at 0),(.c (.bool false)),(.c (.bool false)),cI 0,cI 0,(.c .nils),(.c .nils),cI 0,(.c .nils),(.at 2),(.at 1),(.at 3),(.c .nils),cI 0,(.c .nils)]],[.opq],.s (.at 19),kN 19 1,11⟩,
 ⟨76,11,[.s (.at 17),.sl 190 1 [(.c (lw 0)),(.at 0)]],[],.s (cI 0),ats 20,12⟩,
 ⟨77,12,[.s (.at 19),.s (.c (lw 0)),.g [(.c (.bool true)),(.c (lw 0)),cI 1,(.c (lw 2)),(.c (.sym .u32 ⟨0,[(3,1)]⟩)),(.c (lw 6)),(.at 1),(.c (.bool false)),(.c (.bool false)),cI 0,cI 0,(.c .nils),(.c .nils),cI 0,(.c .nils),(.at 3),(.at 2),(.at 4),(.c .nils),cI 0,(.c .nils)]],[],.s (.c (.bool true)),[.at 1,.at 2,.at 3,.at 4,.at 14,.at 15,.at 16,.at 17,.at 18,.at 19],13⟩]
def c1o:List TS:=[
 ⟨29,0,[.s (.at 9),.s (.c (lw 0))],[],.ta [(.c (.bool true)),(.c (lw 0)),cI 1,(.c (lw 2)),(.c (.sym .u32 ⟨0,[(3,1)]⟩)),(.c (lw 6)),(.at 0),(.c (.bool false)),(.c (.bool false)),cI 0,cI 0,(.c .nils),(.c .nils),cI 0,(.c .nils),(.at 2),(.at 1),(.at 3),(.c .nils),cI 0,(.c .nils)] [.c (.bool true)],ats 10,1⟩,
 ⟨107,1,[.s (.at 4),.s (.c (lw 0)),.s (cI 0),.s (cI 16)],[.opl ⟨0,[(2,1)]⟩],.t [(.at 10),cI 0],kN 10 1,2⟩,
 ⟨108,2,[.g [(.c (lw 2)),(.c (.sym .u32 ⟨0,[(3,1)]⟩))],.s (.c (lw 6)),.s (.c (lw 6)),.s (.at 0)],[],.s (.c (.bool true)),ats 11,3⟩,
 ⟨110,3,[.s (.at 0)],[],.g [(.c (lw 2)),(.c (.sym .u32 ⟨0,[(3,1)]⟩))],ats 11,4⟩,
 ⟨46,4,[.s (.at 9),.g [(.c (lw 6)),(.at 1),(.c (.bool false)),(.c (.bool false)),cI 0,cI 0,(.c .nils),(.c .nils),cI 0,(.c .nils),(.at 3),(.at 2),(.at 4),(.c .nils),cI 0,(.c .nils)]],[.ptr],.t [(.at 11),cI 0],kN 11 1,5⟩,
 ⟨107,5,[.s (.at 6),.s (.c (lw 0)),.s (.c (lw 6)),.s (cI 0)],[.opl ⟨0,[]⟩],.t [(.at 12),cI 0],kN 12 1,6⟩,
 ⟨112,6,[.s (.at 1),.s (.at 0)],[.opq],.s (.at 13),kN 13 1,7⟩,
 ⟨111,7,[.pt 98 [(.at 8),(.at 12),(.at 10),(.at 11),.any,.any],.g [(.c (.bool true)),(.c (lw 0)),cI 1,.any,.any,.any,.any,.any,.any,.any,.any,.any,.any,.any,.any,.any,.any,.any,.any,.any,.any],.s (.at 0)],[],.s (cI 0),ats 14,8⟩,
 ⟨47,8,[.s (.at 2)],[.opq,.opq,.opq,.opq],.g [(.c (lw 6)),(.at 14),(.c (.bool false)),(.c (.bool false)),cI 0,cI 0,(.c .nils),(.c .nils),cI 0,(.c .nils),(.at 16),(.at 15),(.at 17),(.c .nils),cI 0,(.c .nils)],[.at 4,.at 5,.at 6,.at 7,.at 8,.at 9,.at 10,.at 11,.at 12,.at 13],9⟩]
def c1p:List TS:=[
 ⟨75,0,[.s (.at 4),.g [(.c (.bool false)),(.c (lw 0)),cI 1,cI 0,(.c (.int .u32 0)),cI 0,cI 0,(.c (.bool false)),(.c (.bool false)),cI 0,cI 0,(.c .nils),(.c .nils),cI 0,(.c .nils),(.c .nils),cI 0,(.c .nils),(.c .nils),cI 0,(.c .nils)]],[.opq],.s (.at 6),kN 6 1,1⟩,
 ⟨76,1,[.s (.at 4),.sl 190 1 [(.c (lw 0)),(.at 0)]],[],.s (cI 0),ats 7,2⟩,
 ⟨77,2,[.s (.at 6),.s (.c (lw 0)),.g [(.c (.bool false)),(.c (lw 0)),cI 1,cI 0,(.c (.int .u32 0)),cI 0,cI 0,(.c (.bool false)),(.c (.bool false)),cI 0,cI 0,(.c .nils),(.c .nils),cI 0,(.c .nils),(.c .nils),cI 0,(.c .nils),(.c .nils),cI 0,(.c .nils)]],[],.s (.c (.bool false)),[.at 1,.at 2,.at 3,.at 4,.at 5,.at 6],3⟩]
def as6:List AV:=[.ptr 1 0,.ptr 2 0,.ptr 3 0,.ptr 4 0,.ptr 5 0,.ptr 6 0]
def a0h:Hp:=[(7,.row 98 [.ptr 1 0,.ptr 5 0,.ptr 3 0,.ptr 4 0,.ptr 6 0,.opq 8])]
def vI:List AV:=as6++[.ptr 7 0,.opq 8]
def f1m:List AV:=[.opq 10,.opq 11,.opq 12,.opq 13]++as6
def d0u:AV := .agg [lw 0,.opq 9,lw 6]
def bdW:Bd:=[(1,12),(0,0),(0,16),(0,4294967295),(0,0),(0,0),(1,110)]
def bdK:Bd:=[(1,12),(0,0),(0,16),(0,4294967295),(0,0),(0,0),(0,110)]
def e7g:AV := .agg [.bool false,lw 0,n6 1,n6 0,.int .u32 0,n6 0,n6 0,.bool false,.bool false,n6 0,n6 0,.nils,.nils,n6 0,.nils,.nils,n6 0,.nils,.nils,n6 0,.nils]
theorem d6p:eX (call (oL bdW (hks bdW c1n)) 300 69 [.ptr 7 0,d0u] ⟨[],(0,.gho 0 as6)::a0h,10,[],[]⟩) (.int .i64 0) 13 [.opq 22,.opq 23,.opq 24,.opq 25,.ptr 1 0,.ptr 2 0,.ptr 3 0,.ptr 4 0,.ptr 5 0,.ptr 6 0] [⟨List.range 9,a0h,9,vI,vI⟩]=true:=by kernel_rfl
theorem d6q:eX (call (oL bdW (hks bdW c1o)) 300 69 [.ptr 7 0,d0u] ⟨[],(0,.gho 0 f1m)::a0h,14,[],[]⟩) (.int .i64 0) 9 [.opq 10,.opq 11,.opq 12,.opq 13,.ptr 1 0,.ptr 2 0,.ptr 3 0,.ptr 4 0,.ptr 5 0,.ptr 6 0] [⟨List.range 9,a0h,9,vI,vI⟩]=true:=by kernel_rfl
theorem d6r:eX (call (oL bdK (hks bdK c1p)) 300 68 [.ptr 7 0,e7g] ⟨[],(0,.gho 0 as6)::a0h,9,[],[]⟩) (.int .i64 0) 3 [.ptr 1 0,.ptr 2 0,.ptr 3 0,.ptr 4 0,.ptr 5 0,.ptr 6 0] [⟨List.range 9,a0h,9,vI,vI⟩]=true:=by kernel_rfl
def iL:Nat→Nat→List AV
 | _,0=>[]
 | i,n+1 => .opq i::iL (i+1) n
def e0b:Nat→Nat→List AV
 | _,0=>[]
 | i,m+1=>n6 ((i+1:Nat):Int)::(iL (3+21*i) 21++e0b (i+1) m)
def rW:Nat→Hp
 | 0=>[(1,.row 142 [.nils])]
 | m+1=>[(1,.row 142 [.slc 2 0 (m+1)]),(2,.gro 139 22 (e0b 0 (m+1)))]
def kO (m:Nat):Nat:=3+21*m
def qE (m:Nat):List AV := .ptr 1 0::iL 3 (21*m)
def e2i:List AV:=[.bool false,n6 0,n6 0,n6 0,.int .u32 0,n6 0,n6 0,.bool false,.bool false,n6 0,n6 0,.nils,.nils,n6 0,.nils,.nils,n6 0,.nils,.nils,n6 0,.nils]
def e7h (m i:Nat):List AV := .ptr 1 0::(iL 3 (21*i)++iL (kO m) 21++iL (3+21*(i+1)) (21*(m-(i+1))))
def f1n (m i:Nat):List Nat:=[0,1,2]++((List.range (21*i)).map (·+3)++(List.range 21).map (·+kO m)++(List.range (21*(m-(i+1)))).map (·+(3+21*(i+1))))
def d0v (n b:Nat):List Nat:=[0,1,b]++(List.range (n-3)).map (·+3)
def f1o:Nat→Nat
 | 0=>26
 | m+1=>48+21*m
def key (i:Nat):AV:=n6 ((i+1:Nat):Int)
noncomputable def f1p (m i:Nat):Bool:=fG (EB []) 300 29 [.ptr 1 0,key i] (rW m) (kO m) (.tup [.agg (iL (3+21*i) 21),.bool true]) [⟨d0v (kO m) 2,rW m,kO m,qE m,qE m⟩]
noncomputable def noC (m i:Nat):Bool:=fG (EB []) 300 29 [.ptr 1 0,key i] (rW m) (kO m) (.tup [.agg e2i,.bool false]) [⟨d0v (kO m) 2,rW m,kO m,qE m,qE m⟩]
noncomputable def atC (m i:Nat):Bool:=fG (EB []) 300 80 [.ptr 1 0,n6 (i:Int)] (rW m) (kO m) (.tup [key i,.agg (iL (3+21*i) 21),.bool true]) [⟨d0v (kO m) 2,rW m,kO m,qE m,qE m⟩]
noncomputable def f1q (m:Nat):Bool:=fG (EB []) 300 79 [.ptr 1 0] (rW m) (kO m) (n6 (m:Int)) [⟨d0v (kO m) 2,rW m,kO m,qE m,qE m⟩]
noncomputable def f1r (m:Nat):Bool:=fG (EB []) 300 77 [.ptr 1 0,key m,.agg (iL (kO m) 21)] (rW m) (kO (m+1)) (.bool true) [⟨d0v (kO (m+1)) (f1o m),rW (m+1),kO (m+1),qE (m+1),qE (m+1)⟩]
noncomputable def c4z (m i:Nat):Bool:=fG (EB []) 300 77 [.ptr 1 0,key i,.agg (iL (kO m) 21)] (rW m) (kO (m+1)) (.bool false) [⟨f1n m i,rW m,kO m,qE m,e7h m i⟩]
theorem e7i:((List.range 10).all fun m=>(List.range m).all (f1p m))=true:=by kernel_rfl
theorem e7j:(List.range 10).all f1q=true:=by kernel_rfl
theorem e2j:(List.range 9).all f1r=true:=by kernel_rfl
theorem f1s:((List.range 10).all fun m=>(List.range (12-m)).all fun i=>noC m (m+i))=true:=by kernel_rfl
theorem e2k:((List.range 6).all fun m=>(List.range m).all (c4z m))=true:=by kernel_rfl
theorem f1t:((List.range 10).all fun m=>(List.range m).all (atC m))=true:=by kernel_rfl
theorem e2l:(List.range 6).all (c4z 6)=true:=by kernel_rfl
theorem e2m:(List.range 7).all (c4z 7)=true:=by kernel_rfl
theorem e2n:(List.range 8).all (c4z 8)=true:=by kernel_rfl
def as4:List AV:=[.ptr 1 0,.ptr 2 0,.ptr 3 0,.ptr 4 0]
def hN:Hp:=[(5,.row 67 [.ptr 1 0,.ptr 2 0,.ptr 6 0]),(6,.row 98 [.ptr 1 0,.nilp,.ptr 3 0,.ptr 4 0,.ptr 7 0,.ptr 8 0]),(7,.row 142 [.nils])]
theorem e7k:eX (call (oL [] (hks [] c1j)) 300 5 [] ⟨[],[(0,.gho 0 [])],1,[],[]⟩) (.ptr 3 0) 4 [.ptr 1 0,.ptr 2 0,.ptr 5 0,.ptr 6 0] [⟨[0,1,2,5,6,3,8,7,10],hN,9,as4++[.ptr 5 0],[.ptr 1 0,.ptr 2 0,.ptr 5 0,.ptr 6 0,.ptr 3 0]⟩]=true:=by kernel_rfl
def rlX:ByteArray:=⟨#[1,1,1,1,97,1,1,120,0]⟩
def e0c (k n:Nat):TS:=⟨76,k,[.s (.at 3),.sl 190 1 [i0,.c (.str rlX)]],[],.s i0,ats n,k+1⟩
def a8o:List TS:=[d9w 0 1 4,e0c 1 4]
def e2o:Hp:=[(0,.row 29 [.str ⟨#[97]⟩,.str ⟨#[120]⟩])]
def e2p:AV := .agg [i6 7,i6 0,.str ⟨#[]⟩,.str ⟨#[]⟩,.nils,.slk 9 0 1 1,.str ⟨#[]⟩]
theorem e2q:eX (call (oL [] (hks [] a8o)) 1000 8 [.ptr 5 0,e2p] ⟨[],(0,.gho 0 as4)::(hN++shH 9 e2o),10,[],[]⟩) (.agg [i6 0,i6 0,.nils,.nils]) 2 as4 [⟨[0,80,79,118,109,107,17,20],wO,8,[.ptr 1 0],[.ptr 80 0]⟩,⟨[0,1,2,3,4,80,5,6,7,8],hW0,10,as5++[.ptr 6 0],as4++[.ptr 80 0]++[.ptr 5 0]⟩]=true:=by kernel_rfl
end Go.Eng
namespace Go.Eng
variable [fP]
open Go.RowKit
def d6s:List (Int×AV)→List (Int×AV)→Bool
 | [],[]=>true
 | a::l,b::m=>decide (a.1=b.1)&&eqA a.2 b.2&&d6s l m
 | _,_=>false
def a8p:Option cU→cU→Bool
 | some (.row e cs),.row e' cs'=>Nat.beq e e'&&a0e cs cs'
 | some (.gro e s cs),.gro e' s' cs'=>Nat.beq e e'&&Nat.beq s s'&&a0e cs cs'
 | some (.fro e cs),.fro e' cs'=>Nat.beq e e'&&a0e cs cs'
 | some (.mp es c),.mp es' c'=>Nat.beq c c'&&d6s es es'
 | some .dead,.dead=>true
 | _,_=>false
omit [fP] in
theorem c1q:∀ {l m:List (Int×AV)},d6s l m=true→l=m
 | [],[],_=>rfl
 | [],_::_,h=>by cases h
 | _::_,[],h=>by cases h
 | (k,a)::l,(k',b)::m,h=>by
  simp only[d6s,aD,decide_eq_true_eq] at h;obtain⟨⟨h1,h2⟩,h3⟩:=h;rw[h1,xT h2,c1q h3]
omit [fP] in
theorem a6c {a:Option cU} {b:cU} (h:a8p a b=true):a=some b∧∀ k az,b ≠ .gho k az:=by
 unfold a8p at h;split at h
 ·rw[aD] at h;rw[aC h.1,mK h.2];exact⟨rfl,by simp⟩
 ·simp only[aD] at h;rw[aC h.1.1,aC h.1.2,mK h.2];exact⟨rfl,by simp⟩
 ·rw[aD] at h;rw[aC h.1,mK h.2];exact⟨rfl,by simp⟩
 ·rw[aD] at h;rw[aC h.1,c1q h.2];exact⟨rfl,by simp⟩
 ·exact⟨rfl,by simp⟩
 ·cases h
def b7o (H:Hp):Hp→Bool
 | []=>true
 | (k,b)::l=>a8p (cK H k) b&&b7o H l
theorem a8q {H:Hp}:∀ {B:Hp},b7o H B=true→∀ k b,cK B k=some b→cK H k=some b
 | [],_,k,b,e=>by cases e
 | (k',b')::l,h,k,b,e=>by
  simp only[b7o,aD] at h;rw[cH] at e;split at e
  ·rename_i q;cases e;rw[q];exact(a6c h.1).1
  ·exact a8q h.2 k b e
structure a3e where
 f:Nat
 args:List AV
 nx:Nat
 H:Hp
 v:AV
 H1:Hp
 nx1:Nat
def b2w (H:Hp):Bool:=match cK H 0 with
 | none=>true
 | some _=>false
def a3f:List a3e→FuncId→List AV→St→Option (AV×St)
 | [],_,_,_=>none
 | m::l,f,args,S=>bif Nat.beq f m.f&&Nat.beq S.nx m.nx&&c3y args m.args&&b2w S.H&&b7o S.H m.H then some (m.v,{ S with H:=m.H1++S.H,nx:=m.nx1 }) else a3f l f args S
def c1r (K:List Nat) (H:Hp):Hp→Bool
 | []=>true
 | (k,b)::l=>(pQ K k||a8p (cK H k) b)&&c1r K H l
theorem b2x {K:List Nat} {H:Hp}:∀ {B:Hp},c1r K H B=true→∀ k b,cK B k=some b→pQ K k=true∨cK H k=some b
 | [],_,k,b,e=>by cases e
 | (k',b')::l,h,k,b,e=>by
  simp only[c1r,aD,Bool.or_eq_true] at h;rw[cH] at e;split at e
  ·rename_i q;cases e;subst q;exact h.1.imp id fun q=>(a6c q).1
  ·exact b2x h.2 k b e
def lN (E:iU) (n:Nat) (m:a3e):Bool :=
 match call E n m.f m.args ⟨[],m.H,m.nx,[],[]⟩ with
 | some (v,S)=>eqV v m.v&&S.obs.isEmpty&&Nat.beq S.nx m.nx1&&b7o S.H m.H1&&c1r (mW m.H1) S.H m.H&&b2w m.H1
 | none=>false
theorem d0w {H:Hp}:∀ {i:Nat},pQ (mW H) i=true→∃ b,cK H i=some b:=by
 induction H with
 | nil=>intro i h;cases h
 | cons p l ih =>
  intro i h;obtain⟨k,b⟩:=p;rw[cH];by_cases e:i=k
  ·exact⟨b,by rw[if_pos e]⟩
  ·rw[if_neg e];simp only[mW,pQ,Bool.or_eq_true] at h;rcases h with q|q
   ·exact absurd (aC q).symm e
   ·exact ih q
theorem b2y {H1 H:Hp} (i:Nat):cK (H1++H) i=(cK H1 i).or (cK H i):=by
 induction H1 with
 | nil=>simp[cK]
 | cons p l ih =>
  obtain⟨k,b⟩:=p;rw[List.cons_append,cH,cH];split
  ·rfl
  ·exact ih
theorem b2z {H:Hp} (h:b2w H=true):cK H 0=none:=by
 unfold b2w at h;split at h
 ·assumption
 ·cases h
theorem d6t {P:Program} {E:iU} (hE:sL P E) {n:Nat} {m:a3e} (hm:lN E n m=true) {S:St} (hn:S.nx=m.nx) (h0:cK S.H 0=none) (hs:b7o S.H m.H=true) :
  iC P m.f m.args S { S with H:=m.H1++S.H,nx:=m.nx1 } m.v:=by
 unfold lN at hm;split at hm
 rotate_left
 ·cases hm
 rename_i v S1 hc;simp only[aD] at hm;obtain⟨⟨⟨⟨⟨U,V⟩,a3⟩,W⟩,X⟩,Y⟩:=hm;have U:=a7i U;subst U;have V:S1.obs=[]:=by simpa using V
 have a3:=aC a3;have W:=a8q W;have X:=b2x X;have Y:=b2z Y;have hs:=a8q hs;obtain⟨-,⟨-,c2,-⟩,c3⟩:=a0r hE hc;dsimp only at c2;refine⟨rfl,⟨⟨m.H1,rfl⟩,by dsimp only;omega,fun _ q=>q⟩,fun _ w G O us hu C=>?_⟩;have hO:gP w G (fun x=>O x∧∃ k b y,cK m.H k=some b∧b.live∧G k=some y∧y.g=x) m.H m.nx:=by
  refine⟨⟨fun i b a L=>?_,fun i j b c x y a A T h l M he=>C.inj i j b c x y (hs i b a) A (hs j c T) h l M he⟩,fun i a=>C.fresh i (by omega),fun x l=>C.olt x l.1,fun k az B=>?_,fun x l=>C.ob x l.1,C.bw⟩
  ·obtain⟨x,z,D,I,J⟩:=C.bs i b (hs i b a) L;exact⟨x,z,⟨D,i,b,x,a,L,z,rfl⟩,I,J⟩
  ·have:=hs 0 _ B;rw[h0] at this;cases this
 refine(c3 (by rw[V];intro p hp;cases hp) hu hO).mono ?_;rintro e w' ⟨u,Z,O',rfl,k1,K,t⟩;have F:∀ i c,cK (m.H1++S.H) i=some c→c.live→cK S1.H i=some c∨(cK S.H i=some c∧∃ x,G i=some x∧Z i=some x∧O x.g∧x.g < w.heap.size∧(¬ ∃ k b y,cK m.H k=some b∧b.live∧G k=some y∧y.g=x.g)∧BS w' Z x c):=fun i c a L=>by
  rw[b2y] at a;cases A:cK m.H1 i with
  | some b =>
   rw[A] at a;have a:some b=some c:=a;cases a;exact .inl (W i _ A)
  | none =>
   rw[A] at a;have a:cK S.H i=some c:=by simpa using a
   cases B:cK m.H i with
   | some d =>
    have e1:=hs i d B;rw[a] at e1;cases e1;rcases X i _ B with q|q
    ·obtain⟨b,q⟩:=d0w q;rw[A] at q;cases q
    ·exact .inl q
   | none =>
    obtain⟨x,z,D,I,J⟩:=C.bs i c a L;have N:¬ ∃ k b y,cK m.H k=some b∧b.live∧G k=some y∧y.g=x.g:=by
     rintro⟨k,b,y,r1,r2,r3,r4⟩;have:=C.inj k i b c y x (hs k b r1) r2 a L r3 z r4;subst this;rw[B] at r1;cases r1
    exact .inr ⟨a,x,z,t.g i x z,D,I,N,J.mono t.g (t.u.block _ I (fun q=>N q.2))⟩
 refine⟨u,Z,fun x=>O x∨O' x,rfl,k1,⟨⟨fun i b a L=>?_,fun i j b c x y a A T h l M he=>?_⟩,fun i a=>K.fresh i (by dsimp only at a;omega),fun x l=>?_,fun k az B=>?_,fun x l=>l.elim (C.ob x) (K.ob x),K.bw⟩,t.g,⟨t.u.os,t.u.tape,t.u.output,t.u.size,fun k B hn=>t.u.block k B fun q=>hn q.1⟩,fun x l=>?_⟩
 ·rcases F i b a L with q|⟨_,x,z,D,I,J,g5,g6⟩
  ·obtain⟨x,z,D,I,J⟩:=K.bs i b q L;exact⟨x,z,.inr D,I,J⟩
  ·exact⟨x,D,.inl I,aX J t.u.size,g6⟩
 ·rcases F i b a A with q|⟨q0,x',z,D,I,J,g5,g6⟩
  ·obtain⟨x1,p1,Q,p3,_⟩:=K.bs i b q A;rw[l] at p1;cases p1;rcases F j c T h with r|⟨r0,y',l1,R,l3,l4,l5,l6⟩
   ·exact K.inj i j b c x y q A r h l M he
   ·rw[M] at R;cases R;rw[he] at Q;rcases t.o _ Q with s|s
    ·exact absurd s.2 l5
    ·omega
  ·rw[l] at D;cases D;rcases F j c T h with r|⟨r0,y',l1,R,l3,l4,l5,l6⟩
   ·obtain⟨y1,p1,Q,p3,_⟩:=K.bs j c r h;rw[M] at p1;cases p1;rw[← he] at Q;rcases t.o _ Q with s|s
    ·exact absurd s.2 g5
    ·omega
   ·rw[M] at R;cases R;exact C.inj i j b c x y q0 A r0 h z l1 he
 ·rcases l with q|q
  ·exact aX (C.olt x q) t.u.size
  ·exact K.olt x q
 ·dsimp only at B;rw[b2y,Y,h0] at B;cases B
 ·rcases l with q|q
  ·exact .inl q
  ·rcases t.o x q with s|s
   ·exact .inl s.1
   ·exact .inr s
theorem yO {P:Program}:∀ {l:List a3e},(∀ m∈l,∃ E n,sL P E∧lN E n m=true)→∀ f args S v S',a3f l f args S=some (v,S')→iC P f args S S' v
 | [],_,f,args,S,v,S',e=>by cases e
 | m::l,hl,f,args,S,v,S',e=>by
  simp only[a3f] at e;cases hc:Nat.beq f m.f&&Nat.beq S.nx m.nx&&c3y args m.args&&b2w S.H&&b7o S.H m.H<;>rw[hc] at e
  ·exact yO (fun x hx=>hl x (aT _ hx)) f args S v S' e
  ·cases e;simp only[aD] at hc;obtain⟨⟨⟨⟨h1,h2⟩,h3⟩,h4⟩,h5⟩:=hc;have h1:=aC h1;have h2:=aC h2;have h3:=a7h h3;subst h1;subst h3;obtain⟨E,n,a,b⟩:=hl m (aR ..);exact d6t a b h2 (b2z h4) h5
end Go.Eng
namespace Go.Eng
def wi (n:Int):AV := .int .i64 n
def wu (n:Int):AV := .int .u8 n
abbrev eN:=Nat×cU
def a4l (l:List Int):List AV:=l.map wi
def b3a (l:List Int):List AV:=l.map wu
def aw0:eN:=(282,.row 262 [.slc 281 0 1,.str ⟨#[]⟩,.slc 377 0 9,.slc 342 0 1,.nils,.nils,.ptr 30 0])
def aw1:eN:=(281,.gro 29 2 [.str ⟨#[97]⟩,.str ⟨#[120,40,121,63,41,36]⟩])
def aw2:eN:=(377,.gro 344 4 [wi 4,wi 0,wi 0,.nils,wi 1,wi 0,wi 0,.slc 345 0 1,wi 4,wi 2,wi 0,.nils,wi 2,wi 4,wi 5,.nils,wi 1,wi 0,wi 0,.slc 361 0 1,wi 4,wi 3,wi 0,.nils,wi 6,wi 0,wi 0,.nils,wi 4,wi 1,wi 0,.nils,wi 7,wi 0,wi 0,.nils])
def aw3:eN:=(345,.gro 482 2 [.int .i32 120,.int .i32 120])
def aw4:eN:=(361,.gro 482 2 [.int .i32 121,.int .i32 121])
def aw5:eN:=(342,.gro 3 1 [wi 0])
def aw6:eN:=(30,.row 401 [.slc 33 0 1])
def aw7:eN:=(33,.gro 403 2 [.str ⟨#[97]⟩,wi 0])
def aw8:eN:=(681,.gro 290 12 [.bool false,wi (-1),wi (-1),wi (-1),wi (-1),wi (-1),wi (-1),wi (-1),wi (-1),wi (-1),wi (-1),.slc 679 0 1])
def aw9:eN:=(679,.gro 415 11 (a4l [0,-1,-1,-1,-1,-1,-1,-1,-1,-1,-1]))
def e7l:eN:=(877,.row 209 [.ptr 282 0,.slc 876 0 9,.slc 846 0 1,.nils,.nils,.bool false,wi 0,wi 0,.bool false,.bool false,wi 0,wi 0,.nils,.nilp,.ptr 1230 0,.nilp])
def e7m:eN:=(876,.gro 344 4 [wi 4,wi 0,wi 0,.nils,wi 1,wi 0,wi 0,.slc 852 0 1,wi 4,wi 2,wi 0,.nils,wi 2,wi 4,wi 5,.nils,wi 1,wi 0,wi 0,.slc 862 0 1,wi 4,wi 3,wi 0,.nils,wi 6,wi 0,wi 0,.nils,wi 4,wi 1,wi 0,.nils,wi 7,wi 0,wi 0,.nils])
def e7n:eN:=(852,.gro 482 2 [.int .i32 120,.int .i32 120])
def e7o:eN:=(862,.gro 482 2 [.int .i32 121,.int .i32 121])
def e7p:eN:=(846,.gro 3 1 [wi 0])
def e7q:eN:=(1230,.row 298 [.ptr 1229 0,.ptr 1114 0])
def e7r:eN:=(1229,.row 378 [wu 0,wu 0,wu 0,wu 0,wi 0])
def e7s:eN:=(1114,.row 373 [.slc 1113 0 9,.slc 1083 0 1,wi 0,.slc 1228 0 1,.ptr 1080 0])
def e7t:eN:=(1113,.gro 344 4 [wi 4,wi 0,wi 0,.nils,wi 1,wi 0,wi 0,.slc 1089 0 1,wi 4,wi 2,wi 0,.nils,wi 2,wi 4,wi 5,.nils,wi 1,wi 0,wi 0,.slc 1099 0 1,wi 4,wi 3,wi 0,.nils,wi 6,wi 0,wi 0,.nils,wi 4,wi 1,wi 0,.nils,wi 7,wi 0,wi 0,.nils])
def e7u:eN:=(1089,.gro 482 2 [.int .i32 120,.int .i32 120])
def e7v:eN:=(1099,.gro 482 2 [.int .i32 121,.int .i32 121])
def e7w:eN:=(1083,.gro 3 1 [wi 0])
def e7x:eN:=(1228,.gro 290 12 [.bool false,wi (-1),wi (-1),wi (-1),wi (-1),wi (-1),wi (-1),wi (-1),wi (-1),wi (-1),wi (-1),.slc 1226 0 1])
def e7y:eN:=(1226,.gro 415 11 (a4l [0,-1,-1,-1,-1,-1,-1,-1,-1,-1,-1]))
def e7z:eN:=(1080,.row 456 [.slk 1079 0 9 9,.nils])
def e8a:eN:=(1079,.row 3 (a4l [0,0,0,0,0,0,0,0,0]))
def e8b:eN:=(1418,.gro 321 13 (a4l [1,0,0,1,3,2,3,-1,-1,-1,-1,-1,-1]))
def e2r:eN:=(14,.row 98 [.ptr 3 0,.ptr 282 0,.ptr 10 0,.ptr 12 0,.ptr 13 0,.ptr 16 0])
def e2s:eN:=(3,.row 107 [.ptr 1 0,.ptr 2 0])
def e8c:eN:=(1,.row 145 [.slc 471 0 1])
def e8d:eN:=(471,.gro 171 3 [wi 1,.str ⟨#[108,111,103]⟩,.slc 484 0 4])
def e8e:eN:=(484,.gro 5 1 (b3a [97,120,121,10]))
def e8f:eN:=(2,.row 148 [.slc 511 0 1])
def e8g:eN:=(511,.gro 389 2 (a4l [1,8]))
def e2t:eN:=(10,.row 216 [.ptr 6 0,.nils,.mp 9])
def e2u:eN:=(4,.row 151 [.slc 442 0 1])
def e2v:eN:=(442,.gro 242 2 [.str ⟨#[106,111,117,114,110,97,108]⟩,.slc 448 0 27])
def d6u:eN:=(448,.gro 5 1 (b3a [0,0,0,19,153,222,1,36,1,1,0,1,14,1,1,1,1,97,1,6,120,40,121,63,41,36,0]))
def e2w:eN:=(491,.row 151 [.slc 493 0 1])
def e2x:eN:=(493,.gro 242 2 [.str ⟨#[106,111,117,114,110,97,108]⟩,.slk 448 0 27 27])
def d6v:eN:=(12,.row 226 [.ptr 6 0,.ptr 11 0])
def d6w:eN:=(11,.row 306 [.slc 454 0 1])
def d6x:eN:=(454,.gro 311 2 [wi 0,.str ⟨#[1,1,1,1,97,1,6,120,40,121,63,41,36,0]⟩])
def e2y:eN:=(13,.row 142 [.nils])
def e2z:eN:=(16,.row 232 [.opq 15,.bool false])
def e8h:eN:=(10,.row 216 [.ptr 6 0,.slc 1528 0 1,.mp 9])
def e8i:eN:=(6,.row 112 [.ptr 4 0,.ptr 491 0,.slc 1524 0 2])
def e3a:eN:=(4,.row 151 [.slc 1516 0 2])
def e8j:eN:=(1516,.gro 242 2 [.str ⟨#[106,111,117,114,110,97,108]⟩,.slc 448 0 27,.str ⟨#[108,101,100,103,101,114]⟩,.slc 1522 0 32])
def e3b:eN:=(1522,.gro 5 1 (b3a [0,0,0,24,134,241,233,157,1,1,1,1,0,1,1,97,1,1,1,2,1,4,1,3,1,4,0,0,0,0,0,0]))
def e8k:eN:=(1524,.gro 116 5 [wi 1,.str ⟨#[108,101,100,103,101,114]⟩,.str ⟨#[]⟩,.nils,wi 0,wi 2,.str ⟨#[108,101,100,103,101,114]⟩,.str ⟨#[]⟩,.slc 1519 0 32,wi 0])
def e3c:eN:=(1519,.gro 5 1 (b3a [0,0,0,24,134,241,233,157,1,1,1,1,0,1,1,97,1,1,1,2,1,4,1,3,1,4,0,0,0,0,0,0]))
def e8l:eN:=(1528,.gro 48 15 [wi 1,wi 1,wi 0,.str ⟨#[97]⟩,wi 1,wi 1,wi 3,wi 2,wi 3,wi (-1),wi (-1),wi (-1),wi (-1),wi (-1),wi (-1)])
def e8m:eN:=(1537,.gro 290 12 [.bool false,wi (-1),wi (-1),wi (-1),wi (-1),wi (-1),wi (-1),wi (-1),wi (-1),wi (-1),wi (-1),.slc 1535 0 1])
def e8n:eN:=(1535,.gro 415 11 (a4l [0,-1,-1,-1,-1,-1,-1,-1,-1,-1,-1]))
def e8o:eN:=(6,.row 112 [.ptr 4 0,.ptr 491 0,.slc 2009 0 5])
def e8p:eN:=(1516,.gro 242 2 [.str ⟨#[106,111,117,114,110,97,108]⟩,.slc 2007 0 104,.str ⟨#[108,101,100,103,101,114]⟩,.slc 1522 0 32])
def e8q:eN:=(2007,.gro 5 1 (b3a [0,0,0,19,153,222,1,36,1,1,0,1,14,1,1,1,1,97,1,6,120,40,121,63,41,36,0,0,0,0,69,203,100,16,66,1,1,1,1,1,63,1,1,1,1,1,1,6,169,174,63,234,106,172,1,4,4,221,126,53,225,1,4,1,4,0,0,0,0,0,0,0,0,0,0,1,1,0,0,0,0,0,0,0,0,0,0,0,1,1,0,0,0,0,0,0,0,0,0,0,0,0,0,0]))
def e8r:eN:=(2009,.gro 116 5 [wi 1,.str ⟨#[108,101,100,103,101,114]⟩,.str ⟨#[]⟩,.nils,wi 0,wi 2,.str ⟨#[108,101,100,103,101,114]⟩,.str ⟨#[]⟩,.slc 1519 0 32,wi 0,wi 2,.str ⟨#[106,111,117,114,110,97,108]⟩,.str ⟨#[]⟩,.slc 1994 0 32,wi 0,wi 2,.str ⟨#[106,111,117,114,110,97,108]⟩,.str ⟨#[]⟩,.slc 1994 32 32,wi 0,wi 2,.str ⟨#[106,111,117,114,110,97,108]⟩,.str ⟨#[]⟩,.slc 1994 64 13,wi 0])
def e8s:eN:=(1994,.gro 5 1 (b3a [0,0,0,69,203,100,16,66,1,1,1,1,1,63,1,1,1,1,1,1,6,169,174,63,234,106,172,1,4,4,221,126,53,225,1,4,1,4,0,0,0,0,0,0,0,0,0,0,1,1,0,0,0,0,0,0,0,0,0,0,0,1,1,0,0,0,0,0,0,0,0,0,0,0,0,0,0]))
def e8t:eN:=(11,.row 306 [.slc 2014 0 2])
def e8u:eN:=(2014,.gro 311 2 [wi 0,.str ⟨#[1,1,1,1,97,1,6,120,40,121,63,41,36,0]⟩,wi 1,.str ⟨#[1,1,1,1,1,1,6,169,174,63,234,106,172,1,4,4,221,126,53,225,1,4,1,4,0,0,0,0,0,0,0,0,0,0,1,1,0,0,0,0,0,0,0,0,0,0,0,1,1,0,0,0,0,0,0,0,0,0,0,0,0,0,0]⟩])
def e8v:eN:=(7,.row 67 [.ptr 3 0,.ptr 6 0,.ptr 14 0])
def e8w:eN:=(2,.row 148 [.nils])
noncomputable def e3d:a3e:=⟨46,[.ptr 282 0,.agg [wi 0,wi 0,.bool false,.bool false,wi 0,wi 0,.nils,.nils,wi 0,.nils,.nils,wi 0,.slc 681 0 1,.nils,wi 0,.nils]],685,
 [aw0,
 aw1,
 aw2,
 aw3,
 aw4,
 aw5,
 aw6,
 aw7,
 aw8,
 aw9],
 .tup [.ptr 877 0,wi 0],
 [e7l,
 e7m,
 e7n,
 e7o,
 e7p,
 e7q,
 e7r,
 e7s,
 e7t,
 e7u,
 e7v,
 e7w,
 e7x,
 e7y,
 e7z,
 e8a],
 1231⟩
noncomputable def b7p:a3e:=⟨112,[.ptr 877 0,.slc 1233 0 4],1234,
 [e7l,
 aw0,
 aw1,
 aw2,
 aw3,
 aw4,
 aw5,
 aw6,
 aw7,
 e7m,
 e7n,
 e7o,
 e7p,
 e7q,
 e7r,
 e7s,
 e7t,
 e7u,
 e7v,
 e7w,
 e7x,
 e7y,
 e7z,
 e8a,
 (1233,.gro 5 1 (b3a [97,120,121,10]))],
 .slc 1418 0 1,
 [e8b,
 (877,.row 209 [.ptr 282 0,.slc 876 0 9,.slc 846 0 1,.nils,.nils,.bool false,wi 4,wi 4,.bool false,.bool false,wi 0,wi 0,.nils,.nilp,.ptr 1417 0,.nilp]),
 (1417,.row 298 [.ptr 1406 0,.ptr 1409 0]),
 (1406,.row 378 [wu 0,wu 0,wu 0,wu 0,wi 0]),
 (1409,.row 373 [.slc 1113 0 9,.slc 1083 0 1,wi 0,.slc 1416 0 1,.ptr 1408 0]),
 (1416,.gro 290 12 [.bool false,wi (-1),wi (-1),wi (-1),wi (-1),wi (-1),wi (-1),wi (-1),wi (-1),wi (-1),wi (-1),.slk 1414 0 1 1]),
 (1414,.row 415 (a4l [0,-1,-1,-1,-1,-1,-1,-1,-1,-1,-1])),
 (1408,.row 456 [.slk 1407 0 9 9,.nils]),
 (1407,.row 3 (a4l [0,0,0,0,0,0,0,0,0])),
 (1229,.row 378 [wu 121,wu 0,wu 0,wu 0,wi 0]),
 (1114,.row 373 [.slc 1113 0 9,.slc 1083 0 1,wi 3,.slc 1228 0 1,.ptr 1080 0]),
 (1228,.gro 290 12 [.bool false,wi (-1),wi (-1),wi (-1),wi (-1),wi (-1),wi (-1),wi (-1),wi (-1),wi (-1),wi (-1),.slc 1364 0 2]),
 (1364,.gro 415 11 (a4l [5,1,-1,2,-1,-1,-1,-1,-1,-1,-1,0,-1,-1,-1,-1,-1,-1,-1,-1,-1,-1])),
 (1080,.row 456 [.slk 1079 0 9 9,.slc 1360 0 2]),
 (1079,.row 3 (a4l [1,6,0,1,2,0,4,0,0])),
 (1360,.gro 505 2 [wi 5,.bool true,wi 0,.bool true])],
 1419⟩
noncomputable def d0x:a3e:=⟨111,[.ptr 14 0,.agg [.bool true,wi 1,wi 1,wi 4,.int .u32 3716036065,wi 0,wi 0,.bool false,.bool false,wi 0,wi 0,.nils,.nils,wi 0,.nils,.nils,wi 0,.slc 681 0 1,.nils,wi 0,.nils],.slc 1418 0 1],1419,
 [e2r,
 e2s,
 e8c,
 e8d,
 e8e,
 e8f,
 e8g,
 aw0,
 aw1,
 aw2,
 aw3,
 aw4,
 aw5,
 aw6,
 aw7,
 e2t,
 (6,.row 112 [.ptr 4 0,.ptr 491 0,.nils]),
 e2u,
 e2v,
 d6u,
 e2w,
 e2x,
 (9,.mp [] 0),
 d6v,
 d6w,
 d6x,
 e2y,
 e2z,
 aw8,
 aw9,
 e8b],
 wi 0,
 [e8h,
 e8i,
 e3a,
 e8j,
 e3b,
 e8k,
 e3c,
 e8l,
 (9,.dead),
 (442,.dead)],
 1529⟩
noncomputable def d0y:a3e:=⟨75,[.ptr 282 0,.agg [.bool true,wi 1,wi 1,wi 4,.int .u32 3716036065,wi 4,wi 4,.bool false,.bool false,wi 0,wi 0,.nils,.nils,wi 0,.nils,.nils,wi 0,.slc 1537 0 1,.nils,wi 0,.nils]],1540,
 [aw0,
 aw1,
 aw2,
 aw3,
 aw4,
 aw5,
 aw6,
 aw7,
 e8m,
 e8n],
 .str ⟨#[1,1,1,1,1,1,6,169,174,63,234,106,172,1,4,4,221,126,53,225,1,4,1,4,0,0,0,0,0,0,0,0,0,0,1,1,0,0,0,0,0,0,0,0,0,0,0,1,1,0,0,0,0,0,0,0,0,0,0,0,0,0,0]⟩,
 [],
 1963⟩
noncomputable def d0z:a3e:=⟨76,[.ptr 12 0,.slk 1963 0 1 1],1964,
 [d6v,
 e8i,
 e3a,
 e8j,
 d6u,
 e3b,
 e2w,
 e2x,
 e8k,
 e3c,
 d6w,
 d6x,
 (1963,.row 190 [wi 1,.str ⟨#[1,1,1,1,1,1,6,169,174,63,234,106,172,1,4,4,221,126,53,225,1,4,1,4,0,0,0,0,0,0,0,0,0,0,1,1,0,0,0,0,0,0,0,0,0,0,0,1,1,0,0,0,0,0,0,0,0,0,0,0,0,0,0]⟩])],
 wi 0,
 [e8o,
 e8p,
 e8q,
 (448,.dead),
 e8r,
 e8s,
 e8t,
 e8u,
 (1524,.dead),
 (454,.dead)],
 2016⟩
noncomputable def b7q:a3e:=⟨8,[.ptr 7 0,.agg [wi 7,wi 0,.str ⟨#[]⟩,.str ⟨#[]⟩,.nils,.slk 17 0 1 1,.str ⟨#[]⟩]],22,
 [e8v,
 e2s,
 (1,.row 145 [.nils]),
 e8w,
 (6,.row 112 [.ptr 4 0,.ptr 5 0,.nils]),
 (4,.row 151 [.nils]),
 (5,.row 151 [.nils]),
 (14,.row 98 [.ptr 3 0,.nilp,.ptr 10 0,.ptr 12 0,.ptr 13 0,.ptr 16 0]),
 e2t,
 (9,.mp [] 0),
 d6v,
 (11,.row 306 [.nils]),
 e2y,
 e2z,
 (17,.row 29 [.str ⟨#[97]⟩,.str ⟨#[120,40,121,63,41,36]⟩])],
 .agg [wi 0,wi 0,.nils,.nils],
 [(6,.row 112 [.ptr 4 0,.ptr 24 0,.slc 450 0 2]),
 e2u,
 e2v,
 d6u,
 (24,.row 151 [.nils]),
 (450,.gro 116 5 [wi 1,.str ⟨#[106,111,117,114,110,97,108]⟩,.str ⟨#[]⟩,.nils,wi 0,wi 2,.str ⟨#[106,111,117,114,110,97,108]⟩,.str ⟨#[]⟩,.slc 445 0 27,wi 0]),
 (445,.gro 5 1 (b3a [0,0,0,19,153,222,1,36,1,1,0,1,14,1,1,1,1,97,1,6,120,40,121,63,41,36,0])),
 e2r,
 aw0,
 aw1,
 aw2,
 aw3,
 aw4,
 aw5,
 aw6,
 aw7,
 d6w,
 d6x],
 456⟩
noncomputable def b7r:a3e:=⟨8,[.ptr 7 0,.agg [wi 6,wi 0,.str ⟨#[]⟩,.str ⟨#[]⟩,.nils,.nils,.str ⟨#[]⟩]],489,
 [e8v,
 e2s,
 e8c,
 e8d,
 e8e,
 e8w,
 (6,.row 112 [.ptr 4 0,.ptr 477 0,.nils]),
 e2u,
 e2v,
 d6u,
 (477,.row 151 [.slc 479 0 1]),
 (479,.gro 242 2 [.str ⟨#[106,111,117,114,110,97,108]⟩,.slk 448 0 27 27]),
 e2r,
 aw0,
 aw1,
 aw2,
 aw3,
 aw4,
 aw5,
 aw6,
 aw7,
 e2t,
 (9,.mp [] 0),
 d6v,
 d6w,
 d6x,
 e2y,
 e2z],
 .agg [wi 0,wi 0,.nils,.nils],
 [e8f,
 e8g,
 e8o,
 e3a,
 e8p,
 e8q,
 e3b,
 e2w,
 e2x,
 (448,.dead),
 e8r,
 e3c,
 e8s,
 e8h,
 e8l,
 (9,.dead),
 e8t,
 e8u,
 (13,.row 142 [.slc 2018 0 1]),
 (2018,.gro 139 22 [wi 1,.bool true,wi 1,wi 1,wi 4,.int .u32 3716036065,wi 4,wi 4,.bool false,.bool false,wi 0,wi 0,.nils,.nils,wi 0,.nils,.nils,wi 0,.slc 1537 0 1,.nils,wi 0,.nils]),
 e8m,
 e8n,
 (442,.dead),
 (454,.dead)],
 2019⟩
theorem e3e:lN (EB []) 300 e3d=true:=by kernel_rfl
theorem d1a:lN (EB []) 300 b7p=true:=by kernel_rfl
theorem d6y:lN (EB []) 300 d0x=true:=by kernel_rfl
theorem d6z:lN (EB []) 300 d0y=true:=by kernel_rfl
theorem d7a:lN (EB []) 300 d0z=true:=by kernel_rfl
theorem d1b:lN (EB []) 300 b7q=true:=by kernel_rfl
theorem d1c:lN (oL [] (a3f [e3d,b7p,d0x,d0y,d0z])) 300 b7r=true:=by kernel_rfl
theorem d7b:fG (oL [] (a3f [b7q,b7r])) 400 12 [] [] 1 (.bool true) []=true:=by kernel_rfl
end Go.Eng
namespace Go.Proofs.YthgnlfikneipiaaGreat
open Go.RowKit
theorem d1d:∀ a:List UInt8,Op.bytesLess a a=false
 | []=>rfl
 | x::a=>by simp[Op.bytesLess,d1d a]
theorem a8r (x y:UInt8) (a b:List UInt8):Op.bytesLess (x::a) (y::b)=true↔x.toNat < y.toNat∨(x=y∧Op.bytesLess a b=true):=by
 simp[Op.bytesLess,UInt8.lt_iff_toNat_lt]
theorem b3b:∀ a b c:List UInt8,Op.bytesLess a b=true→Op.bytesLess b c=true→Op.bytesLess a c=true
 | [],[],c,h,_=>by simp[Op.bytesLess] at h
 | [],_::_,[],_,h=>by simp[Op.bytesLess] at h
 | [],_::_,_::_,_,_=>by simp[Op.bytesLess]
 | _::_,[],_,h,_=>by simp[Op.bytesLess] at h
 | _::_,_::_,[],_,h=>by simp[Op.bytesLess] at h
 | x::a,y::b,z::c,h,k=>by
  rw[a8r] at h k ⊢;rcases h with h|⟨rfl,h⟩
  ·rcases k with k|⟨rfl,k⟩
   ·exact .inl (by omega)
   ·exact .inl h
  ·rcases k with k|⟨rfl,k⟩
   ·exact .inl k
   ·exact .inr ⟨rfl,b3b a b c h k⟩
theorem d1e:∀ a b:List UInt8,Op.bytesLess a b=false→Op.bytesLess b a=false→a=b
 | [],[],_,_=>rfl
 | [],_::_,h,_=>by simp[Op.bytesLess] at h
 | _::_,[],_,h=>by simp[Op.bytesLess] at h
 | x::a,y::b,h,k=>by
  have h1:¬ (x.toNat < y.toNat∨(x=y∧Op.bytesLess a b=true)):=fun q=>by rw[(a8r x y a b).2 q] at h;exact absurd h (by simp)
  have d:¬ (y.toNat < x.toNat∨(y=x∧Op.bytesLess b a=true)):=fun q=>by rw[(a8r y x b a).2 q] at k;exact absurd k (by simp)
  have e:x=y:=UInt8.toNat_inj.1 (by omega);subst e;have f:Op.bytesLess a b=false:=by
   cases c:Op.bytesLess a b with
   | false=>rfl
   | true=>exact absurd (.inr ⟨rfl,c⟩) h1
  have g:Op.bytesLess b a=false:=by
   cases c:Op.bytesLess b a with
   | false=>rfl
   | true=>exact absurd (.inr ⟨rfl,c⟩) d
  rw[d1e a b f g]
abbrev bY (a b:ByteArray):Bool:=Op.bytesLess a.toList b.toList
theorem gB:vE bY:=⟨fun a=>d1d _,fun a b c=>b3b _ _ _,fun a b h k=>pV _ _ (d1e _ _ h k)⟩
instance:DecidableEq ByteArray:=fun a b=>decidable_of_iff (a.toList=b.toList) ⟨pV a b,fun h=>by rw[h]⟩
abbrev DF:=List (ByteArray×List UInt8)
def cN (fs:DF):Nat:=(fs.map fun p=>p.2.length).sum
structure Wr where
 kd:Int
 nm:ByteArray
 tn:ByteArray
 p:List UInt8
 n:Int
instance:Inhabited Wr:=⟨⟨0,⟨#[]⟩,⟨#[]⟩,[],0⟩⟩
abbrev uI (fs:DF) (s:ByteArray):Bool:=cB bY fs s
def dI (fs:DF) (s:ByteArray):List UInt8×Bool:=fC bY [] fs s
theorem a8s (fs:DF) (s:ByteArray):(dI fs s).2=uI fs s:=by unfold dI fC uI;cases cB bY fs s<;>rfl
theorem a8t {fs:DF} {s:ByteArray} (h:uI fs s=false):dI fs s=([],false):=by unfold dI fC;rw[show cB bY fs s=_ from h];rfl
def eC (x:Wr) (fs:DF):DF :=
 if x.kd=1 then dD bY fs x.nm [] else
 if x.kd=2 then dD bY fs x.nm ((dI fs x.nm).1++x.p) else
 if x.kd=3 then (if uI fs x.nm then dD bY (fS bY fs x.nm) x.tn (dI fs x.nm).1 else fs) else
 if x.kd=4 then dD bY fs x.nm ((dI fs x.nm).1.take x.n.toNat) else
 if x.kd=5 then fS bY fs x.nm else fs
def b3c (fs:DF) (l:List Wr):DF:=l.foldl (fun f x=>eC x f) fs
structure wR (x:Wr) (fs:DF):Prop where
 len:fs.length≤5000
 kd:1≤x.kd∧x.kd≤5
 put:x.kd=2→x.p≠[]∧(dI fs x.nm).1.length+x.p.length≤16777216
 cut:x.kd=4→0≤x.n∧x.n≤(dI fs x.nm).1.length
 tot:cN (eC x fs)≤16777216
 has:x.kd≠1→uI fs x.nm=true
 new:x.kd=1→uI fs x.nm=false
def a6d:DF→List Wr→Prop
 | _,[]=>True
 | fs,x::l=>wR x fs∧a6d (eC x fs) l
theorem a6d.snoc:∀ {fs:DF} {l:List Wr} {x:Wr},a6d fs l→wR x (b3c fs l)→a6d fs (l++[x])
 | fs,[],x,_,h=>⟨h,trivial⟩
 | fs,y::l,x,h,k=>⟨h.1,a6d.snoc h.2 k⟩
theorem a6e (fs:DF) (l:List Wr) (x:Wr):b3c fs (l++[x])=eC x (b3c fs l):=by unfold b3c;rw[List.foldl_append];rfl
theorem oT {α:Type} [Inhabited α] (l:List α) (k:Nat) (h:k < l.length):l.take (k+1)=l.take k++[bT l k]:=by rw[List.take_add_one,cO _ _ h,aO h];rfl
theorem a4m {fs:DF} (h:bV bY fs) (x:Wr):bV bY (eC x fs):=by
 unfold eC;split
 ·exact h.set_ gB _ _
 split
 ·exact h.set_ gB _ _
 split
 ·split
  ·exact(h.del gB _).set_ gB _ _
  ·exact h
 split
 ·exact h.set_ gB _ _
 split
 ·exact h.del gB _
 ·exact h
theorem jV (a b:DF):cN (a++b)=cN a+cN b:=by unfold cN;rw[List.map_append,List.sum_append]
theorem nL (p:ByteArray×List UInt8) (b:DF):cN (p::b)=p.2.length+cN b:=by unfold cN;rw[List.map_cons,List.sum_cons]
theorem b3d (fs:DF) (i:Nat) (h:i < fs.length):fs.take i++bT fs i::fs.drop (i+1)=fs:=by
 rw[cO _ _ h,List.getElem_cons_drop,List.take_append_drop]
theorem b7s (fs:DF) (i:Nat) (h:i < fs.length):cN (fs.take (i+1))=cN (fs.take i)+(bT fs i).2.length:=by
 rw[oT fs i h,jV,nL];rfl
theorem d1f (fs:DF) (i:Nat):cN (fs.take i)≤cN fs:=by
 have:=jV (fs.take i) (fs.drop i);rw[List.take_append_drop] at this;omega
theorem e0d {fs:DF} {s:ByteArray} (h:uI fs s=true):below bY fs s < fs.length∧(bT fs (below bY fs s)).1=s:=by unfold uI cB at h;exact bI h
theorem wS {fs:DF} {s:ByteArray} (h:uI fs s=true):dI fs s=((bT fs (below bY fs s)).2,true):=by unfold dI fC;rw[show cB bY fs s=_ from h];rfl
theorem a8u {fs:DF} {s:ByteArray} (v:List UInt8) (h:uI fs s=true):cN (dD bY fs s v)+(dI fs s).1.length=cN fs+v.length:=by
 obtain⟨c,d⟩:=e0d h;have a:=b3d fs _ c;have b:cN fs=cN (fs.take (below bY fs s))+((bT fs (below bY fs s)).2.length+cN (fs.drop (below bY fs s+1))):=by
  conv=>lhs;rw[← a]
  rw[jV,nL]
 unfold dD;rw[show cB bY fs s=true from h,if_pos rfl,jV,nL,wS h,b];show cN _+(v.length+_)+(bT fs (below bY fs s)).2.length=_;omega
theorem a8v {fs:DF} {s:ByteArray} (v:List UInt8) (h:uI fs s=false):cN (dD bY fs s v)=cN fs+v.length:=by
 have a:=jV (fs.take (below bY fs s)) (fs.drop (below bY fs s));rw[List.take_append_drop] at a;unfold dD;rw[show cB bY fs s=false from h,if_neg (by simp),jV,nL,Nat.add_zero,a];show _+(v.length+_)=_;omega
theorem c5a {fs:DF} {s:ByteArray} (h:uI fs s=true):cN (fS bY fs s)+(dI fs s).1.length=cN fs:=by
 obtain⟨c,d⟩:=e0d h;have a:=b3d fs _ c;have b:cN fs=cN (fs.take (below bY fs s))+((bT fs (below bY fs s)).2.length+cN (fs.drop (below bY fs s+1))):=by
  conv=>lhs;rw[← a]
  rw[jV,nL]
 unfold fS;rw[show cB bY fs s=true from h,if_pos rfl,jV,wS h,b];show cN _+_+(bT fs (below bY fs s)).2.length=_;omega
theorem qF (fs:DF) (s:ByteArray):(dI fs s).1.length≤cN fs:=by
 cases h:uI fs s with
 | true=>have:=c5a h;omega
 | false=>rw[a8t h];simp
theorem b7t {fs:DF} {s:ByteArray} (v:List UInt8) (h:uI fs s=true):(dD bY fs s v).length=fs.length:=by
 rw[sQ fs s v h,List.length_set]
theorem a6f {fs:DF} (hr:bV bY fs) (s:ByteArray) (v:List UInt8):below bY (dD bY fs s v) s=below bY fs s:=by
 have c:=iR (lt:=bY) fs s;have a:(fs.take (below bY fs s)).length=below bY fs s:=by rw[aJ];omega
 refine nD _ _ _ (by unfold dD;simp;omega) (fun j b=>?_) (fun _=>?_)
 ·unfold dD;rw[jM _ _ _ (by rw[a];exact b),iB _ _ _ b];exact kJ fs s j b
 ·unfold dD;rw[iX _ _ _ (by rw[a];exact aF _),a,Nat.sub_self,cP];exact gB.irr s
theorem a3g (fs:DF) (s:ByteArray) (v:List UInt8):bT (dD bY fs s v) (below bY fs s)=(s,v):=by
 have b:=iR (lt:=bY) fs s;have a:(fs.take (below bY fs s)).length=below bY fs s:=by rw[aJ];omega
 unfold dD;rw[iX _ _ _ (by rw[a];exact aF _),a,Nat.sub_self,cP]
theorem b7u {fs:DF} (hr:bV bY fs) (s:ByteArray) (v:List UInt8):uI (dD bY fs s v) s=true:=by
 have a:=iR (lt:=bY) fs s;unfold uI cB;rw[a6f hr,a3g];exact decide_eq_true ⟨by unfold dD;simp;omega,rfl⟩
theorem c1s {fs:DF} (hr:bV bY fs) (s:ByteArray) (v:List UInt8):dI (dD bY fs s v) s=(v,true):=by
 rw[wS (b7u hr s v),a6f hr,a3g]
structure DS where
 now:DF
 mark:DF
 log:List Wr
def nS (x:Wr) (s:DS):DS:=⟨eC x s.now,s.mark,s.log++[x]⟩
structure zU (s:DS):Prop where
 ris:bV bY s.now
 rim:bV bY s.mark
 eq:s.now=b3c s.mark s.log
 log:a6d s.mark s.log
 tot:cN s.now≤16777216
 totm:cN s.mark≤16777216
theorem zU.do_ {s:DS} (h:zU s) {x:Wr} (hx:wR x s.now):zU (nS x s) :=
 ⟨a4m h.ris x,h.rim,by unfold nS;dsimp only;rw[a6e,← h.eq],h.log.snoc (by rw[← h.eq];exact hx),hx.tot,h.totm⟩
abbrev gQ (nm:ByteArray):Wr:=⟨1,nm,⟨#[]⟩,[],0⟩
abbrev pJ (nm:ByteArray) (p:List UInt8):Wr:=⟨2,nm,⟨#[]⟩,p,0⟩
def cX (p:List UInt8):List (List UInt8):=(List.range ((p.length+31) / 32)).map fun i=>(p.drop (32*i)).take 32
def iO (nm:ByteArray) (s:DS) (l:List (List UInt8)):DS:=l.foldl (fun s c=>nS (pJ nm c) s) s
theorem jO (p:List UInt8):(cX p).length=(p.length+31) / 32:=by unfold cX;simp
theorem b7v (p:List UInt8) (i:Nat) (h:i < (cX p).length):bT (cX p) i=(p.drop (32*i)).take 32:=by
 unfold cX at h ⊢;rw[cO _ _ h];simp
theorem c5b (nm:ByteArray) (s:DS) (l:List (List UInt8)) (c:List UInt8):iO nm s (l++[c])=nS (pJ nm c) (iO nm s l):=by unfold iO;rw[List.foldl_append];rfl
theorem sV (nm:ByteArray) (s:DS) (p:List UInt8) (i:Nat) (h:i < (cX p).length):iO nm s ((cX p).take (i+1))=nS (pJ nm ((p.drop (32*i)).take 32)) (iO nm s ((cX p).take i)):=by
 rw[oT _ _ h,c5b,b7v p i h]
theorem c1t (nm:ByteArray) (c:List UInt8) (s:DS):(nS (pJ nm c) s).now=dD bY s.now nm ((dI s.now nm).1++c):=rfl
structure nM (nm:ByteArray) (s0 s:DS) (n:Nat):Prop where
 ok:zU s
 has:uI s.now nm=true
 len:s.now.length=s0.now.length
 tot:cN s.now=cN s0.now+n
 log:s.log.length≤s0.log.length+n
 mark:s.mark=s0.mark
theorem nM.step {nm:ByteArray} {s0 s:DS} {n:Nat} (h:nM nm s0 s n) (c:List UInt8) (hc:c≠[]) (hl:s0.now.length≤5000) (ht:cN s0.now+(n+c.length)≤16777216):wR (pJ nm c) s.now∧nM nm s0 (nS (pJ nm c) s) (n+c.length):=by
 have b:=a8u ((dI s.now nm).1++c) h.has;have f:=qF s.now nm;rw[aE] at b;have g:=h.tot;have d:0 < c.length:=List.length_pos_iff.2 hc;have a:wR (pJ nm c) s.now:=⟨by rw[h.len];exact hl,⟨by show (1:Int)≤2;decide,by show (2:Int)≤5;decide⟩,fun _=>⟨hc,by show (dI s.now nm).1.length+c.length≤_;omega⟩,fun q=>absurd q (show ¬ (2:Int)=4 by decide),by show cN (dD bY s.now nm ((dI s.now nm).1++c))≤_;omega,fun _=>h.has,fun q=>absurd q (show ¬ (2:Int)=1 by decide)⟩
 refine⟨a,h.ok.do_ a,b7u h.ok.ris _ _,by rw[c1t,b7t _ h.has];exact h.len,by rw[c1t];omega,?_,h.mark⟩;have:=h.log;unfold nS;simp;omega
theorem nM.all {nm:ByteArray} {s0:DS} (p:List UInt8) (h:zU s0) (hin:uI s0.now nm=true) (hl:s0.now.length≤5000) (ht:cN s0.now+p.length≤16777216):∀ i,i≤(cX p).length→nM nm s0 (iO nm s0 ((cX p).take i)) (min (32*i) p.length)
 | 0,_=>⟨h,hin,rfl,by simp[iO],by simp[iO],rfl⟩
 | i+1,hi=>by
  have hlen:=jO p;rw[sV nm s0 p i (by omega)];have b:=nM.all p h hin hl ht i (by omega);have c:32*i < p.length:=by omega
  have a:((p.drop (32*i)).take 32).length=min 32 (p.length-32*i):=by rw[aJ,aH]
  have:=(b.step ((p.drop (32*i)).take 32) (fun q=>by rw[q] at a;simp at a;omega) hl (by rw[a];omega)).2;rw[a] at this;rw[show min (32*(i+1)) p.length=min (32*i) p.length+min 32 (p.length-32*i) by omega];exact this
def dJ (s:DS) (nm:ByteArray) (p:List UInt8):Int×DS :=
 if dL nm then (if 16777216 < cN s.now+p.length then (9,s) else (0,iO nm (if uI s.now nm then s else nS (gQ nm) s) (cX p))) else (14,s)
def b3e (s:DS):DS:=⟨s.now,s.now,[]⟩
theorem zU.make {s:DS} (h:zU s) (nm:ByteArray) (hn:uI s.now nm=false) (hl:s.now.length≤5000):wR (gQ nm) s.now∧zU (nS (gQ nm) s)∧uI (nS (gQ nm) s).now nm=true∧cN (nS (gQ nm) s).now=cN s.now∧(nS (gQ nm) s).now.length≤s.now.length+1:=by
 have a:=a8v (s:=nm) [] hn;have b:wR (gQ nm) s.now:=⟨hl,⟨by show (1:Int)≤1;decide,by show (1:Int)≤5;decide⟩,fun q=>absurd q (show ¬ (1:Int)=2 by decide),fun q=>absurd q (show ¬ (1:Int)=4 by decide),by show cN (dD bY s.now nm [])≤_;have:=h.tot;simp at a;omega,fun q=>absurd (show (1:Int)=1 from rfl) q,fun _=>hn⟩
 have he:(nS (gQ nm) s).now=dD bY s.now nm []:=rfl;refine⟨b,h.do_ b,?_,?_,?_⟩
 ·rw[he];exact b7u h.ris _ _
 ·rw[he,a];rfl
 ·rw[he];exact a2q _ _ _
theorem zU.mark {s:DS} (h:zU s):zU (b3e s):=⟨h.ris,h.ris,rfl,trivial,h.tot,h.tot⟩
theorem zU.zero:zU ⟨[],[],[]⟩:=⟨bV.nil,bV.nil,rfl,trivial,by simp[cN],by simp[cN]⟩
theorem zU.append {s:DS} (h:zU s) (nm:ByteArray) (p:List UInt8) (hl:s.now.length≤4999):zU (dJ s nm p).2:=by
 unfold dJ;split
 ·split
  ·exact h
  ·rename_i d;dsimp only;cases a:uI s.now nm with
   | true =>
    rw[if_pos rfl];have:=(nM.all p h a (by omega) (by omega) (cX p).length (aF _)).ok;rwa[aV] at this
   | false =>
    rw[if_neg (by simp)];obtain⟨f,b,c,g,i⟩:=h.make nm a (by omega);have:=(nM.all p b c (by omega) (by omega) (cX p).length (aF _)).ok;rwa[aV] at this
 ·exact h
structure b3f (s s':DS) (n:Nat):Prop where
 now:s'.now.length≤s.now.length+1
 log:s'.log.length≤s.log.length+n+1
 mark:s'.mark=s.mark
theorem b3f.refl (s:DS) (n:Nat):b3f s s n:=⟨by omega,by omega,rfl⟩
theorem a8w {s:DS} (h:zU s) (nm:ByteArray) (p:List UInt8) (hl:s.now.length≤4999):b3f s (dJ s nm p).2 p.length:=by
 unfold dJ;split
 ·split
  ·exact b3f.refl _ _
  ·rename_i i;dsimp only;cases b:uI s.now nm with
   | true =>
    rw[if_pos rfl];have a:=nM.all p h b (by omega) (by omega) (cX p).length (aF _);rw[aV] at a;exact⟨by rw[a.len];omega,by have:=a.log;omega,a.mark⟩
   | false =>
    rw[if_neg (by simp)];obtain⟨j,d,f,l,g⟩:=h.make nm b (by omega);have a:=nM.all p d f (by omega) (by omega) (cX p).length (aF _);rw[aV] at a;have c:(nS (gQ nm) s).log.length=s.log.length+1:=by unfold nS;simp
    exact⟨by rw[a.len];exact g,by have:=a.log;omega,a.mark⟩
 ·exact b3f.refl _ _
abbrev ltI:Int→Int→Bool:=fun a b=>decide (a < b)
abbrev JS:=List (Int×ByteArray)
abbrev s0:ByteArray:=⟨#[]⟩
abbrev kP:ByteArray:=⟨#[106,111,117,114,110,97,108]⟩
abbrev xL:ByteArray:=⟨#[106,111,117,114,110,97,108,46,110,101,119]⟩
theorem d1g:dL kP=true:=by unfold dL;decide
theorem e3f:dL xL=true:=by unfold dL;decide
theorem d1h:kP≠xL:=fun h=>absurd (congrArg ByteArray.size h) (by decide)
def qG (t:JS) (c:Ch):JS:=if c.2=s0 then fS ltI t c.1 else dD ltI t c.1 c.2
def yP (t:JS) (l:List Ch):JS:=l.foldl qG t
theorem d1i (t:JS) (l m:List Ch):yP t (l++m)=yP (yP t l) m:=by unfold yP;rw[List.foldl_append]
def d1j:JS→Int×DS→Int×DS
 | [],q=>q
 | r::t,q=>if q.1=0 then d1j t (dJ q.2 xL (mV [] (dX [r]))) else q
structure JT (t:JS):Prop where
 ris:bV ltI t
 ks:∀ p∈t,c9u p
theorem JT.nil:JT []:=⟨bV.nil,by simp⟩
theorem JT.hold1 {t:JS} (h:JT t) (c:Ch) (hc:c9u c):JT (qG t c):=by
 unfold qG;split
 ·exact⟨h.ris.del jH _,fun p a=>h.ks p (iG _ _ _ a)⟩
 ·refine⟨h.ris.set_ jH _ _,fun p a=>?_⟩;rcases nE _ _ _ _ a with rfl|q
  ·exact hc
  ·exact h.ks p q
theorem d7c:∀ (t:JS),bV ltI t→(∀ p∈t,0≤p.1)→∀ i,i < t.length→(i:Int)≤(bT t i).1:=by
 intro t c d i
 induction i with
 | zero=>intro a;exact d _ (eM 0 a)
 | succ i ih =>
  intro a;have f:=ih (by omega);have b:decide ((bT t i).1 < (bT t (i+1)).1)=true:=c i (i+1) (by omega) a;have g:=bI b;omega
theorem JT.len {t:JS} (h:JT t):t.length≤41:=by
 rcases Nat.lt_or_ge 41 t.length with q|q
 ·have b:=d7c t h.ris (fun p a=>(h.ks p a).lo) 41 q;have c:=(h.ks _ (eM 41 q)).hi;omega
 ·exact q
theorem c5c (l:List Ch):1≤(dX l).length:=by
 have:=a5r l.length;unfold dX;rw[aE];omega
structure b3g (l:List Ch):Prop where
 ok:∀ c∈l,c9u c
 lo:1≤l.length
 hi:l.length≤41
 sz:(dX l).length≤262144
theorem b3g.fit {l:List Ch} (h:b3g l):Fit (dX l):=⟨c5c l,h.sz⟩
def e3g (t:JS) (k:Int):ByteArray:=(fC ltI s0 t k).1
def a6g (t:JS):List UInt8:=t.flatMap fun p=>dO (dX [p])
abbrev kT (p:Int×ByteArray):List Value:=[iv p.1,sv p.2]
theorem iH:∀ p,(kT p).length=2:=fun _=>rfl
theorem sW:(Tryz.prog.info? 311).map (fun i=>(i.zero,i.size,i.bytes))=some (some (.agg #[.int .i64 0,.string ⟨#[]⟩]),2,24):=by kernel_rfl
abbrev eT:Int→Int→Bool:=fun a b=>decide (a < b)
structure kU (base:Nat) (w:World) (g:Nat) (lv:Value) (l:List (Int×ByteArray)):Prop where
 tab:cU w g 306 [lv]
 rows:cF 2 kT base 311 w lv l
 gb:base≤g
section
variable {base : Nat} {g : Nat} {lv : Value} {l : List (Int × ByteArray)} {w w' : World}
theorem kU.upd (h:kU base w g lv l) {S:List Nat} (hu:bR S w w') (hs:∀ x∈g::blk lv,x∉S):kU base w' g lv l :=
 ⟨h.tab.upd hu (hs g (by simp)),h.rows.upd hu (fun x a=>hs x (by simp[a])),h.gb⟩
theorem kU.upd0 (h:kU base w g lv l) (hu:bR [] w w'):kU base w' g lv l:=h.upd hu (by simp)
theorem kU.g_lv (h:kU base w g lv l):g∉blk lv:=fun e=>by
 obtain⟨C,f,a⟩:=h.rows.typ g e;exact h.tab.ne g a (by decide) rfl
theorem kU.lt (h:kU base w g lv l):∀ x∈g::blk lv,base≤x∧x < w.heap.size:=by
 intro x a;rcases aG.1 a with rfl|a
 ·exact⟨h.gb,h.tab.lt⟩
 ·exact h.rows.ge x a
theorem b7w (w:World) :
  Calls Tryz.prog 93 #[] w fun e w'=>e = .returned (.pointer (some ⟨w.heap.size,0,none⟩))∧kU w.heap.size w' w.heap.size (.slice none 0 0) []∧bR [] w w':=by
 go_enter Tryz.func93,Tryz.ntmps93;go_wp2
 go_ret;exact⟨rfl,⟨cU.new w _ [.slice none 0 0],cF.nil _ _ _,aF _⟩,(bR.refl [] w).alloc _⟩
theorem jW (w:World) (k:Int) (hs:kU base w g lv l) (hr:bV eT l) (hlen:l.length≤100000) (hk:gR k) :
  Calls Tryz.prog 154 #[.pointer (some ⟨g,0,none⟩),iv k] w fun e w'=>e = .returned (.tuple #[.int .i64 (below eT l k:Int),.bool (cB eT l k)])∧bR [] w w':=by
 have W:=bG hs;have L:=bG hr;obtain⟨Q,R,rfl,S,F,o⟩:=hs.rows.rd iH;have c0:w.cell? ⟨g,0,none⟩=some (.slice Q l.length R):=hs.tab.cell 0;have M:=bG o;clear hs hr o F;go_enter Tryz.func154,Tryz.ntmps154;go_wp2_with fail
 go_quiet (fail)
 have r:=bG ((bR.refl [] w).drewN nq);generalize w.drewN nq=v at *
 replace c0:=r.out.cell c0 (by simp)
 go_wp2_with fail
 go_loop [6,7] (fun I J=>∃ a b:Nat,I = .int .i64 a∧J = .int .i64 b∧a≤b∧b≤l.length∧Hid (∀ j,j < a→eT (bT l j).1 k=true)∧Hid (∀ j,b≤j→j < l.length→eT (bT l j).1 k=false)) (fun I J=>(intOf J).toNat-(intOf I).toNat)
 case atStart=>exact⟨0,l.length,rfl,rfl,aS _,aF _,fun j h=>absurd h (by omega),fun j K N=>absurd K (by omega)⟩
 case round =>
  obtain⟨a,b,rfl,rfl,T,y,z,A⟩:=hrel;by_cases U:a < b
  ·have d:(a+b) / 2 < l.length:=by omega
   obtain⟨G,t,rfl,B⟩:=M.out (by intro h;simp[h] at d);have O:v.cell? ⟨G,t+(a+b) / 2*2,none⟩=some (iv (bT l ((a+b) / 2)).1):=r.out.cell (B _ d 0 (by omega)) (by simp);clear B;cases c:eT (bT l ((a+b) / 2)).1 k with
   | true =>
    have C:Hid (∀ j,j < (a+b) / 2+1→eT (bT l j).1 k=true):=fun j Z=>L.out.mono jH k j ((a+b) / 2) (by omega) d c
    generalize (bT l ((a+b) / 2)).1=m at *
    have D:m < k:=by simpa using c
    clear c;go_wp2
    go_round
    case rel=>exact⟨(a+b) / 2+1,b,by go_num,rfl,by omega,y,C,A⟩
    case measure=>simp[intOf];omega
   | false =>
    have E:Hid (∀ j,(a+b) / 2≤j→j < l.length→eT (bT l j).1 k=false):=fun j K N=>by
     cases V:eT (bT l j).1 k with
     | false=>rfl
     | true=>exact absurd ((L.out.mono jH k _ j K N V).symm.trans c) (by simp)
    generalize (bT l ((a+b) / 2)).1=m at *
    have D:¬ m < k:=by simpa using c
    clear c;go_wp2
    go_round
    case rel=>exact⟨a,(a+b) / 2,rfl,by go_num,by omega,by omega,z,E⟩
    case measure=>simp[intOf];omega
  ·obtain rfl:a=b:=by omega
   have f:below eT l k=a:=nD l k a y z.out (fun h=>A.out a (aF _) h);have u:Hid (cB eT l k=decide (a < l.length∧(bT l a).1=k)):=by unfold Hid cB;rw[f]
   have i:=bG f;clear f;by_cases p:a < l.length
   ·obtain⟨G,t,rfl,B⟩:=M.out (by intro h;simp[h] at p);have O:v.cell? ⟨G,t+a*2,none⟩=some (iv (bT l a).1):=r.out.cell (B _ p 0 (by omega)) (by simp);have s:Hid (cB eT l k=decide ((bT l a).1=k)):=by unfold Hid;rw[u.out];simp[p]
    clear B;generalize (bT l a).1=m at *
    have X:(0:Int)≤a:=by omega
    have Y:(a:Int) < l.length:=by omega
    by_cases he:m=k
    ·have P:(m==k)=true:=by simpa using he
     have x:Hid (cB eT l k=true):=by unfold Hid;rw[s.out];simp[he]
     clear he;go_wp2_with fail
     go_quiet (fail)
     go_wp2_with fail
     go_ret2
     exact⟨by rw[i.out,x.out];rfl,by first|exact r.out.drewN _|exact r.out.drew⟩
    ·have P:(m==k)=false:=by simpa using he
     have x:Hid (cB eT l k=false):=by unfold Hid;rw[s.out];simp[he]
     clear he;go_wp2_with fail
     go_quiet (fail)
     go_wp2_with fail
     go_ret2
     exact⟨by rw[i.out,x.out];rfl,by first|exact r.out.drewN _|exact r.out.drew⟩
   ·have x:Hid (cB eT l k=false):=by unfold Hid;rw[u.out];simp[p]
    have hd:decide (a < l.length)=false:=by simpa using p
    go_wp2_with fail
    go_quiet (fail)
    go_wp2_with fail
    go_ret2
    exact⟨by rw[i.out,x.out];rfl,by first|exact r.out.drewN _|exact r.out.drew⟩
end
theorem wT:∀ p,∀ u∈kT p,u.oneCell'=true:=by intro p u a;simp[kT] at a;rcases a with rfl|rfl<;>rfl
theorem a6h:Tryz.prog.underlying 304=some (.slice 311):=by kernel_rfl
section
variable {base : Nat} {g : Nat} {lv : Value} {l : List (Int × ByteArray)} {w w' : World}
theorem d7d (w:World) (v:Value) (i:Nat) (hs:cF 2 kT base 311 w v l) (hi:i < l.length) (hlen:l.length≤100000) :
  Calls Tryz.prog 209 #[v,.int .i64 (i:Int),.int .i64 ((i:Int)+1)] w fun e w'=>∃ v',e = .returned v'∧cF 2 kT base 311 w' v' (l.take i++l.drop (i+1))∧bR (blk v) w w'∧blk v'=blk v:=by
 rcases hs.2 with⟨-,L⟩|⟨g,cap,Q,rfl,-⟩
 ·omega
 obtain⟨-,V,W,X,b,I,t,F⟩:=hs.open_ iH;obtain⟨m,G⟩:∃ m,l.length=i+1+m:=⟨l.length-(i+1),by omega⟩
 have f:((l.drop (i+1)).flatMap kT).length=m*2:=by rw[dH iH,aH,G];congr 1;omega
 have z:((l.take i).flatMap kT).length=i*2:=by rw[dH iH,aJ];congr 1;omega
 have o:((l.take (i+1)).flatMap kT).length=(i+1)*2:=by rw[dH iH,aJ];congr 1;omega
 have B:eP b 0 ((l.take i).flatMap kT):=by rw[gO kT l i] at F;exact F.left
 have C:eP b ((i+1)*2) ((l.drop (i+1)).flatMap kT):=by rw[gO kT l (i+1)] at F;have:=F.right;rwa[o,aM] at this
 generalize y:(l.drop (i+1)).flatMap kT=cs at *
 have D:(i+1+m)*2≤b.size:=by rw[t];exact bO 2 (by omega)
 have a:i*2+cs.length≤b.size:=by rw[f];omega
 obtain⟨A,hA,p⟩:∃ A:Addr,(if cap=i+1 then some (⟨g,0,none⟩:Addr) else some ⟨g,(i+1)*2,none⟩)=some A∧∀ j u,cs[j]?=some u→w.cell? (A.add j)=some u:=by
  by_cases h:cap=i+1
  ·refine⟨⟨g,0,none⟩,by simp[h],fun j u x=>?_⟩;have L:cs.length=0:=by rw[f];omega
   rw[List.length_eq_zero_iff.1 L] at x;simp at x
  ·refine⟨⟨g,(i+1)*2,none⟩,by simp[h],fun j u x=>?_⟩;rw[dB];exact C.cell I j u x
 have E:∀ u∈cs,u.oneCell'=true:=by rw[← y];exact kI wT _
 have R:=bG (fun ty c=>rM (P:=Tryz.prog) (ty:=ty) (n:=i) (m:=m) (cap:=cap) (c:=c) (sz:=2) a6h (by kernel_rfl) w.drew I f p E (by omega) a);have J:=oO b (i*2) cs a;have M:=B.stay (i*2) cs a (.inl (by omega));have N:=eP.lay b (i*2) cs a;generalize iE b (i*2) cs=cur1 at *
 have r:(w.drew.setRow g cur1).heap[g]?=some (.cells cur1 311 (0,0)):=setRow_heap w.drew g b cur1 _ _ I;have d:(i+m)*2+1*2≤cur1.size:=by rw[J];omega
 have S:i+1+m-(i+m)=1:=by omega
 have O:=(fun ty c=>oP (P:=Tryz.prog) (ty:=ty) (c:=c) (n:=1) a6h sW rfl (by intro u x;simp[Value.cells] at x;rcases x with rfl|rfl<;>rfl) (w.drew.setRow g cur1) (by omega) r d)
 have T:Hid (∀ ty c,(Builtin.clear_ #[304] ty #[.slice (some ⟨g,(i+m)*2,none⟩) (i+1+m-(i+m)) c]).run Tryz.prog (w.drew.setRow g cur1) = .ok (.tuple #[]) ((w.drew.setRow g cur1).setRow g (iE cur1 ((i+m)*2) (Builtin.zeroCells (Value.agg #[.int .i64 0,.string ⟨#[]⟩]).cells 1).toList))):=fun ty c=>by rw[S];exact O ty c
 clear O;have HK:=bG (show cF 2 kT base 311 ((w.drew.setRow g cur1).setRow g (iE cur1 ((i+m)*2) (Builtin.zeroCells (Value.agg #[.int .i64 0,.string ⟨#[]⟩]).cells 1).toList)) (.slice (some ⟨g,0,none⟩) (i+m) cap) (l.take i++l.drop (i+1)) from by
  have K:(Builtin.zeroCells (Value.agg #[.int .i64 0,.string ⟨#[]⟩]).cells 1).toList.length=2:=by rw[bD,size_zeroCells];rfl
  have s:(i+m)*2+(Builtin.zeroCells (Value.agg #[.int .i64 0,.string ⟨#[]⟩]).cells 1).toList.length≤cur1.size:=by rw[K];omega
  refine cF.of_piece iH _ (by simp;omega) V (by simp;omega) X (setRow_heap _ g cur1 _ _ _ r) (by rw[oO _ _ _ s,J,t]) ?_;rw[bL,y];refine(M.stay _ _ s (.inl (by omega))).app ?_;rw[z,aM (i*2)];exact N.stay _ _ s (.inl (by omega)))
 clear hs F B C t I f z o p E a J M N r d y D;rw[G] at hlen W ⊢;have U:IntKind.i64.wrap ((i:Int)+1)=(i:Int)+1:=by rw[aQ];omega
 have Y:(0:Int)≤(i:Int)+1:=by omega
 have Z:(i:Int)+1≤(i:Int)+1+(m:Int):=by omega
 have q3:((i:Int)+1).toNat=i+1:=by omega
 have q4:i+1+m-(i+1)=m:=by omega
 have q5:i≤cap:=by omega
 have q6:¬ (cap=i+m):=by omega
 have q8:i+m≤i+1+m:=by omega
 have q9:(i:Int)+(m:Int)≤(i:Int)+1+(m:Int):=by omega
 go_enter Tryz.func209,Tryz.ntmps209;go_wp2_with fail
 go_region_law (refine rN rfl (.tmp 22) (.tmp 25) 304 rfl (.slice (some ⟨g,0,none⟩) i cap) (.slice (some A) m (cap-(i+1))) (by simp[Act.eval,Act.put]) (by simp[Act.eval,Act.put]) (R.out _ _) ?_)
 go_wp2_with (with_reducible refine mB rfl (.tmp 31) 304 rfl (.slice (some ⟨g,(i+m)*2,none⟩) (i+1+m-(i+m)) (cap-(i+m))) rfl (T.out _ _) ?_)
 go_ret;exact⟨_,rfl,HK.out,((bR.refl [g] w).drew.setRow g _ (.inl (by simp))).setRow g _ (.inl (by simp)),rfl⟩
theorem c5d (w:World) (k:Int) (hs:kU base w g lv l) (hr:bV eT l) (hlen:l.length≤100000) (hk:gR k) (hn:cB eT l k=false) :
  Calls Tryz.prog 152 #[.pointer (some ⟨g,0,none⟩),iv k] w fun e w'=>e = .returned (.bool false)∧bR [] w w':=by
 have a:=jW w k hs hr hlen hk;rw[hn] at a;have c:=bG a;clear hs hr hlen hk a hn;go_enter Tryz.func152,Tryz.ntmps152;go_wp2_with fail
 with_reducible refine c.out.mono ?_
 rintro e d ⟨rfl,b⟩;go_wp2_with fail
 go_ret;exact⟨rfl,b⟩
theorem b7x (w:World) (k:Int) (hs:kU base w g lv l) (hr:bV eT l) (hlen:l.length≤100000) (hk:gR k) (hn:cB eT l k=true) :
  Calls Tryz.prog 152 #[.pointer (some ⟨g,0,none⟩),iv k] w fun e w'=>e = .returned (.bool true)∧∃ lv',kU base w' g lv' (l.take (below eT l k)++l.drop (below eT l k+1))∧bR (g::blk lv) w w'∧blk lv'=blk lv:=by
 have u:=jW w k hs hr hlen hk;rw[hn] at u;have C:=bG u;have p:=bG hs;unfold cB at hn;have v:=(bI hn).1;have D:=bG (fun r (h:bR [] w r)=>d7d r lv (below eT l k) (hs.rows.upd h (by simp)) v hlen);have E:=bG (show w.cell? ⟨g,0,none⟩=some lv from hs.tab.cell 0);obtain⟨z,n,A,rfl⟩:=hs.rows.slice_;clear hs hr hk u hn;generalize below eT l k=i at *
 have F:IntKind.i64.wrap ((i:Int)+1)=(i:Int)+1:=by rw[aQ];omega
 go_enter Tryz.func152,Tryz.ntmps152;go_wp2_with fail
 with_reducible refine C.out.mono ?_
 rintro e r ⟨rfl,j⟩;have G:=j.cell E.out (by simp);have c:=bG j;go_wp2_with fail
 with_reducible refine(D.out r c.out).mono ?_
 rintro e s ⟨K,rfl,m,b,o⟩;have a:=p.out.g_lv;have J:s.frozen? ⟨g,0,none⟩=false:=((p.out.tab.upd c.out (by simp)).upd b a).frozen 0;have d2:s.cell? ⟨g,0,none⟩=some (.slice z n A):=b.cell G a;obtain⟨d,t,f,rfl⟩:=m.slice_
 have I:=bG (show kU base (s.setCell ⟨g,0,none⟩ (.slice d t f)) g (.slice d t f) (l.take i++l.drop (i+1)) from
  ⟨by simpa using((p.out.tab.upd c.out (by simp)).upd b a).set_ 0 (.slice d t f),m.upd ((bR.refl [g] _).setCell _ _ (.inl (by simp))) (by rw[o];intro x B;simp;rintro rfl;exact a B),p.out.gb⟩)
 have y:=bG (show bR (g::blk (.slice z n A)) w (s.setCell ⟨g,0,none⟩ (.slice d t f)) from(c.out.trans (T:=g::blk (.slice z n A)) b (by simp) (fun x B => .inl (by simp[B]))).setCell _ _ (.inl (by simp)));clear m j b a;go_wp2_with fail
 go_ret;exact⟨rfl,_,I.out,y.out,o⟩
end
section
variable {base : Nat} {g : Nat} {lv : Value} {l : List (Int × ByteArray)} {w w' : World}
theorem b7y (w:World) (k:Int) (hs:kU base w g lv l) (hr:bV eT l) (hlen:l.length≤100000) (hk:gR k) :
  Calls Tryz.prog 152 #[.pointer (some ⟨g,0,none⟩),iv k] w fun e w'=>e = .returned (.bool (cB eT l k))∧∃ lv',kU base w' g lv' (fS eT l k)∧bR (g::blk lv) w w'∧(∀ x∈blk lv',x∈blk lv∨w.heap.size≤x):=by
 cases b:cB eT l k with
 | false =>
  refine(c5d w k hs hr hlen hk b).mono ?_;rintro e w' ⟨rfl,a⟩;exact⟨rfl,lv,by unfold fS;rw[b];exact hs.upd0 a,a.mono (by simp),fun x c => .inl c⟩
 | true =>
  refine(b7x w k hs hr hlen hk b).mono ?_;rintro e w' ⟨rfl,d,f,a,h⟩;exact⟨rfl,d,by unfold fS;rw[b];exact f,a,fun x c => .inl (by rw[← h];exact c)⟩
end
section
variable {base : Nat} {g : Nat} {lv : Value} {l : List (Int × ByteArray)} {w w' : World}
theorem c5e (w:World) (k:Int) (hs:kU base w g lv l) (hr:bV eT l) (hlen:l.length≤100000) (hk:gR k) (hn:cB eT l k=false) :
  Calls Tryz.prog 96 #[.pointer (some ⟨g,0,none⟩),iv k] w fun e w'=>e = .returned (.tuple #[.string ⟨#[]⟩,.bool false])∧bR [] w w':=by
 have a:=jW w k hs hr hlen hk;rw[hn] at a;have c:=bG a;clear hs hr hlen hk a hn;go_enter Tryz.func96,Tryz.ntmps96;go_wp2_with fail
 refine c.out.mono ?_;rintro e d ⟨rfl,b⟩;go_wp2_with fail
 go_ret2
 exact⟨rfl,b⟩
theorem c5f (w:World) (k:Int) (hs:kU base w g lv l) (hr:bV eT l) (hlen:l.length≤100000) (hk:gR k) (hn:cB eT l k=true) :
  Calls Tryz.prog 96 #[.pointer (some ⟨g,0,none⟩),iv k] w fun e w'=>e = .returned (.tuple #[sv (bT l (below eT l k)).2,.bool true])∧bR [] w w':=by
 have m:=jW w k hs hr hlen hk;rw[hn] at m;have p:=bG m;unfold cB at hn;have d:=(bI hn).1;obtain⟨B,t,rfl,u,o,a⟩:=hs.rows.rd iH;obtain⟨b,f,rfl,j⟩:=a (by intro h;simp[h] at d);have r:=bG (show w.cell? ⟨g,0,none⟩=some (.slice (some ⟨b,f,none⟩) l.length t) from hs.tab.cell 0);have s:=bG (show w.cell? ⟨b,f+below eT l k*2+1,none⟩=some (sv (bT l (below eT l k)).2) from j _ d 1 (by omega));clear hs hr hk m hn a j o;generalize (bT l (below eT l k)).2=x at *
 generalize below eT l k=i at *
 have v:(0:Int)≤i:=by omega
 have y:(i:Int) < l.length:=by omega
 go_enter Tryz.func96,Tryz.ntmps96;go_wp2_with fail
 refine p.out.mono ?_;rintro e C ⟨rfl,c⟩;have z:=c.cell r.out (by simp);have A:=c.cell s.out (by simp);go_wp2_with fail
 go_ret2
 exact⟨rfl,c⟩
end
section
variable {base : Nat} {g : Nat} {lv : Value} {l : List (Int × ByteArray)} {w w' : World}
theorem b7z (w:World) (k:Int) (v:ByteArray) (hs:kU base w g lv l) (hr:bV eT l) (hlen:l.length≤100000) (hk:gR k) (hn:cB eT l k=true) :
  Calls Tryz.prog 153 #[.pointer (some ⟨g,0,none⟩),iv k,sv v] w fun e w'=>e = .returned (.bool false)∧kU base w' g lv (l.set (below eT l k) ((bT l (below eT l k)).1,v))∧bR (blk lv) w w':=by
 have o:=jW w k hs hr hlen hk;rw[hn] at o;have B:=bG o;have y:=bG hs;unfold cB at hn;have c:=(bI hn).1;have p:=hs.g_lv;rcases hs.rows.2 with⟨-,V⟩|⟨b,N,x,rfl,W,A,-⟩
 ·omega
 have C:=bG (show w.cell? ⟨g,0,none⟩=some (.slice (some ⟨b,0,none⟩) l.length N) from hs.tab.cell 0);have D:=bG c;have E:=bG (show ∃ u,w.cell? ⟨b,below eT l k*2+1,none⟩=some u from by
  obtain⟨G,I,J,-,-,f⟩:=hs.rows.rd iH;injection J with m X Y;obtain⟨U,K,L,t⟩:=f (by intro h;simp[h] at c);rw[L] at m;injection m with m;injection m with m O;subst m;subst O;exact⟨_,by simpa using t _ c 1 (by omega)⟩)
 have F:=bG A;clear hs hr hk o hn p A;generalize below eT l k=i at *
 have P:(0:Int)≤i:=by omega
 have Q:(i:Int) < l.length:=by omega
 go_enter Tryz.func153,Tryz.ntmps153;go_wp2_with fail
 with_reducible refine B.out.mono ?_
 rintro e j ⟨rfl,a⟩;have R:=a.cell C.out (by simp);obtain⟨u,M⟩:=E.out;have S:=a.cell M (by simp);have T:j.frozen? ⟨b,i*2+1,none⟩=false:=frozen_of_row j b _ x _ (a.heap F.out (by simp));go_wp2_with fail
 go_ret;have r:bR [b] j (j.setCell ⟨b,i*2+1,none⟩ (sv v)):=(bR.refl [b] j).setCell _ _ (.inl (by simp));have d:=y.out.upd0 a;have z:=D.out;have s:g≠b:=fun e=>y.out.g_lv (by rw[e];simp[blk])
 refine⟨rfl,⟨d.tab.upd r (by simpa using s),?_,d.gb⟩,?_⟩
 ·refine cF.set_ iH d.rows i 1 z (by omega) (sv v) _ ?_;rw[cO l i z];rfl
 ·exact(show bR [b] w j from a.mono (by simp)).setCell _ _ (.inl (by simp))
end
section
variable {base : Nat} {g : Nat} {lv : Value} {l : List (Int × ByteArray)} {w w' : World}
theorem b3h (w:World) (v:Value) (vb:Nat) (x:Int×ByteArray) (hs:cF 2 kT base 311 w v l) (hlen:l.length≤100000) (hbs:base≤w.heap.size) (hv:cU w vb 311 (kT x)) :
  Calls Tryz.prog 210 #[v,.int .i64 (l.length:Int),.slice (some ⟨vb,0,none⟩) 1 1] w fun e w'=>∃ v',e = .returned v'∧cF 2 kT base 311 w' v' (l++[x])∧bR (blk v) w w'∧(∀ y∈blk v',y∈blk v∨w.heap.size≤y):=by
 have b:qW 2 kT w (.slice (some ⟨vb,0,none⟩) 1 1) [x]:=⟨_,1,rfl,by simp,by simp[maxLen],fun _=>⟨vb,0,rfl,fun j o i G=>by
  simp at o;subst o;rw[hv.cell];simp[cP]⟩⟩
 have p:=bG (fun ty=>fR (P:=Tryz.prog) (ty:=ty) iH (by decide) wT a6h sW rfl v _ l [x] hs b (by simp;omega) (by simp[maxLen];omega) hbs);obtain⟨s,n,c,rfl⟩:=hs.slice_;have r:n=l.length∧l.length≤c:=by
  rcases hs.2 with⟨he,u⟩|⟨_,_,_,he,_,_,z,_⟩
  ·injection he with A h m;subst h;subst m;exact⟨u.symm,by omega⟩
  ·injection he with A h m;subst h;subst m;exact⟨rfl,z⟩
 obtain⟨rfl,t⟩:=r;clear hs b hv;have hd:c=l.length∨¬ c=l.length:=by omega
 rcases hd with hd|hd
 all_goals
  go_enter Tryz.func210,Tryz.ntmps210;go_wp2_with (at_builtin;refine cQ rfl _ _ rfl (.slice s l.length c) (.slice (some ⟨vb,0,none⟩) 1 1) rfl rfl (p.out _) ?_;rintro B C ⟨a,f,g⟩;have d:=bG a;obtain⟨D,E,F,rfl⟩:=a.slice_;clear a)
  go_ret;exact⟨_,rfl,d.out,f,g⟩
theorem e8x (w:World) (vb gb vo go_ la ca lb cb kA kB:Nat) (tA tB:TypeId) (hne:vb≠gb) (hsa:w.shape? vb=some (tA,kA)) (hsb:w.shape? gb=some (tB,kB)) (hkB:kB≠0) (hfa:w.frozen? ⟨vb,vo,none⟩=false) (hfe:w.frozen? ⟨vb,kA,none⟩=false) :
  (callFunc 251 #[.slice (some ⟨vb,vo,none⟩) la ca,.slice (some ⟨gb,go_,none⟩) lb cb]).run Tryz.prog w = .ok (.value (.bool false)) w:=by
 have a:∀ w,(sizeOf 311).run Tryz.prog w = .ok 2 w:=by
  intro w;obtain⟨i,b,d,c,f⟩:=info_parts sW;simp[sizeOf,typeInfo,b,c]
 rw[run_callFunc_extern Tryz.func251 (by kernel_rfl) (by kernel_rfl) (by kernel_rfl) (e:=Extern.SlicesOverlaps.overlaps #[304,304] #[4]) (by kernel_rfl),
  Lib.run_overlaps_apart w 304 4 311 a6h 2 a ⟨vb,vo,none⟩ ⟨gb,go_,none⟩ la ca lb cb hne tA tB kA kB hsa hsb hkB hfa hfe]
 rfl
theorem a4n (w:World) (g n cap i:Nat) (vb:Nat) (x:Int×ByteArray) (hs:cF 2 kT base 311 w (.slice (some ⟨g,0,none⟩) n cap) l) (hi:i < l.length) (hroom:l.length+1≤cap) (hlen:l.length≤100000) (hv:cU w vb 311 (kT x)) (hvg:vb≠g) :
  Calls Tryz.prog 210 #[.slice (some ⟨g,0,none⟩) n cap,.int .i64 (i:Int),.slice (some ⟨vb,0,none⟩) 1 1] w fun e w'=>∃ v',e = .returned v'∧cF 2 kT base 311 w' v' (l.take i++x::l.drop i)∧bR [g] w w'∧(∀ y∈blk v',y∈[g]∨w.heap.size≤y):=by
 obtain⟨rfl,j,W1,F,m,o,HK,p,r,s,a,b,c,d,f⟩:=sS iH (by decide) wT a6h (by kernel_rfl) hs hi hroom hv hvg;have h:=bG (fun C D=>e8x w vb g 0 ((i+1)*2) 1 1 C D r s _ _ hvg a b c d f);clear hs hv a b c d f;generalize l.length=n at *
 obtain⟨G,I,J,K,L,M,N,O,P,Q,t,u,v,z,A,B⟩:=rP hi hlen hroom j;go_enter Tryz.func210,Tryz.ntmps210;go_wp2_with (simp only[h.out])
 go_region_law (refine fU rfl (.tmp 73) (.tmp 76) 304 304 rfl (.slice (some ⟨g,(i+1)*2,none⟩) (n+1-(i+1)) (cap-(i+1))) (.slice (some ⟨g,i*2,none⟩) (n+1-i) (cap-i)) (by simp[Act.eval,Act.put]) (by simp[Act.eval,Act.put]) (m.out _ _ _) ?_)
 go_wp2_with (with_reducible refine eG rfl (.tmp 80) (.tmp 81) 304 304 rfl (.slice (some ⟨g,i*2,none⟩) (n+1-i) (cap-i)) (.slice (some ⟨vb,0,none⟩) 1 1) rfl rfl (o.out _ _) ?_)
 go_ret;exact⟨_,rfl,HK.out,p.out,fun y E => .inl (by simpa [blk] using E)⟩
theorem a8x (w:World) (g n cap i:Nat) (vb:Nat) (x:Int×ByteArray) (hs:cF 2 kT base 311 w (.slice (some ⟨g,0,none⟩) n cap) l) (hi:i < l.length) (hroom:cap < l.length+1) (hlen:l.length≤100000) (hbs:base≤w.heap.size) (hv:cU w vb 311 (kT x)) :
  Calls Tryz.prog 210 #[.slice (some ⟨g,0,none⟩) n cap,.int .i64 (i:Int),.slice (some ⟨vb,0,none⟩) 1 1] w fun e w'=>∃ v',e = .returned v'∧cF 2 kT base 311 w' v' (l.take i++x::l.drop i)∧bR [g] w w'∧(∀ y∈blk v',y∈[g]∨w.heap.size≤y):=by
 obtain⟨rfl,rfl,c,G,W1,z,A,a,b,d,f,h,j,HK,m⟩:=wI (Ti:=3) iH (by decide) wT a6h sW rfl (by decide) (by kernel_rfl) hs hi hroom hlen hbs hv;clear hs hroom hv;generalize l.length=n at *
 obtain⟨B,C,D,E,F,I,J,K,L,M,o,p,r,s,t,u⟩:=rP hi hlen a b;go_enter Tryz.func210,Tryz.ntmps210
 go_wp2_with (first
  | (at_builtin;refine lM rfl _ _ 304 3 rfl (.slice (some ⟨g,0,none⟩) i n) (.int .i64 ((n:Int)+1-(i:Int))) rfl rfl (f.out _) ?_)
  | (with_reducible refine eG rfl (.tmp 43) (.tmp 44) 304 304 rfl (.slice (some ⟨c,i*2,none⟩) (n+1-i) (G-i)) (.slice (some ⟨vb,0,none⟩) 1 1) rfl rfl (h.out _ _) ?_))
 go_region_law (refine fU rfl (.tmp 50) (.tmp 53) 304 304 rfl (.slice (some ⟨c,(i+1)*2,none⟩) (n+1-(i+1)) (G-(i+1))) (.slice (some ⟨g,i*2,none⟩) (n-i) (n-i)) (by simp[Act.eval,Act.put]) (by simp[Act.eval,Act.put]) (j.out _ _ _) ?_)
 go_wp2_with fail
 go_ret;exact⟨_,rfl,HK.out,m.out,fun y v => .inr (by simp[blk] at v;have:=d.out;omega)⟩
theorem b3i (w:World) (v:Value) (i:Nat) (vb:Nat) (x:Int×ByteArray) (hs:cF 2 kT base 311 w v l) (hi:i≤l.length) (hlen:l.length≤100000) (hbs:base≤w.heap.size) (hv:cU w vb 311 (kT x)) (hvg:vb∉blk v) :
  Calls Tryz.prog 210 #[v,.int .i64 (i:Int),.slice (some ⟨vb,0,none⟩) 1 1] w fun e w'=>∃ v',e = .returned v'∧cF 2 kT base 311 w' v' (l.take i++x::l.drop i)∧bR (blk v) w w'∧(∀ y∈blk v',y∈blk v∨w.heap.size≤y):=by
 by_cases he:i=l.length
 ·subst he;rw[aV,List.drop_length];exact b3h w v vb x hs hlen hbs hv
 ·rcases hs.2 with⟨-,d⟩|⟨g,a,b,rfl,-⟩
  ·omega
  ·by_cases c:l.length+1≤a
   ·exact a4n w g l.length a i vb x hs (by omega) c hlen hv (by simpa [blk] using hvg)
   ·exact a8x w g l.length a i vb x hs (by omega) (by omega) hlen hbs hv
theorem b8a (w:World) (k:Int) (y:ByteArray) (hs:kU base w g lv l) (hr:bV eT l) (hlen:l.length≤100000) (hbs:base≤w.heap.size) (hk:gR k) (hn:cB eT l k=false) :
  Calls Tryz.prog 153 #[.pointer (some ⟨g,0,none⟩),iv k,sv y] w fun e w'=>e = .returned (.bool true)∧∃ lv',kU base w' g lv' (l.take (below eT l k)++(k,y)::l.drop (below eT l k))∧bR (g::blk lv) w w'∧(∀ x∈blk lv',x∈blk lv∨w.heap.size≤x):=by
 have D:=jW w k hs hr hlen hk;rw[hn] at D;have I:=bG D;have t:=bG hs;have u:=iR (lt:=eT) l k;have J:=bG (fun r (h:bR [] w r)=>b3i (r.alloc (.cells #[iv k,sv y] 311)) lv (below eT l k) r.heap.size (k,y) (hs.rows.upd (h.alloc _) (by simp)) u hlen (by have:=h.size;simp;omega) (cU.new r _ [iv k,sv y]) (fun j=>by have:=(hs.rows.ge _ j).2;have:=h.size;omega));have G:=bG (show w.cell? ⟨g,0,none⟩=some lv from hs.tab.cell 0);obtain⟨A,n,B,rfl⟩:=hs.rows.slice_;clear hs hr hk D hn hbs u;generalize below eT l k=i at *
 go_enter Tryz.func153,Tryz.ntmps153;go_wp2_with fail
 with_reducible refine I.out.mono ?_
 rintro e r ⟨rfl,m⟩;have L:=m.cell G.out (by simp);have v:=bG m;go_wp2_with fail
 with_reducible refine(J.out r v.out).mono ?_
 rintro e C ⟨N,rfl,o,f,p⟩;have d:=t.out.g_lv;have a:=v.out.alloc (.cells #[iv k,sv y] 311);have M:C.frozen? ⟨g,0,none⟩=false:=((t.out.tab.upd a (by simp)).upd f d).frozen 0;have d2:C.cell? ⟨g,0,none⟩=some (.slice A n B):=f.cell (a.cell G.out (by simp)) d;obtain⟨b,s,c,rfl⟩:=o.slice_;have z:g∉blk (.slice b s c):=fun j=>by
  rcases p g j with q|q
  ·exact d q
  ·have:=t.out.tab.lt;have:=a.size;omega
 have K:=bG (show kU base (C.setCell ⟨g,0,none⟩ (.slice b s c)) g (.slice b s c) (l.take i++(k,y)::l.drop i) from
  ⟨by simpa using((t.out.tab.upd a (by simp)).upd f d).set_ 0 (.slice b s c),o.upd ((bR.refl [g] _).setCell _ _ (.inl (by simp))) (by intro x j;simp;rintro rfl;exact z j),t.out.gb⟩)
 have E:=bG (show bR (g::blk (.slice A n B)) w (C.setCell ⟨g,0,none⟩ (.slice b s c)) from(a.trans (T:=g::blk (.slice A n B)) f (by simp) (fun x j => .inl (by simp[j]))).setCell _ _ (.inl (by simp)));have F:=bG (show ∀ x∈blk (.slice b s c),x∈blk (.slice A n B)∨w.heap.size≤x from fun x j=>(p x j).imp id (fun h=>by have:=a.size;omega));clear o m f d z p a;go_wp2_with fail
 go_ret;exact⟨rfl,_,K.out,E.out,F.out⟩
theorem b8b (w:World) (k:Int) (y:ByteArray) (hs:kU base w g lv l) (hr:bV eT l) (hlen:l.length≤100000) (hbs:base≤w.heap.size) (hk:gR k) :
  Calls Tryz.prog 153 #[.pointer (some ⟨g,0,none⟩),iv k,sv y] w fun e w'=>e = .returned (.bool (!cB eT l k))∧∃ lv',kU base w' g lv' (dD eT l k y)∧bR (g::blk lv) w w'∧(∀ x∈blk lv',x∈blk lv∨w.heap.size≤x):=by
 cases a:cB eT l k with
 | false =>
  refine(b8a w k y hs hr hlen hbs hk a).mono ?_;rintro e w' ⟨rfl,f,b,c,h⟩;exact⟨rfl,f,by unfold dD;rw[a];exact b,c,h⟩
 | true =>
  refine(b7z w k y hs hr hlen hk a).mono ?_;rintro e w' ⟨rfl,b,c⟩;refine⟨rfl,lv,?_,c.mono (fun x d => .inl (by simp[d])),fun x d => .inl d⟩;rw[sQ l k y a];exact b
end
structure pK (w0 w:World) (g:Nat) (F:List Nat) (l:List (Int×ByteArray)):Prop where
 ex:∃ lv,F=g::blk lv∧kU w0.heap.size w g lv l
 ris:bV eT l
 old:bR [] w0 w
section
variable {w0 w w' : World} {g : Nat} {F : List Nat} {l : List (Int × ByteArray)}
theorem pK.ge (h:pK w0 w g F l):∀ x∈F,w0.heap.size≤x∧x < w.heap.size:=by
 obtain⟨b,rfl,a⟩:=h.ex;exact a.lt
theorem pK.upd (h:pK w0 w g F l) {S:List Nat} (hu:bR S w w') (hs:∀ x∈F,x∉S) (hS:∀ x∈S,w0.heap.size≤x):pK w0 w' g F l:=by
 obtain⟨a,rfl,b⟩:=h.ex;exact⟨⟨a,rfl,b.upd hu hs⟩,h.ris,h.old.trans hu (by simp) (fun x c => .inr (hS x c))⟩
theorem pK.upd0 (h:pK w0 w g F l) (hu:bR [] w w'):pK w0 w' g F l:=h.upd hu (by simp) (by simp)
theorem d1k (w0 w:World) (hu:bR [] w0 w) :
  Calls Tryz.prog 93 #[] w fun e w'=>∃ g F,e = .returned (.pointer (some ⟨g,0,none⟩))∧pK w0 w' g F []∧bR [] w w'∧(∀ x∈F,w.heap.size≤x):=by
 refine(b7w w).mono ?_;rintro e w' ⟨rfl,b,a⟩;exact⟨_,_,rfl,⟨⟨_,rfl,⟨b.tab,cF.nil _ _ _,hu.size⟩⟩,bV.nil,hu.seq a⟩,a,fun x c=>(b.lt x c).1⟩
theorem d1l (k:Int) (y:ByteArray) (r:Bool) (l':List (Int×ByteArray)) (hs:pK w0 w g F l) (hlen:l.length≤100000) (hk:gR k) (h1:(!cB eT l k)=r) (h2:dD eT l k y=l') :
  Calls Tryz.prog 153 #[.pointer (some ⟨g,0,none⟩),iv k,sv y] w fun e w'=>e = .returned (.bool r)∧∃ F',pK w0 w' g F' l'∧bR F w w'∧(∀ x∈F',x∈F∨w.heap.size≤x):=by
 subst h1;subst h2;have a:=hs.old;obtain⟨⟨m,rfl,f⟩,h,-⟩:=hs;refine(b8b w k y f h hlen a.size hk).mono ?_;rintro e w' ⟨rfl,b,d,i,j⟩;refine⟨rfl,g::blk b,⟨⟨b,rfl,d⟩,h.set_ jH k y,a.trans i (by simp) (fun x c => .inr (f.lt x c).1)⟩,i,fun x c=>?_⟩;rcases aG.1 c with rfl|c
 ·exact .inl (by simp)
 ·exact(j x c).imp (fun q=>by simp[q]) id
theorem d1m (k:Int) (r:Bool) (l':List (Int×ByteArray)) (hs:pK w0 w g F l) (hlen:l.length≤100000) (hk:gR k) (h1:cB eT l k=r) (h2:fS eT l k=l') :
  Calls Tryz.prog 152 #[.pointer (some ⟨g,0,none⟩),iv k] w fun e w'=>e = .returned (.bool r)∧∃ F',pK w0 w' g F' l'∧bR F w w'∧(∀ x∈F',x∈F∨w.heap.size≤x):=by
 subst h1;subst h2;have a:=hs.old;obtain⟨⟨m,rfl,f⟩,h,-⟩:=hs;refine(b7y w k f h hlen hk).mono ?_;rintro e w' ⟨rfl,b,d,i,j⟩;refine⟨rfl,g::blk b,⟨⟨b,rfl,d⟩,h.del jH k,a.trans i (by simp) (fun x c => .inr (f.lt x c).1)⟩,i,fun x c=>?_⟩;rcases aG.1 c with rfl|c
 ·exact .inl (by simp)
 ·exact(j x c).imp (fun q=>by simp[q]) id
theorem d1n (k:Int) (y:ByteArray) (r:Bool) (hs:pK w0 w g F l) (hlen:l.length≤100000) (hk:gR k) (h:fC eT (⟨#[]⟩:ByteArray) l k=(y,r)) :
  Calls Tryz.prog 96 #[.pointer (some ⟨g,0,none⟩),iv k] w fun e w'=>e = .returned (.tuple #[sv y,.bool r])∧bR [] w w':=by
 obtain⟨⟨i,rfl,d⟩,f,-⟩:=hs;unfold fC at h;cases a:cB eT l k with
 | false=>rw[a] at h;injection h with b c;subst b;subst c;exact c5e w k d f hlen hk a
 | true=>rw[a] at h;injection h with b c;subst b;subst c;exact c5f w k d f hlen hk a
end
abbrev kV (p:ByteArray×Sl):List Value:=[sv p.1,gF p.2]
theorem fT:∀ p,(kV p).length=2:=fun _=>rfl
theorem sX:(Tryz.prog.info? 242).map (fun i=>(i.zero,i.size,i.bytes))=some (some (.agg #[.string ⟨#[]⟩,.slice none 0 0]),2,40):=by kernel_rfl
abbrev eR:ByteArray→ByteArray→Bool:=bY
structure jL (base:Nat) (w:World) (g:Nat) (lv:Value) (l:List (ByteArray×Sl)):Prop where
 tab:cU w g 151 [lv]
 rows:cF 2 kV base 242 w lv l
 gb:base≤g
section
variable {base : Nat} {g : Nat} {lv : Value} {l : List (ByteArray × Sl)} {w w' : World}
theorem jL.upd (h:jL base w g lv l) {S:List Nat} (hu:bR S w w') (hs:∀ x∈g::blk lv,x∉S):jL base w' g lv l :=
 ⟨h.tab.upd hu (hs g (by simp)),h.rows.upd hu (fun x a=>hs x (by simp[a])),h.gb⟩
theorem jL.upd0 (h:jL base w g lv l) (hu:bR [] w w'):jL base w' g lv l:=h.upd hu (by simp)
theorem jL.g_lv (h:jL base w g lv l):g∉blk lv:=fun e=>by
 obtain⟨C,f,a⟩:=h.rows.typ g e;exact h.tab.ne g a (by decide) rfl
theorem jL.lt (h:jL base w g lv l):∀ x∈g::blk lv,base≤x∧x < w.heap.size:=by
 intro x a;rcases aG.1 a with rfl|a
 ·exact⟨h.gb,h.tab.lt⟩
 ·exact h.rows.ge x a
theorem b8c (w:World) (hs:jL base w g lv l) :
  Calls Tryz.prog 59 #[.pointer (some ⟨g,0,none⟩)] w fun e w'=>e = .returned (.int .i64 (l.length:Int))∧w=w':=by
 obtain⟨a,b,rfl,-⟩:=hs.rows.rd fT;have c0:w.cell? ⟨g,0,none⟩=some (.slice a l.length b):=hs.tab.cell 0;go_enter Tryz.func59,Tryz.ntmps59;go_wp2
 go_ret;exact⟨rfl,rfl⟩
theorem b8d (w:World) :
  Calls Tryz.prog 32 #[] w fun e w'=>e = .returned (.pointer (some ⟨w.heap.size,0,none⟩))∧jL w.heap.size w' w.heap.size (.slice none 0 0) []∧bR [] w w':=by
 go_enter Tryz.func32,Tryz.ntmps32;go_wp2
 go_ret;exact⟨rfl,⟨cU.new w _ [.slice none 0 0],cF.nil _ _ _,aF _⟩,(bR.refl [] w).alloc _⟩
theorem jX (w:World) (k:ByteArray) (hs:jL base w g lv l) (hr:bV eR l) (hlen:l.length≤100000) (hk:True) :
  Calls Tryz.prog 101 #[.pointer (some ⟨g,0,none⟩),sv k] w fun e w'=>e = .returned (.tuple #[.int .i64 (below eR l k:Int),.bool (cB eR l k)])∧bR [] w w':=by
 have W:=bG hs;have L:=bG hr;obtain⟨Q,R,rfl,S,F,o⟩:=hs.rows.rd fT;have c0:w.cell? ⟨g,0,none⟩=some (.slice Q l.length R):=hs.tab.cell 0;have M:=bG o;clear hs hr o F;go_enter Tryz.func101,Tryz.ntmps101;go_wp2_with fail
 go_quiet (fail)
 have r:=bG ((bR.refl [] w).drewN nq);generalize w.drewN nq=v at *
 replace c0:=r.out.cell c0 (by simp)
 go_wp2_with fail
 go_loop [6,7] (fun I J=>∃ a b:Nat,I = .int .i64 a∧J = .int .i64 b∧a≤b∧b≤l.length∧Hid (∀ j,j < a→eR (bT l j).1 k=true)∧Hid (∀ j,b≤j→j < l.length→eR (bT l j).1 k=false)) (fun I J=>(intOf J).toNat-(intOf I).toNat)
 case atStart=>exact⟨0,l.length,rfl,rfl,aS _,aF _,fun j h=>absurd h (by omega),fun j K N=>absurd K (by omega)⟩
 case round =>
  obtain⟨a,b,rfl,rfl,T,y,z,A⟩:=hrel;by_cases U:a < b
  ·have d:(a+b) / 2 < l.length:=by omega
   obtain⟨G,t,rfl,B⟩:=M.out (by intro h;simp[h] at d);have O:v.cell? ⟨G,t+(a+b) / 2*2,none⟩=some (sv (bT l ((a+b) / 2)).1):=r.out.cell (B _ d 0 (by omega)) (by simp);clear B;cases c:eR (bT l ((a+b) / 2)).1 k with
   | true =>
    have C:Hid (∀ j,j < (a+b) / 2+1→eR (bT l j).1 k=true):=fun j Z=>L.out.mono gB k j ((a+b) / 2) (by omega) d c
    generalize (bT l ((a+b) / 2)).1=m at *
    have D:=c;clear c;go_wp2
    go_round
    case rel=>exact⟨(a+b) / 2+1,b,by go_num,rfl,by omega,y,C,A⟩
    case measure=>simp[intOf];omega
   | false =>
    have E:Hid (∀ j,(a+b) / 2≤j→j < l.length→eR (bT l j).1 k=false):=fun j K N=>by
     cases V:eR (bT l j).1 k with
     | false=>rfl
     | true=>exact absurd ((L.out.mono gB k _ j K N V).symm.trans c) (by simp)
    generalize (bT l ((a+b) / 2)).1=m at *
    have D:=c;clear c;go_wp2
    go_round
    case rel=>exact⟨a,(a+b) / 2,rfl,by go_num,by omega,by omega,z,E⟩
    case measure=>simp[intOf];omega
  ·obtain rfl:a=b:=by omega
   have f:below eR l k=a:=nD l k a y z.out (fun h=>A.out a (aF _) h);have u:Hid (cB eR l k=decide (a < l.length∧(bT l a).1=k)):=by unfold Hid cB;rw[f]
   have i:=bG f;clear f;by_cases p:a < l.length
   ·obtain⟨G,t,rfl,B⟩:=M.out (by intro h;simp[h] at p);have O:v.cell? ⟨G,t+a*2,none⟩=some (sv (bT l a).1):=r.out.cell (B _ p 0 (by omega)) (by simp);have s:Hid (cB eR l k=decide ((bT l a).1=k)):=by unfold Hid;rw[u.out];simp[p]
    clear B;generalize (bT l a).1=m at *
    have X:(0:Int)≤a:=by omega
    have Y:(a:Int) < l.length:=by omega
    by_cases he:m=k
    ·have P:(m.toList==k.toList)=true:=by rw[he];simp
     have x:Hid (cB eR l k=true):=by unfold Hid;rw[s.out];simp[he]
     clear he;go_wp2_with fail
     go_quiet (fail)
     go_wp2_with fail
     go_ret2
     exact⟨by rw[i.out,x.out];rfl,by first|exact r.out.drewN _|exact r.out.drew⟩
    ·have P:(m.toList==k.toList)=false:=by rw[bJ];exact fun h=>he (pV _ _ h)
     have x:Hid (cB eR l k=false):=by unfold Hid;rw[s.out];simp[he]
     clear he;go_wp2_with fail
     go_quiet (fail)
     go_wp2_with fail
     go_ret2
     exact⟨by rw[i.out,x.out];rfl,by first|exact r.out.drewN _|exact r.out.drew⟩
   ·have x:Hid (cB eR l k=false):=by unfold Hid;rw[u.out];simp[p]
    have hd:decide (a < l.length)=false:=by simpa using p
    go_wp2_with fail
    go_quiet (fail)
    go_wp2_with fail
    go_ret2
    exact⟨by rw[i.out,x.out];rfl,by first|exact r.out.drewN _|exact r.out.drew⟩
end
end Go.Proofs.YthgnlfikneipiaaGreat
