/- Texts of the proof, joined. -/
import Derived.Test.YthgnlfikneipiaaGreatMz4
import Derived.Test.YthgnlfikneipiaaGreatMz5
import Derived.Test.YthgnlfikneipiaaGreatMz1
import Derived.Test.YthgnlfikneipiaaGreatChecked
import Derived.Test.YthgnlfikneipiaaGreatMz6
import Derived.Test.YthgnlfikneipiaaGreatRows
import Derived.StillTailTactics
import Derived.Laws.Externs
import Derived.Lib.JoinLaws
set_option linter.unusedSimpArgs false
set_option linter.unusedVariables false
set_option linter.unusedSectionVars false
namespace Go.Eng
variable [Val]
open Go.RowKit
def eqMp:List (Int×AV)→List (Int×AV)→Bool
 | [],[]=>true
 | a::l,b::m=>decide (a.1=b.1)&&eqA a.2 b.2&&eqMp l m
 | _,_=>false
def sameBk:Option Blk→Blk→Bool
 | some (.row e cs),.row e' cs'=>Nat.beq e e'&&eqAs cs cs'
 | some (.gro e s cs),.gro e' s' cs'=>Nat.beq e e'&&Nat.beq s s'&&eqAs cs cs'
 | some (.fro e cs),.fro e' cs'=>Nat.beq e e'&&eqAs cs cs'
 | some (.mp es c),.mp es' c'=>Nat.beq c c'&&eqMp es es'
 | some .dead,.dead=>true
 | _,_=>false
omit [Val] in
theorem eqMp_ok:∀ {l m:List (Int×AV)},eqMp l m=true→l=m
 | [],[],_=>rfl
 | [],_::_,h=>by cases h
 | _::_,[],h=>by cases h
 | (k,a)::l,(k',b)::m,h=>by
  simp only [eqMp,Bool.and_eq_true,decide_eq_true_eq] at h
  obtain ⟨⟨h1,h2⟩,h3⟩:=h
  rw [h1,eqA_ok h2,eqMp_ok h3]
omit [Val] in
theorem sameBk_ok {a:Option Blk} {b:Blk} (h:sameBk a b=true):a=some b∧∀ k az,b ≠ .gho k az:=by
 unfold sameBk at h
 split at h
 ·rw [Bool.and_eq_true] at h
  rw [Nat.eq_of_beq_eq_true h.1,eqAs_ok h.2];exact ⟨rfl,by simp⟩
 ·simp only [Bool.and_eq_true] at h
  rw [Nat.eq_of_beq_eq_true h.1.1,Nat.eq_of_beq_eq_true h.1.2,eqAs_ok h.2];exact ⟨rfl,by simp⟩
 ·rw [Bool.and_eq_true] at h
  rw [Nat.eq_of_beq_eq_true h.1,eqAs_ok h.2];exact ⟨rfl,by simp⟩
 ·rw [Bool.and_eq_true] at h
  rw [Nat.eq_of_beq_eq_true h.1,eqMp_ok h.2];exact ⟨rfl,by simp⟩
 ·exact ⟨rfl,by simp⟩
 ·cases h
def subH (H:Hp):Hp→Bool
 | []=>true
 | (k,b)::l=>sameBk (getA H k) b&&subH H l
theorem subH_ok {H:Hp}:∀ {B:Hp},subH H B=true→∀ k b,getA B k=some b→getA H k=some b
 | [],_,k,b,e=>by cases e
 | (k',b')::l,h,k,b,e=>by
  simp only [subH,Bool.and_eq_true] at h
  rw [getA_cons] at e
  split at e
  ·rename_i q;cases e;rw [q];exact (sameBk_ok h.1).1
  ·exact subH_ok h.2 k b e
structure Memo where
 f:Nat
 args:List AV
 nx:Nat
 H:Hp
 v:AV
 H1:Hp
 nx1:Nat
def none0 (H:Hp):Bool:=match getA H 0 with
 | none=>true
 | some _=>false
def memoOf:List Memo→FuncId→List AV→St→Option (AV×St)
 | [],_,_,_=>none
 | m::l,f,args,S=>bif Nat.beq f m.f&&Nat.beq S.nx m.nx&&eq2s args m.args&&none0 S.H&&subH S.H m.H then some (m.v,{ S with H:=m.H1++S.H,nx:=m.nx1 }) else memoOf l f args S
def keptH (K:List Nat) (H:Hp):Hp→Bool
 | []=>true
 | (k,b)::l=>(memN K k || sameBk (getA H k) b)&&keptH K H l
theorem keptH_ok {K:List Nat} {H:Hp}:∀ {B:Hp},keptH K H B=true→∀ k b,getA B k=some b→memN K k=true∨getA H k=some b
 | [],_,k,b,e=>by cases e
 | (k',b')::l,h,k,b,e=>by
  simp only [keptH,Bool.and_eq_true,Bool.or_eq_true] at h
  rw [getA_cons] at e
  split at e
  ·rename_i q;cases e;subst q;exact h.1.imp id fun q=>(sameBk_ok q).1
  ·exact keptH_ok h.2 k b e
def chkMemo (E:Env) (n:Nat) (m:Memo):Bool :=
 match call E n m.f m.args ⟨[],m.H,m.nx,[],[]⟩ with
 | some (v,S)=>eqV v m.v&&S.obs.isEmpty&&Nat.beq S.nx m.nx1&&subH S.H m.H1&&keptH (keysOf m.H1) S.H m.H&&none0 m.H1
 | none=>false
theorem key_getA {H:Hp}:∀ {i:Nat},memN (keysOf H) i=true→∃ b,getA H i=some b:=by
 induction H with
 | nil=>intro i h;cases h
 | cons p l ih =>
  intro i h
  obtain ⟨k,b⟩:=p
  rw [getA_cons]
  by_cases e:i=k
  ·exact ⟨b,by rw [if_pos e]⟩
  ·rw [if_neg e]
   simp only [keysOf,memN,Bool.or_eq_true] at h
   rcases h with q|q
   ·exact absurd (Nat.eq_of_beq_eq_true q).symm e
   ·exact ih q
theorem getA_two {H1 H:Hp} (i:Nat):getA (H1++H) i=(getA H1 i).or (getA H i):=by
 induction H1 with
 | nil=>simp [getA]
 | cons p l ih =>
  obtain ⟨k,b⟩:=p
  rw [List.cons_append,getA_cons,getA_cons]
  split
  ·rfl
  ·exact ih
theorem none0_ok {H:Hp} (h:none0 H=true):getA H 0=none:=by
 unfold none0 at h
 split at h
 ·assumption
 ·cases h
theorem memo_ok {P:Program} {E:Env} (hE:EOK P E) {n:Nat} {m:Memo} (hm:chkMemo E n m=true) {S:St} (hn:S.nx=m.nx) (h0:getA S.H 0=none) (hs:subH S.H m.H=true) :
  CallGood P m.f m.args S { S with H:=m.H1++S.H,nx:=m.nx1 } m.v:=by
 unfold chkMemo at hm
 split at hm
 rotate_left
 ·cases hm
 rename_i v S1 hc
 simp only [Bool.and_eq_true] at hm
 obtain ⟨⟨⟨⟨⟨a1,a2⟩,a3⟩,a4⟩,a5⟩,a6⟩:=hm
 have a1:=eqV_ok a1;subst a1
 have a2:S1.obs=[]:=by simpa using a2
 have a3:=Nat.eq_of_beq_eq_true a3
 have a4:=subH_ok a4
 have a5:=keptH_ok a5
 have a6:=none0_ok a6
 have hs:=subH_ok hs
 obtain ⟨-,⟨-,c2,-⟩,c3⟩:=call_ok hE hc
 dsimp only at c2
 refine ⟨rfl,⟨⟨m.H1,rfl⟩,by dsimp only;omega,fun _ q=>q⟩,fun _ w G O us hu hS=>?_⟩
 have hO:Sat w G (fun x=>O x∧∃ k b y,getA m.H k=some b∧b.live∧G k=some y∧y.g=x) m.H m.nx:=by
  refine ⟨⟨fun i b hi hl=>?_,fun i j b c x y hi hb hj hcc hx hy he=>hS.inj i j b c x y (hs i b hi) hb (hs j c hj) hcc hx hy he⟩,fun i hi=>hS.fresh i (by omega),fun x hx=>hS.olt x hx.1,fun k az hk=>?_,fun x hx=>hS.ob x hx.1,hS.bw⟩
  ·obtain ⟨x,g1,g2,g3,g4⟩:=hS.bs i b (hs i b hi) hl
   exact ⟨x,g1,⟨g2,i,b,x,hi,hl,g1,rfl⟩,g3,g4⟩
  ·have:=hs 0 _ hk
   rw [h0] at this;cases this
 refine (c3 (by rw [a2];intro p hp;cases hp) hu hO).mono ?_
 rintro e w' ⟨u,G',O',rfl,k1,k2,k3⟩
 have hcs:∀ i c,getA (m.H1++S.H) i=some c→c.live→getA S1.H i=some c∨(getA S.H i=some c∧∃ x,G i=some x∧G' i=some x∧O x.g∧x.g < w.heap.size∧(¬ ∃ k b y,getA m.H k=some b∧b.live∧G k=some y∧y.g=x.g)∧BS w' G' x c):=fun i c hi hl=>by
  rw [getA_two] at hi
  cases hb:getA m.H1 i with
  | some b =>
   rw [hb] at hi
   have hi:some b=some c:=hi
   cases hi
   exact .inl (a4 i _ hb)
  | none =>
   rw [hb] at hi
   have hi:getA S.H i=some c:=by simpa using hi
   cases hk:getA m.H i with
   | some d =>
    have e1:=hs i d hk
    rw [hi] at e1;cases e1
    rcases a5 i _ hk with q|q
    ·obtain ⟨b,q⟩:=key_getA q
     rw [hb] at q;cases q
    ·exact .inl q
   | none =>
    obtain ⟨x,g1,g2,g3,g4⟩:=hS.bs i c hi hl
    have hno:¬ ∃ k b y,getA m.H k=some b∧b.live∧G k=some y∧y.g=x.g:=by
     rintro ⟨k,b,y,r1,r2,r3,r4⟩
     have:=hS.inj k i b c y x (hs k b r1) r2 hi hl r3 g1 r4
     subst this
     rw [hk] at r1;cases r1
    exact .inr ⟨hi,x,g1,k3.g i x g1,g2,g3,hno,g4.mono k3.g (k3.u.block _ g3 (fun q=>hno q.2))⟩
 refine ⟨u,G',fun x=>O x∨O' x,rfl,k1,⟨⟨fun i b hi hl=>?_,fun i j b c x y hi hb hj hcc hx hy he=>?_⟩,fun i hi=>k2.fresh i (by dsimp only at hi;omega),fun x hx=>?_,fun k az hk=>?_,fun x hx=>hx.elim (hS.ob x) (k2.ob x),k2.bw⟩,k3.g,⟨k3.u.os,k3.u.tape,k3.u.output,k3.u.size,fun k hk hn=>k3.u.block k hk fun q=>hn q.1⟩,fun x hx=>?_⟩
 ·rcases hcs i b hi hl with q|⟨_,x,g1,g2,g3,g4,g5,g6⟩
  ·obtain ⟨x,g1,g2,g3,g4⟩:=k2.bs i b q hl
   exact ⟨x,g1,.inr g2,g3,g4⟩
  ·exact ⟨x,g2,.inl g3,Nat.lt_of_lt_of_le g4 k3.u.size,g6⟩
 ·rcases hcs i b hi hb with q|⟨q0,x',g1,g2,g3,g4,g5,g6⟩
  ·obtain ⟨x1,p1,p2,p3,_⟩:=k2.bs i b q hb
   rw [hx] at p1;cases p1
   rcases hcs j c hj hcc with r|⟨r0,y',l1,l2,l3,l4,l5,l6⟩
   ·exact k2.inj i j b c x y q hb r hcc hx hy he
   ·rw [hy] at l2;cases l2
    rw [he] at p2
    rcases k3.o _ p2 with s|s
    ·exact absurd s.2 l5
    ·omega
  ·rw [hx] at g2;cases g2
   rcases hcs j c hj hcc with r|⟨r0,y',l1,l2,l3,l4,l5,l6⟩
   ·obtain ⟨y1,p1,p2,p3,_⟩:=k2.bs j c r hcc
    rw [hy] at p1;cases p1
    rw [← he] at p2
    rcases k3.o _ p2 with s|s
    ·exact absurd s.2 g5
    ·omega
   ·rw [hy] at l2;cases l2
    exact hS.inj i j b c x y q0 hb r0 hcc g1 l1 he
 ·rcases hx with q|q
  ·exact Nat.lt_of_lt_of_le (hS.olt x q) k3.u.size
  ·exact k2.olt x q
 ·dsimp only at hk
  rw [getA_two,a6,h0] at hk
  cases hk
 ·rcases hx with q|q
  ·exact .inl q
  ·rcases k3.o x q with s|s
   ·exact .inl s.1
   ·exact .inr s
theorem memoOf_ok {P:Program}:∀ {l:List Memo},(∀ m∈l,∃ E n,EOK P E∧chkMemo E n m=true)→∀ f args S v S',memoOf l f args S=some (v,S')→CallGood P f args S S' v
 | [],_,f,args,S,v,S',e=>by cases e
 | m::l,hl,f,args,S,v,S',e=>by
  simp only [memoOf] at e
  cases hc:Nat.beq f m.f&&Nat.beq S.nx m.nx&&eq2s args m.args&&none0 S.H&&subH S.H m.H<;>rw [hc] at e
  ·exact memoOf_ok (fun x hx=>hl x (List.mem_cons_of_mem _ hx)) f args S v S' e
  ·cases e
   simp only [Bool.and_eq_true] at hc
   obtain ⟨⟨⟨⟨h1,h2⟩,h3⟩,h4⟩,h5⟩:=hc
   have h1:=Nat.eq_of_beq_eq_true h1;have h2:=Nat.eq_of_beq_eq_true h2
   have h3:=eq2s_ok h3
   subst h1;subst h3
   obtain ⟨E,n,hE,hm⟩:=hl m (List.mem_cons_self ..)
   exact memo_ok hE hm h2 (none0_ok h4) h5
end Go.Eng
namespace Go.Eng
set_option maxRecDepth 100000
def wi (n:Int):AV := .int .i64 n
def wu (n:Int):AV := .int .u8 n
noncomputable def awOf:Memo:=⟨46,[.ptr 282 0,.agg [wi 0,wi 0,.bool false,.bool false,wi 0,wi 0,.nils,.nils,wi 0,.nils,.nils,wi 0,.slc 681 0 1,.nils,wi 0,.nils]],685,
 [(282, .row 262 [.slc 281 0 1, .str ⟨#[]⟩, .slc 377 0 9, .slc 342 0 1, .nils, .nils, .ptr 30 0]),
 (281, .gro 29 2 [.str ⟨#[97]⟩, .str ⟨#[120, 40, 121, 63, 41, 36]⟩]),
 (377, .gro 344 4 [wi 4, wi 0, wi 0, .nils, wi 1, wi 0, wi 0, .slc 345 0 1, wi 4, wi 2, wi 0, .nils, wi 2, wi 4, wi 5, .nils, wi 1, wi 0, wi 0, .slc 361 0 1, wi 4, wi 3, wi 0, .nils, wi 6, wi 0, wi 0, .nils, wi 4, wi 1, wi 0, .nils, wi 7, wi 0, wi 0, .nils]),
 (345, .gro 482 2 [.int .i32 120, .int .i32 120]),
 (361, .gro 482 2 [.int .i32 121, .int .i32 121]),
 (342, .gro 3 1 [wi 0]),
 (30, .row 401 [.slc 33 0 1]),
 (33, .gro 403 2 [.str ⟨#[97]⟩, wi 0]),
 (681, .gro 290 12 [.bool false, wi (-1), wi (-1), wi (-1), wi (-1), wi (-1), wi (-1), wi (-1), wi (-1), wi (-1), wi (-1), .slc 679 0 1]),
 (679, .gro 415 11 [wi 0, wi (-1), wi (-1), wi (-1), wi (-1), wi (-1), wi (-1), wi (-1), wi (-1), wi (-1), wi (-1)])],
 .tup [.ptr 877 0, wi 0],
 [(877, .row 209 [.ptr 282 0, .slc 876 0 9, .slc 846 0 1, .nils, .nils, .bool false, wi 0, wi 0, .bool false, .bool false, wi 0, wi 0, .nils, .nilp, .ptr 1230 0, .nilp]),
 (876, .gro 344 4 [wi 4, wi 0, wi 0, .nils, wi 1, wi 0, wi 0, .slc 852 0 1, wi 4, wi 2, wi 0, .nils, wi 2, wi 4, wi 5, .nils, wi 1, wi 0, wi 0, .slc 862 0 1, wi 4, wi 3, wi 0, .nils, wi 6, wi 0, wi 0, .nils, wi 4, wi 1, wi 0, .nils, wi 7, wi 0, wi 0, .nils]),
 (852, .gro 482 2 [.int .i32 120, .int .i32 120]),
 (862, .gro 482 2 [.int .i32 121, .int .i32 121]),
 (846, .gro 3 1 [wi 0]),
 (1230, .row 298 [.ptr 1229 0, .ptr 1114 0]),
 (1229, .row 378 [wu 0, wu 0, wu 0, wu 0, wi 0]),
 (1114, .row 373 [.slc 1113 0 9, .slc 1083 0 1, wi 0, .slc 1228 0 1, .ptr 1080 0]),
 (1113, .gro 344 4 [wi 4, wi 0, wi 0, .nils, wi 1, wi 0, wi 0, .slc 1089 0 1, wi 4, wi 2, wi 0, .nils, wi 2, wi 4, wi 5, .nils, wi 1, wi 0, wi 0, .slc 1099 0 1, wi 4, wi 3, wi 0, .nils, wi 6, wi 0, wi 0, .nils, wi 4, wi 1, wi 0, .nils, wi 7, wi 0, wi 0, .nils]),
 (1089, .gro 482 2 [.int .i32 120, .int .i32 120]),
 (1099, .gro 482 2 [.int .i32 121, .int .i32 121]),
 (1083, .gro 3 1 [wi 0]),
 (1228, .gro 290 12 [.bool false, wi (-1), wi (-1), wi (-1), wi (-1), wi (-1), wi (-1), wi (-1), wi (-1), wi (-1), wi (-1), .slc 1226 0 1]),
 (1226, .gro 415 11 [wi 0, wi (-1), wi (-1), wi (-1), wi (-1), wi (-1), wi (-1), wi (-1), wi (-1), wi (-1), wi (-1)]),
 (1080, .row 456 [.slk 1079 0 9 9, .nils]),
 (1079, .row 3 [wi 0, wi 0, wi 0, wi 0, wi 0, wi 0, wi 0, wi 0, wi 0])],
 1231⟩
noncomputable def awFeed:Memo:=⟨112,[.ptr 877 0,.slc 1233 0 4],1234,
 [(877, .row 209 [.ptr 282 0, .slc 876 0 9, .slc 846 0 1, .nils, .nils, .bool false, wi 0, wi 0, .bool false, .bool false, wi 0, wi 0, .nils, .nilp, .ptr 1230 0, .nilp]),
 (282, .row 262 [.slc 281 0 1, .str ⟨#[]⟩, .slc 377 0 9, .slc 342 0 1, .nils, .nils, .ptr 30 0]),
 (281, .gro 29 2 [.str ⟨#[97]⟩, .str ⟨#[120, 40, 121, 63, 41, 36]⟩]),
 (377, .gro 344 4 [wi 4, wi 0, wi 0, .nils, wi 1, wi 0, wi 0, .slc 345 0 1, wi 4, wi 2, wi 0, .nils, wi 2, wi 4, wi 5, .nils, wi 1, wi 0, wi 0, .slc 361 0 1, wi 4, wi 3, wi 0, .nils, wi 6, wi 0, wi 0, .nils, wi 4, wi 1, wi 0, .nils, wi 7, wi 0, wi 0, .nils]),
 (345, .gro 482 2 [.int .i32 120, .int .i32 120]),
 (361, .gro 482 2 [.int .i32 121, .int .i32 121]),
 (342, .gro 3 1 [wi 0]),
 (30, .row 401 [.slc 33 0 1]),
 (33, .gro 403 2 [.str ⟨#[97]⟩, wi 0]),
 (876, .gro 344 4 [wi 4, wi 0, wi 0, .nils, wi 1, wi 0, wi 0, .slc 852 0 1, wi 4, wi 2, wi 0, .nils, wi 2, wi 4, wi 5, .nils, wi 1, wi 0, wi 0, .slc 862 0 1, wi 4, wi 3, wi 0, .nils, wi 6, wi 0, wi 0, .nils, wi 4, wi 1, wi 0, .nils, wi 7, wi 0, wi 0, .nils]),
 (852, .gro 482 2 [.int .i32 120, .int .i32 120]),
 (862, .gro 482 2 [.int .i32 121, .int .i32 121]),
 (846, .gro 3 1 [wi 0]),
 (1230, .row 298 [.ptr 1229 0, .ptr 1114 0]),
 (1229, .row 378 [wu 0, wu 0, wu 0, wu 0, wi 0]),
 (1114, .row 373 [.slc 1113 0 9, .slc 1083 0 1, wi 0, .slc 1228 0 1, .ptr 1080 0]),
 (1113, .gro 344 4 [wi 4, wi 0, wi 0, .nils, wi 1, wi 0, wi 0, .slc 1089 0 1, wi 4, wi 2, wi 0, .nils, wi 2, wi 4, wi 5, .nils, wi 1, wi 0, wi 0, .slc 1099 0 1, wi 4, wi 3, wi 0, .nils, wi 6, wi 0, wi 0, .nils, wi 4, wi 1, wi 0, .nils, wi 7, wi 0, wi 0, .nils]),
 (1089, .gro 482 2 [.int .i32 120, .int .i32 120]),
 (1099, .gro 482 2 [.int .i32 121, .int .i32 121]),
 (1083, .gro 3 1 [wi 0]),
 (1228, .gro 290 12 [.bool false, wi (-1), wi (-1), wi (-1), wi (-1), wi (-1), wi (-1), wi (-1), wi (-1), wi (-1), wi (-1), .slc 1226 0 1]),
 (1226, .gro 415 11 [wi 0, wi (-1), wi (-1), wi (-1), wi (-1), wi (-1), wi (-1), wi (-1), wi (-1), wi (-1), wi (-1)]),
 (1080, .row 456 [.slk 1079 0 9 9, .nils]),
 (1079, .row 3 [wi 0, wi 0, wi 0, wi 0, wi 0, wi 0, wi 0, wi 0, wi 0]),
 (1233, .gro 5 1 [wu 97, wu 120, wu 121, wu 10])],
 .slc 1418 0 1,
 [(1418, .gro 321 13 [wi 1, wi 0, wi 0, wi 1, wi 3, wi 2, wi 3, wi (-1), wi (-1), wi (-1), wi (-1), wi (-1), wi (-1)]),
 (877, .row 209 [.ptr 282 0, .slc 876 0 9, .slc 846 0 1, .nils, .nils, .bool false, wi 4, wi 4, .bool false, .bool false, wi 0, wi 0, .nils, .nilp, .ptr 1417 0, .nilp]),
 (1417, .row 298 [.ptr 1406 0, .ptr 1409 0]),
 (1406, .row 378 [wu 0, wu 0, wu 0, wu 0, wi 0]),
 (1409, .row 373 [.slc 1113 0 9, .slc 1083 0 1, wi 0, .slc 1416 0 1, .ptr 1408 0]),
 (1416, .gro 290 12 [.bool false, wi (-1), wi (-1), wi (-1), wi (-1), wi (-1), wi (-1), wi (-1), wi (-1), wi (-1), wi (-1), .slk 1414 0 1 1]),
 (1414, .row 415 [wi 0, wi (-1), wi (-1), wi (-1), wi (-1), wi (-1), wi (-1), wi (-1), wi (-1), wi (-1), wi (-1)]),
 (1408, .row 456 [.slk 1407 0 9 9, .nils]),
 (1407, .row 3 [wi 0, wi 0, wi 0, wi 0, wi 0, wi 0, wi 0, wi 0, wi 0]),
 (1229, .row 378 [wu 121, wu 0, wu 0, wu 0, wi 0]),
 (1114, .row 373 [.slc 1113 0 9, .slc 1083 0 1, wi 3, .slc 1228 0 1, .ptr 1080 0]),
 (1228, .gro 290 12 [.bool false, wi (-1), wi (-1), wi (-1), wi (-1), wi (-1), wi (-1), wi (-1), wi (-1), wi (-1), wi (-1), .slc 1364 0 2]),
 (1364, .gro 415 11 [wi 5, wi 1, wi (-1), wi 2, wi (-1), wi (-1), wi (-1), wi (-1), wi (-1), wi (-1), wi (-1), wi 0, wi (-1), wi (-1), wi (-1), wi (-1), wi (-1), wi (-1), wi (-1), wi (-1), wi (-1), wi (-1)]),
 (1080, .row 456 [.slk 1079 0 9 9, .slc 1360 0 2]),
 (1079, .row 3 [wi 1, wi 6, wi 0, wi 1, wi 2, wi 0, wi 4, wi 0, wi 0]),
 (1360, .gro 505 2 [wi 5, .bool true, wi 0, .bool true])],
 1419⟩
noncomputable def awAdd:Memo:=⟨111,[.ptr 14 0,.agg [.bool true,wi 1,wi 1,wi 4,.int .u32 3716036065,wi 0,wi 0,.bool false,.bool false,wi 0,wi 0,.nils,.nils,wi 0,.nils,.nils,wi 0,.slc 681 0 1,.nils,wi 0,.nils],.slc 1418 0 1],1419,
 [(14, .row 98 [.ptr 3 0, .ptr 282 0, .ptr 10 0, .ptr 12 0, .ptr 13 0, .ptr 16 0]),
 (3, .row 107 [.ptr 1 0, .ptr 2 0]),
 (1, .row 145 [.slc 471 0 1]),
 (471, .gro 171 3 [wi 1, .str ⟨#[108, 111, 103]⟩, .slc 484 0 4]),
 (484, .gro 5 1 [wu 97, wu 120, wu 121, wu 10]),
 (2, .row 148 [.slc 511 0 1]),
 (511, .gro 389 2 [wi 1, wi 8]),
 (282, .row 262 [.slc 281 0 1, .str ⟨#[]⟩, .slc 377 0 9, .slc 342 0 1, .nils, .nils, .ptr 30 0]),
 (281, .gro 29 2 [.str ⟨#[97]⟩, .str ⟨#[120, 40, 121, 63, 41, 36]⟩]),
 (377, .gro 344 4 [wi 4, wi 0, wi 0, .nils, wi 1, wi 0, wi 0, .slc 345 0 1, wi 4, wi 2, wi 0, .nils, wi 2, wi 4, wi 5, .nils, wi 1, wi 0, wi 0, .slc 361 0 1, wi 4, wi 3, wi 0, .nils, wi 6, wi 0, wi 0, .nils, wi 4, wi 1, wi 0, .nils, wi 7, wi 0, wi 0, .nils]),
 (345, .gro 482 2 [.int .i32 120, .int .i32 120]),
 (361, .gro 482 2 [.int .i32 121, .int .i32 121]),
 (342, .gro 3 1 [wi 0]),
 (30, .row 401 [.slc 33 0 1]),
 (33, .gro 403 2 [.str ⟨#[97]⟩, wi 0]),
 (10, .row 216 [.ptr 6 0, .nils, .mp 9]),
 (6, .row 112 [.ptr 4 0, .ptr 491 0, .nils]),
 (4, .row 151 [.slc 442 0 1]),
 (442, .gro 242 2 [.str ⟨#[106, 111, 117, 114, 110, 97, 108]⟩, .slc 448 0 27]),
 (448, .gro 5 1 [wu 0, wu 0, wu 0, wu 19, wu 153, wu 222, wu 1, wu 36, wu 1, wu 1, wu 0, wu 1, wu 14, wu 1, wu 1, wu 1, wu 1, wu 97, wu 1, wu 6, wu 120, wu 40, wu 121, wu 63, wu 41, wu 36, wu 0]),
 (491, .row 151 [.slc 493 0 1]),
 (493, .gro 242 2 [.str ⟨#[106, 111, 117, 114, 110, 97, 108]⟩, .slk 448 0 27 27]),
 (9, .mp [] 0),
 (12, .row 226 [.ptr 6 0, .ptr 11 0]),
 (11, .row 306 [.slc 454 0 1]),
 (454, .gro 311 2 [wi 0, .str ⟨#[1, 1, 1, 1, 97, 1, 6, 120, 40, 121, 63, 41, 36, 0]⟩]),
 (13, .row 142 [.nils]),
 (16, .row 232 [.opq 15, .bool false]),
 (681, .gro 290 12 [.bool false, wi (-1), wi (-1), wi (-1), wi (-1), wi (-1), wi (-1), wi (-1), wi (-1), wi (-1), wi (-1), .slc 679 0 1]),
 (679, .gro 415 11 [wi 0, wi (-1), wi (-1), wi (-1), wi (-1), wi (-1), wi (-1), wi (-1), wi (-1), wi (-1), wi (-1)]),
 (1418, .gro 321 13 [wi 1, wi 0, wi 0, wi 1, wi 3, wi 2, wi 3, wi (-1), wi (-1), wi (-1), wi (-1), wi (-1), wi (-1)])],
 wi 0,
 [(10, .row 216 [.ptr 6 0, .slc 1528 0 1, .mp 9]),
 (6, .row 112 [.ptr 4 0, .ptr 491 0, .slc 1524 0 2]),
 (4, .row 151 [.slc 1516 0 2]),
 (1516, .gro 242 2 [.str ⟨#[106, 111, 117, 114, 110, 97, 108]⟩, .slc 448 0 27, .str ⟨#[108, 101, 100, 103, 101, 114]⟩, .slc 1522 0 32]),
 (1522, .gro 5 1 [wu 0, wu 0, wu 0, wu 24, wu 134, wu 241, wu 233, wu 157, wu 1, wu 1, wu 1, wu 1, wu 0, wu 1, wu 1, wu 97, wu 1, wu 1, wu 1, wu 2, wu 1, wu 4, wu 1, wu 3, wu 1, wu 4, wu 0, wu 0, wu 0, wu 0, wu 0, wu 0]),
 (1524, .gro 116 5 [wi 1, .str ⟨#[108, 101, 100, 103, 101, 114]⟩, .str ⟨#[]⟩, .nils, wi 0, wi 2, .str ⟨#[108, 101, 100, 103, 101, 114]⟩, .str ⟨#[]⟩, .slc 1519 0 32, wi 0]),
 (1519, .gro 5 1 [wu 0, wu 0, wu 0, wu 24, wu 134, wu 241, wu 233, wu 157, wu 1, wu 1, wu 1, wu 1, wu 0, wu 1, wu 1, wu 97, wu 1, wu 1, wu 1, wu 2, wu 1, wu 4, wu 1, wu 3, wu 1, wu 4, wu 0, wu 0, wu 0, wu 0, wu 0, wu 0]),
 (1528, .gro 48 15 [wi 1, wi 1, wi 0, .str ⟨#[97]⟩, wi 1, wi 1, wi 3, wi 2, wi 3, wi (-1), wi (-1), wi (-1), wi (-1), wi (-1), wi (-1)]),
 (9, .dead),
 (442, .dead)],
 1529⟩
noncomputable def awEnc:Memo:=⟨75,[.ptr 282 0,.agg [.bool true,wi 1,wi 1,wi 4,.int .u32 3716036065,wi 4,wi 4,.bool false,.bool false,wi 0,wi 0,.nils,.nils,wi 0,.nils,.nils,wi 0,.slc 1537 0 1,.nils,wi 0,.nils]],1540,
 [(282, .row 262 [.slc 281 0 1, .str ⟨#[]⟩, .slc 377 0 9, .slc 342 0 1, .nils, .nils, .ptr 30 0]),
 (281, .gro 29 2 [.str ⟨#[97]⟩, .str ⟨#[120, 40, 121, 63, 41, 36]⟩]),
 (377, .gro 344 4 [wi 4, wi 0, wi 0, .nils, wi 1, wi 0, wi 0, .slc 345 0 1, wi 4, wi 2, wi 0, .nils, wi 2, wi 4, wi 5, .nils, wi 1, wi 0, wi 0, .slc 361 0 1, wi 4, wi 3, wi 0, .nils, wi 6, wi 0, wi 0, .nils, wi 4, wi 1, wi 0, .nils, wi 7, wi 0, wi 0, .nils]),
 (345, .gro 482 2 [.int .i32 120, .int .i32 120]),
 (361, .gro 482 2 [.int .i32 121, .int .i32 121]),
 (342, .gro 3 1 [wi 0]),
 (30, .row 401 [.slc 33 0 1]),
 (33, .gro 403 2 [.str ⟨#[97]⟩, wi 0]),
 (1537, .gro 290 12 [.bool false, wi (-1), wi (-1), wi (-1), wi (-1), wi (-1), wi (-1), wi (-1), wi (-1), wi (-1), wi (-1), .slc 1535 0 1]),
 (1535, .gro 415 11 [wi 0, wi (-1), wi (-1), wi (-1), wi (-1), wi (-1), wi (-1), wi (-1), wi (-1), wi (-1), wi (-1)])],
 .str ⟨#[1, 1, 1, 1, 1, 1, 6, 169, 174, 63, 234, 106, 172, 1, 4, 4, 221, 126, 53, 225, 1, 4, 1, 4, 0, 0, 0, 0, 0, 0, 0, 0, 0, 0, 1, 1, 0, 0, 0, 0, 0, 0, 0, 0, 0, 0, 0, 1, 1, 0, 0, 0, 0, 0, 0, 0, 0, 0, 0, 0, 0, 0, 0]⟩,
 [],
 1963⟩
noncomputable def awSet:Memo:=⟨76,[.ptr 12 0,.slk 1963 0 1 1],1964,
 [(12, .row 226 [.ptr 6 0, .ptr 11 0]),
 (6, .row 112 [.ptr 4 0, .ptr 491 0, .slc 1524 0 2]),
 (4, .row 151 [.slc 1516 0 2]),
 (1516, .gro 242 2 [.str ⟨#[106, 111, 117, 114, 110, 97, 108]⟩, .slc 448 0 27, .str ⟨#[108, 101, 100, 103, 101, 114]⟩, .slc 1522 0 32]),
 (448, .gro 5 1 [wu 0, wu 0, wu 0, wu 19, wu 153, wu 222, wu 1, wu 36, wu 1, wu 1, wu 0, wu 1, wu 14, wu 1, wu 1, wu 1, wu 1, wu 97, wu 1, wu 6, wu 120, wu 40, wu 121, wu 63, wu 41, wu 36, wu 0]),
 (1522, .gro 5 1 [wu 0, wu 0, wu 0, wu 24, wu 134, wu 241, wu 233, wu 157, wu 1, wu 1, wu 1, wu 1, wu 0, wu 1, wu 1, wu 97, wu 1, wu 1, wu 1, wu 2, wu 1, wu 4, wu 1, wu 3, wu 1, wu 4, wu 0, wu 0, wu 0, wu 0, wu 0, wu 0]),
 (491, .row 151 [.slc 493 0 1]),
 (493, .gro 242 2 [.str ⟨#[106, 111, 117, 114, 110, 97, 108]⟩, .slk 448 0 27 27]),
 (1524, .gro 116 5 [wi 1, .str ⟨#[108, 101, 100, 103, 101, 114]⟩, .str ⟨#[]⟩, .nils, wi 0, wi 2, .str ⟨#[108, 101, 100, 103, 101, 114]⟩, .str ⟨#[]⟩, .slc 1519 0 32, wi 0]),
 (1519, .gro 5 1 [wu 0, wu 0, wu 0, wu 24, wu 134, wu 241, wu 233, wu 157, wu 1, wu 1, wu 1, wu 1, wu 0, wu 1, wu 1, wu 97, wu 1, wu 1, wu 1, wu 2, wu 1, wu 4, wu 1, wu 3, wu 1, wu 4, wu 0, wu 0, wu 0, wu 0, wu 0, wu 0]),
 (11, .row 306 [.slc 454 0 1]),
 (454, .gro 311 2 [wi 0, .str ⟨#[1, 1, 1, 1, 97, 1, 6, 120, 40, 121, 63, 41, 36, 0]⟩]),
 (1963, .row 190 [wi 1, .str ⟨#[1, 1, 1, 1, 1, 1, 6, 169, 174, 63, 234, 106, 172, 1, 4, 4, 221, 126, 53, 225, 1, 4, 1, 4, 0, 0, 0, 0, 0, 0, 0, 0, 0, 0, 1, 1, 0, 0, 0, 0, 0, 0, 0, 0, 0, 0, 0, 1, 1, 0, 0, 0, 0, 0, 0, 0, 0, 0, 0, 0, 0, 0, 0]⟩])],
 wi 0,
 [(6, .row 112 [.ptr 4 0, .ptr 491 0, .slc 2009 0 5]),
 (1516, .gro 242 2 [.str ⟨#[106, 111, 117, 114, 110, 97, 108]⟩, .slc 2007 0 104, .str ⟨#[108, 101, 100, 103, 101, 114]⟩, .slc 1522 0 32]),
 (2007, .gro 5 1 [wu 0, wu 0, wu 0, wu 19, wu 153, wu 222, wu 1, wu 36, wu 1, wu 1, wu 0, wu 1, wu 14, wu 1, wu 1, wu 1, wu 1, wu 97, wu 1, wu 6, wu 120, wu 40, wu 121, wu 63, wu 41, wu 36, wu 0, wu 0, wu 0, wu 0, wu 69, wu 203, wu 100, wu 16, wu 66, wu 1, wu 1, wu 1, wu 1, wu 1, wu 63, wu 1, wu 1, wu 1, wu 1, wu 1, wu 1, wu 6, wu 169, wu 174, wu 63, wu 234, wu 106, wu 172, wu 1, wu 4, wu 4, wu 221, wu 126, wu 53, wu 225, wu 1, wu 4, wu 1, wu 4, wu 0, wu 0, wu 0, wu 0, wu 0, wu 0, wu 0, wu 0, wu 0, wu 0, wu 1, wu 1, wu 0, wu 0, wu 0, wu 0, wu 0, wu 0, wu 0, wu 0, wu 0, wu 0, wu 0, wu 1, wu 1, wu 0, wu 0, wu 0, wu 0, wu 0, wu 0, wu 0, wu 0, wu 0, wu 0, wu 0, wu 0, wu 0, wu 0]),
 (448, .dead),
 (2009, .gro 116 5 [wi 1, .str ⟨#[108, 101, 100, 103, 101, 114]⟩, .str ⟨#[]⟩, .nils, wi 0, wi 2, .str ⟨#[108, 101, 100, 103, 101, 114]⟩, .str ⟨#[]⟩, .slc 1519 0 32, wi 0, wi 2, .str ⟨#[106, 111, 117, 114, 110, 97, 108]⟩, .str ⟨#[]⟩, .slc 1994 0 32, wi 0, wi 2, .str ⟨#[106, 111, 117, 114, 110, 97, 108]⟩, .str ⟨#[]⟩, .slc 1994 32 32, wi 0, wi 2, .str ⟨#[106, 111, 117, 114, 110, 97, 108]⟩, .str ⟨#[]⟩, .slc 1994 64 13, wi 0]),
 (1994, .gro 5 1 [wu 0, wu 0, wu 0, wu 69, wu 203, wu 100, wu 16, wu 66, wu 1, wu 1, wu 1, wu 1, wu 1, wu 63, wu 1, wu 1, wu 1, wu 1, wu 1, wu 1, wu 6, wu 169, wu 174, wu 63, wu 234, wu 106, wu 172, wu 1, wu 4, wu 4, wu 221, wu 126, wu 53, wu 225, wu 1, wu 4, wu 1, wu 4, wu 0, wu 0, wu 0, wu 0, wu 0, wu 0, wu 0, wu 0, wu 0, wu 0, wu 1, wu 1, wu 0, wu 0, wu 0, wu 0, wu 0, wu 0, wu 0, wu 0, wu 0, wu 0, wu 0, wu 1, wu 1, wu 0, wu 0, wu 0, wu 0, wu 0, wu 0, wu 0, wu 0, wu 0, wu 0, wu 0, wu 0, wu 0, wu 0]),
 (11, .row 306 [.slc 2014 0 2]),
 (2014, .gro 311 2 [wi 0, .str ⟨#[1, 1, 1, 1, 97, 1, 6, 120, 40, 121, 63, 41, 36, 0]⟩, wi 1, .str ⟨#[1, 1, 1, 1, 1, 1, 6, 169, 174, 63, 234, 106, 172, 1, 4, 4, 221, 126, 53, 225, 1, 4, 1, 4, 0, 0, 0, 0, 0, 0, 0, 0, 0, 0, 1, 1, 0, 0, 0, 0, 0, 0, 0, 0, 0, 0, 0, 1, 1, 0, 0, 0, 0, 0, 0, 0, 0, 0, 0, 0, 0, 0, 0]⟩]),
 (1524, .dead),
 (454, .dead)],
 2016⟩
noncomputable def awLoad:Memo:=⟨8,[.ptr 7 0,.agg [wi 7,wi 0,.str ⟨#[]⟩,.str ⟨#[]⟩,.nils,.slk 17 0 1 1,.str ⟨#[]⟩]],22,
 [(7, .row 67 [.ptr 3 0, .ptr 6 0, .ptr 14 0]),
 (3, .row 107 [.ptr 1 0, .ptr 2 0]),
 (1, .row 145 [.nils]),
 (2, .row 148 [.nils]),
 (6, .row 112 [.ptr 4 0, .ptr 5 0, .nils]),
 (4, .row 151 [.nils]),
 (5, .row 151 [.nils]),
 (14, .row 98 [.ptr 3 0, .nilp, .ptr 10 0, .ptr 12 0, .ptr 13 0, .ptr 16 0]),
 (10, .row 216 [.ptr 6 0, .nils, .mp 9]),
 (9, .mp [] 0),
 (12, .row 226 [.ptr 6 0, .ptr 11 0]),
 (11, .row 306 [.nils]),
 (13, .row 142 [.nils]),
 (16, .row 232 [.opq 15, .bool false]),
 (17, .row 29 [.str ⟨#[97]⟩, .str ⟨#[120, 40, 121, 63, 41, 36]⟩])],
 .agg [wi 0, wi 0, .nils, .nils],
 [(6, .row 112 [.ptr 4 0, .ptr 24 0, .slc 450 0 2]),
 (4, .row 151 [.slc 442 0 1]),
 (442, .gro 242 2 [.str ⟨#[106, 111, 117, 114, 110, 97, 108]⟩, .slc 448 0 27]),
 (448, .gro 5 1 [wu 0, wu 0, wu 0, wu 19, wu 153, wu 222, wu 1, wu 36, wu 1, wu 1, wu 0, wu 1, wu 14, wu 1, wu 1, wu 1, wu 1, wu 97, wu 1, wu 6, wu 120, wu 40, wu 121, wu 63, wu 41, wu 36, wu 0]),
 (24, .row 151 [.nils]),
 (450, .gro 116 5 [wi 1, .str ⟨#[106, 111, 117, 114, 110, 97, 108]⟩, .str ⟨#[]⟩, .nils, wi 0, wi 2, .str ⟨#[106, 111, 117, 114, 110, 97, 108]⟩, .str ⟨#[]⟩, .slc 445 0 27, wi 0]),
 (445, .gro 5 1 [wu 0, wu 0, wu 0, wu 19, wu 153, wu 222, wu 1, wu 36, wu 1, wu 1, wu 0, wu 1, wu 14, wu 1, wu 1, wu 1, wu 1, wu 97, wu 1, wu 6, wu 120, wu 40, wu 121, wu 63, wu 41, wu 36, wu 0]),
 (14, .row 98 [.ptr 3 0, .ptr 282 0, .ptr 10 0, .ptr 12 0, .ptr 13 0, .ptr 16 0]),
 (282, .row 262 [.slc 281 0 1, .str ⟨#[]⟩, .slc 377 0 9, .slc 342 0 1, .nils, .nils, .ptr 30 0]),
 (281, .gro 29 2 [.str ⟨#[97]⟩, .str ⟨#[120, 40, 121, 63, 41, 36]⟩]),
 (377, .gro 344 4 [wi 4, wi 0, wi 0, .nils, wi 1, wi 0, wi 0, .slc 345 0 1, wi 4, wi 2, wi 0, .nils, wi 2, wi 4, wi 5, .nils, wi 1, wi 0, wi 0, .slc 361 0 1, wi 4, wi 3, wi 0, .nils, wi 6, wi 0, wi 0, .nils, wi 4, wi 1, wi 0, .nils, wi 7, wi 0, wi 0, .nils]),
 (345, .gro 482 2 [.int .i32 120, .int .i32 120]),
 (361, .gro 482 2 [.int .i32 121, .int .i32 121]),
 (342, .gro 3 1 [wi 0]),
 (30, .row 401 [.slc 33 0 1]),
 (33, .gro 403 2 [.str ⟨#[97]⟩, wi 0]),
 (11, .row 306 [.slc 454 0 1]),
 (454, .gro 311 2 [wi 0, .str ⟨#[1, 1, 1, 1, 97, 1, 6, 120, 40, 121, 63, 41, 36, 0]⟩])],
 456⟩
noncomputable def awPoll:Memo:=⟨8,[.ptr 7 0,.agg [wi 6,wi 0,.str ⟨#[]⟩,.str ⟨#[]⟩,.nils,.nils,.str ⟨#[]⟩]],489,
 [(7, .row 67 [.ptr 3 0, .ptr 6 0, .ptr 14 0]),
 (3, .row 107 [.ptr 1 0, .ptr 2 0]),
 (1, .row 145 [.slc 471 0 1]),
 (471, .gro 171 3 [wi 1, .str ⟨#[108, 111, 103]⟩, .slc 484 0 4]),
 (484, .gro 5 1 [wu 97, wu 120, wu 121, wu 10]),
 (2, .row 148 [.nils]),
 (6, .row 112 [.ptr 4 0, .ptr 477 0, .nils]),
 (4, .row 151 [.slc 442 0 1]),
 (442, .gro 242 2 [.str ⟨#[106, 111, 117, 114, 110, 97, 108]⟩, .slc 448 0 27]),
 (448, .gro 5 1 [wu 0, wu 0, wu 0, wu 19, wu 153, wu 222, wu 1, wu 36, wu 1, wu 1, wu 0, wu 1, wu 14, wu 1, wu 1, wu 1, wu 1, wu 97, wu 1, wu 6, wu 120, wu 40, wu 121, wu 63, wu 41, wu 36, wu 0]),
 (477, .row 151 [.slc 479 0 1]),
 (479, .gro 242 2 [.str ⟨#[106, 111, 117, 114, 110, 97, 108]⟩, .slk 448 0 27 27]),
 (14, .row 98 [.ptr 3 0, .ptr 282 0, .ptr 10 0, .ptr 12 0, .ptr 13 0, .ptr 16 0]),
 (282, .row 262 [.slc 281 0 1, .str ⟨#[]⟩, .slc 377 0 9, .slc 342 0 1, .nils, .nils, .ptr 30 0]),
 (281, .gro 29 2 [.str ⟨#[97]⟩, .str ⟨#[120, 40, 121, 63, 41, 36]⟩]),
 (377, .gro 344 4 [wi 4, wi 0, wi 0, .nils, wi 1, wi 0, wi 0, .slc 345 0 1, wi 4, wi 2, wi 0, .nils, wi 2, wi 4, wi 5, .nils, wi 1, wi 0, wi 0, .slc 361 0 1, wi 4, wi 3, wi 0, .nils, wi 6, wi 0, wi 0, .nils, wi 4, wi 1, wi 0, .nils, wi 7, wi 0, wi 0, .nils]),
 (345, .gro 482 2 [.int .i32 120, .int .i32 120]),
 (361, .gro 482 2 [.int .i32 121, .int .i32 121]),
 (342, .gro 3 1 [wi 0]),
 (30, .row 401 [.slc 33 0 1]),
 (33, .gro 403 2 [.str ⟨#[97]⟩, wi 0]),
 (10, .row 216 [.ptr 6 0, .nils, .mp 9]),
 (9, .mp [] 0),
 (12, .row 226 [.ptr 6 0, .ptr 11 0]),
 (11, .row 306 [.slc 454 0 1]),
 (454, .gro 311 2 [wi 0, .str ⟨#[1, 1, 1, 1, 97, 1, 6, 120, 40, 121, 63, 41, 36, 0]⟩]),
 (13, .row 142 [.nils]),
 (16, .row 232 [.opq 15, .bool false])],
 .agg [wi 0, wi 0, .nils, .nils],
 [(2, .row 148 [.slc 511 0 1]),
 (511, .gro 389 2 [wi 1, wi 8]),
 (6, .row 112 [.ptr 4 0, .ptr 491 0, .slc 2009 0 5]),
 (4, .row 151 [.slc 1516 0 2]),
 (1516, .gro 242 2 [.str ⟨#[106, 111, 117, 114, 110, 97, 108]⟩, .slc 2007 0 104, .str ⟨#[108, 101, 100, 103, 101, 114]⟩, .slc 1522 0 32]),
 (2007, .gro 5 1 [wu 0, wu 0, wu 0, wu 19, wu 153, wu 222, wu 1, wu 36, wu 1, wu 1, wu 0, wu 1, wu 14, wu 1, wu 1, wu 1, wu 1, wu 97, wu 1, wu 6, wu 120, wu 40, wu 121, wu 63, wu 41, wu 36, wu 0, wu 0, wu 0, wu 0, wu 69, wu 203, wu 100, wu 16, wu 66, wu 1, wu 1, wu 1, wu 1, wu 1, wu 63, wu 1, wu 1, wu 1, wu 1, wu 1, wu 1, wu 6, wu 169, wu 174, wu 63, wu 234, wu 106, wu 172, wu 1, wu 4, wu 4, wu 221, wu 126, wu 53, wu 225, wu 1, wu 4, wu 1, wu 4, wu 0, wu 0, wu 0, wu 0, wu 0, wu 0, wu 0, wu 0, wu 0, wu 0, wu 1, wu 1, wu 0, wu 0, wu 0, wu 0, wu 0, wu 0, wu 0, wu 0, wu 0, wu 0, wu 0, wu 1, wu 1, wu 0, wu 0, wu 0, wu 0, wu 0, wu 0, wu 0, wu 0, wu 0, wu 0, wu 0, wu 0, wu 0, wu 0]),
 (1522, .gro 5 1 [wu 0, wu 0, wu 0, wu 24, wu 134, wu 241, wu 233, wu 157, wu 1, wu 1, wu 1, wu 1, wu 0, wu 1, wu 1, wu 97, wu 1, wu 1, wu 1, wu 2, wu 1, wu 4, wu 1, wu 3, wu 1, wu 4, wu 0, wu 0, wu 0, wu 0, wu 0, wu 0]),
 (491, .row 151 [.slc 493 0 1]),
 (493, .gro 242 2 [.str ⟨#[106, 111, 117, 114, 110, 97, 108]⟩, .slk 448 0 27 27]),
 (448, .dead),
 (2009, .gro 116 5 [wi 1, .str ⟨#[108, 101, 100, 103, 101, 114]⟩, .str ⟨#[]⟩, .nils, wi 0, wi 2, .str ⟨#[108, 101, 100, 103, 101, 114]⟩, .str ⟨#[]⟩, .slc 1519 0 32, wi 0, wi 2, .str ⟨#[106, 111, 117, 114, 110, 97, 108]⟩, .str ⟨#[]⟩, .slc 1994 0 32, wi 0, wi 2, .str ⟨#[106, 111, 117, 114, 110, 97, 108]⟩, .str ⟨#[]⟩, .slc 1994 32 32, wi 0, wi 2, .str ⟨#[106, 111, 117, 114, 110, 97, 108]⟩, .str ⟨#[]⟩, .slc 1994 64 13, wi 0]),
 (1519, .gro 5 1 [wu 0, wu 0, wu 0, wu 24, wu 134, wu 241, wu 233, wu 157, wu 1, wu 1, wu 1, wu 1, wu 0, wu 1, wu 1, wu 97, wu 1, wu 1, wu 1, wu 2, wu 1, wu 4, wu 1, wu 3, wu 1, wu 4, wu 0, wu 0, wu 0, wu 0, wu 0, wu 0]),
 (1994, .gro 5 1 [wu 0, wu 0, wu 0, wu 69, wu 203, wu 100, wu 16, wu 66, wu 1, wu 1, wu 1, wu 1, wu 1, wu 63, wu 1, wu 1, wu 1, wu 1, wu 1, wu 1, wu 6, wu 169, wu 174, wu 63, wu 234, wu 106, wu 172, wu 1, wu 4, wu 4, wu 221, wu 126, wu 53, wu 225, wu 1, wu 4, wu 1, wu 4, wu 0, wu 0, wu 0, wu 0, wu 0, wu 0, wu 0, wu 0, wu 0, wu 0, wu 1, wu 1, wu 0, wu 0, wu 0, wu 0, wu 0, wu 0, wu 0, wu 0, wu 0, wu 0, wu 0, wu 1, wu 1, wu 0, wu 0, wu 0, wu 0, wu 0, wu 0, wu 0, wu 0, wu 0, wu 0, wu 0, wu 0, wu 0, wu 0]),
 (10, .row 216 [.ptr 6 0, .slc 1528 0 1, .mp 9]),
 (1528, .gro 48 15 [wi 1, wi 1, wi 0, .str ⟨#[97]⟩, wi 1, wi 1, wi 3, wi 2, wi 3, wi (-1), wi (-1), wi (-1), wi (-1), wi (-1), wi (-1)]),
 (9, .dead),
 (11, .row 306 [.slc 2014 0 2]),
 (2014, .gro 311 2 [wi 0, .str ⟨#[1, 1, 1, 1, 97, 1, 6, 120, 40, 121, 63, 41, 36, 0]⟩, wi 1, .str ⟨#[1, 1, 1, 1, 1, 1, 6, 169, 174, 63, 234, 106, 172, 1, 4, 4, 221, 126, 53, 225, 1, 4, 1, 4, 0, 0, 0, 0, 0, 0, 0, 0, 0, 0, 1, 1, 0, 0, 0, 0, 0, 0, 0, 0, 0, 0, 0, 1, 1, 0, 0, 0, 0, 0, 0, 0, 0, 0, 0, 0, 0, 0, 0]⟩]),
 (13, .row 142 [.slc 2018 0 1]),
 (2018, .gro 139 22 [wi 1, .bool true, wi 1, wi 1, wi 4, .int .u32 3716036065, wi 4, wi 4, .bool false, .bool false, wi 0, wi 0, .nils, .nils, wi 0, .nils, .nils, wi 0, .slc 1537 0 1, .nils, wi 0, .nils]),
 (1537, .gro 290 12 [.bool false, wi (-1), wi (-1), wi (-1), wi (-1), wi (-1), wi (-1), wi (-1), wi (-1), wi (-1), wi (-1), .slc 1535 0 1]),
 (1535, .gro 415 11 [wi 0, wi (-1), wi (-1), wi (-1), wi (-1), wi (-1), wi (-1), wi (-1), wi (-1), wi (-1), wi (-1)]),
 (442, .dead),
 (454, .dead)],
 2019⟩
end Go.Eng
namespace Go.Eng
set_option maxRecDepth 1000000
theorem awOf_e:chkMemo (EB []) 300 awOf=true:=by kernel_rfl
theorem awFeed_e:chkMemo (EB []) 300 awFeed=true:=by kernel_rfl
theorem awAdd_e:chkMemo (EB []) 300 awAdd=true:=by kernel_rfl
end Go.Eng
namespace Go.Eng
set_option maxRecDepth 1000000
theorem awEnc_e:chkMemo (EB []) 300 awEnc=true:=by kernel_rfl
theorem awSet_e:chkMemo (EB []) 300 awSet=true:=by kernel_rfl
theorem awLoad_e:chkMemo (EB []) 300 awLoad=true:=by kernel_rfl
end Go.Eng
namespace Go.Eng
set_option maxRecDepth 1000000
theorem awPoll_e:chkMemo (EBh [] (memoOf [awOf,awFeed,awAdd,awEnc,awSet])) 300 awPoll=true:=by kernel_rfl
theorem awake_e:callP (EBh [] (memoOf [awLoad,awPoll])) 400 12 [] [] 1 (.bool true) []=true:=by kernel_rfl
end Go.Eng
namespace Go.Proofs.YthgnlfikneipiaaGreat
open Go.ChangeShapes Go.WideShapes Go.ChangeAt Go.RowKit Go.Deep
theorem cells_flags:Tryz.checked.prog.cellsOf 4=1:=by kernel_rfl
set_option maxRecDepth 100000 in
theorem open_flags {H:Type} {enc:TypeId×Value→H} {w:World} {b0:Nat} {v:Value} {d:DataW H} {p:List MemPlace} (hval:Value.okWide Tryz.prog w .any b0 23 v) (h:DataW.Trod enc Tryz.prog w 0 (fun _=>true) true 23 v d p) :
  ∃ l:List Bool,Rd Value.bool w v l:=by
 obtain ⟨l,h1,-⟩:=open_rd Value.bool (fun _=>True) Tryz.underlying23 cells_flags (fun n v y hh=>by
  obtain ⟨x,hx,-⟩:=DataW.trod_bool Tryz.underlying4 hh
  exact ⟨x,by simpa using hx,trivial⟩) hval h
 exact ⟨l,h1⟩
end Go.Proofs.YthgnlfikneipiaaGreat
namespace Go.Proofs.YthgnlfikneipiaaGreat
open Go.RowKit
theorem bl_irr:∀ a:List UInt8,Op.bytesLess a a=false
 | []=>rfl
 | x::a=>by simp [Op.bytesLess,bl_irr a]
theorem bl_cons (x y:UInt8) (a b:List UInt8):Op.bytesLess (x::a) (y::b)=true↔x.toNat < y.toNat∨(x=y∧Op.bytesLess a b=true):=by
 simp [Op.bytesLess,UInt8.lt_iff_toNat_lt]
theorem bl_trans:∀ a b c:List UInt8,Op.bytesLess a b=true→Op.bytesLess b c=true→Op.bytesLess a c=true
 | [],[],c,h,_=>by simp [Op.bytesLess] at h
 | [],_::_,[],_,h=>by simp [Op.bytesLess] at h
 | [],_::_,_::_,_,_=>by simp [Op.bytesLess]
 | _::_,[],_,h,_=>by simp [Op.bytesLess] at h
 | _::_,_::_,[],_,h=>by simp [Op.bytesLess] at h
 | x::a,y::b,z::c,h,k=>by
  rw [bl_cons] at h k ⊢
  rcases h with h|⟨rfl,h⟩
  ·rcases k with k|⟨rfl,k⟩
   ·exact .inl (by omega)
   ·exact .inl h
  ·rcases k with k|⟨rfl,k⟩
   ·exact .inl k
   ·exact .inr ⟨rfl,bl_trans a b c h k⟩
theorem bl_tot:∀ a b:List UInt8,Op.bytesLess a b=false→Op.bytesLess b a=false→a=b
 | [],[],_,_=>rfl
 | [],_::_,h,_=>by simp [Op.bytesLess] at h
 | _::_,[],_,h=>by simp [Op.bytesLess] at h
 | x::a,y::b,h,k=>by
  have h1:¬ (x.toNat < y.toNat∨(x=y∧Op.bytesLess a b=true)):=fun q=>by rw [(bl_cons x y a b).2 q] at h;exact absurd h (by simp)
  have k1:¬ (y.toNat < x.toNat∨(y=x∧Op.bytesLess b a=true)):=fun q=>by rw [(bl_cons y x b a).2 q] at k;exact absurd k (by simp)
  have e:x=y:=UInt8.toNat_inj.1 (by omega)
  subst e
  have h2:Op.bytesLess a b=false:=by
   cases hq:Op.bytesLess a b with
   | false=>rfl
   | true=>exact absurd (.inr ⟨rfl,hq⟩) h1
  have k2:Op.bytesLess b a=false:=by
   cases hq:Op.bytesLess b a with
   | false=>rfl
   | true=>exact absurd (.inr ⟨rfl,hq⟩) k1
  rw [bl_tot a b h2 k2]
abbrev strLt (a b:ByteArray):Bool:=Op.bytesLess a.toList b.toList
theorem strOrd:KOrd strLt:=⟨fun a=>bl_irr _,fun a b c=>bl_trans _ _ _,fun a b h k=>str_inj _ _ (bl_tot _ _ h k)⟩
instance:DecidableEq ByteArray:=fun a b=>decidable_of_iff (a.toList=b.toList) ⟨str_inj a b,fun h=>by rw [h]⟩
end Go.Proofs.YthgnlfikneipiaaGreat
namespace Go.Proofs.YthgnlfikneipiaaGreat
open Go.RowKit
abbrev DF:=List (ByteArray×List UInt8)
def dTotal (fs:DF):Nat:=(fs.map fun p=>p.2.length).sum
structure Wr where
 kd:Int
 nm:ByteArray
 tn:ByteArray
 p:List UInt8
 n:Int
instance:Inhabited Wr:=⟨⟨0,⟨#[]⟩,⟨#[]⟩,[],0⟩⟩
abbrev inD (fs:DF) (s:ByteArray):Bool:=isIn strLt fs s
def dGet (fs:DF) (s:ByteArray):List UInt8×Bool:=tGet strLt [] fs s
theorem dGet_in (fs:DF) (s:ByteArray):(dGet fs s).2=inD fs s:=by unfold dGet tGet inD;cases isIn strLt fs s<;>rfl
theorem dGet_no {fs:DF} {s:ByteArray} (h:inD fs s=false):dGet fs s=([],false):=by unfold dGet tGet;rw [show isIn strLt fs s=_ from h];rfl
def wApply (x:Wr) (fs:DF):DF :=
 if x.kd=1 then tSet strLt fs x.nm [] else
 if x.kd=2 then tSet strLt fs x.nm ((dGet fs x.nm).1++x.p) else
 if x.kd=3 then (if inD fs x.nm then tSet strLt (tDel strLt fs x.nm) x.tn (dGet fs x.nm).1 else fs) else
 if x.kd=4 then tSet strLt fs x.nm ((dGet fs x.nm).1.take x.n.toNat) else
 if x.kd=5 then tDel strLt fs x.nm else fs
def wAll (fs:DF) (l:List Wr):DF:=l.foldl (fun f x=>wApply x f) fs
structure WrOk (x:Wr) (fs:DF):Prop where
 len:fs.length≤5000
 kd:1≤x.kd∧x.kd≤5
 put:x.kd=2→x.p≠[]∧(dGet fs x.nm).1.length+x.p.length≤16777216
 cut:x.kd=4→0≤x.n∧x.n≤(dGet fs x.nm).1.length
 tot:dTotal (wApply x fs)≤16777216
 has:x.kd≠1→inD fs x.nm=true
 new:x.kd=1→inD fs x.nm=false
def LogOk:DF→List Wr→Prop
 | _,[]=>True
 | fs,x::l=>WrOk x fs∧LogOk (wApply x fs) l
theorem LogOk.snoc:∀ {fs:DF} {l:List Wr} {x:Wr},LogOk fs l→WrOk x (wAll fs l)→LogOk fs (l++[x])
 | fs,[],x,_,h=>⟨h,trivial⟩
 | fs,y::l,x,h,k=>⟨h.1,LogOk.snoc h.2 k⟩
theorem wAll_snoc (fs:DF) (l:List Wr) (x:Wr):wAll fs (l++[x])=wApply x (wAll fs l):=by unfold wAll;rw [List.foldl_append];rfl
theorem take_succ_nth {α:Type} [Inhabited α] (l:List α) (k:Nat) (h:k < l.length):l.take (k+1)=l.take k++[nth l k]:=by rw [List.take_add_one,nth_get _ _ h,List.getElem?_eq_getElem h];rfl
theorem wApply_rising {fs:DF} (h:Rising strLt fs) (x:Wr):Rising strLt (wApply x fs):=by
 unfold wApply
 split
 ·exact h.set_ strOrd _ _
 split
 ·exact h.set_ strOrd _ _
 split
 ·split
  ·exact (h.del strOrd _).set_ strOrd _ _
  ·exact h
 split
 ·exact h.set_ strOrd _ _
 split
 ·exact h.del strOrd _
 ·exact h
theorem total_app (a b:DF):dTotal (a++b)=dTotal a+dTotal b:=by unfold dTotal;rw [List.map_append,List.sum_append]
theorem total_cons (p:ByteArray×List UInt8) (b:DF):dTotal (p::b)=p.2.length+dTotal b:=by unfold dTotal;rw [List.map_cons,List.sum_cons]
theorem split_at (fs:DF) (i:Nat) (h:i < fs.length):fs.take i++nth fs i::fs.drop (i+1)=fs:=by
 rw [nth_get _ _ h,List.getElem_cons_drop,List.take_append_drop]
theorem total_take (fs:DF) (i:Nat) (h:i < fs.length):dTotal (fs.take (i+1))=dTotal (fs.take i)+(nth fs i).2.length:=by
 rw [take_succ_nth fs i h,total_app,total_cons];rfl
theorem total_le (fs:DF) (i:Nat):dTotal (fs.take i)≤dTotal fs:=by
 have:=total_app (fs.take i) (fs.drop i)
 rw [List.take_append_drop] at this;omega
theorem in_at {fs:DF} {s:ByteArray} (h:inD fs s=true):below strLt fs s < fs.length∧(nth fs (below strLt fs s)).1=s:=by unfold inD isIn at h;exact of_decide_eq_true h
theorem dGet_yes {fs:DF} {s:ByteArray} (h:inD fs s=true):dGet fs s=((nth fs (below strLt fs s)).2,true):=by unfold dGet tGet;rw [show isIn strLt fs s=_ from h];rfl
theorem total_set_in {fs:DF} {s:ByteArray} (v:List UInt8) (h:inD fs s=true):dTotal (tSet strLt fs s v)+(dGet fs s).1.length=dTotal fs+v.length:=by
 obtain ⟨h1,h2⟩:=in_at h
 have h3:=split_at fs _ h1
 have h4:dTotal fs=dTotal (fs.take (below strLt fs s))+((nth fs (below strLt fs s)).2.length+dTotal (fs.drop (below strLt fs s+1))):=by
  conv=>lhs;rw [← h3]
  rw [total_app,total_cons]
 unfold tSet
 rw [show isIn strLt fs s=true from h,if_pos rfl,total_app,total_cons,dGet_yes h,h4]
 show dTotal _+(v.length+_)+(nth fs (below strLt fs s)).2.length=_
 omega
theorem total_set_no {fs:DF} {s:ByteArray} (v:List UInt8) (h:inD fs s=false):dTotal (tSet strLt fs s v)=dTotal fs+v.length:=by
 have h4:=total_app (fs.take (below strLt fs s)) (fs.drop (below strLt fs s))
 rw [List.take_append_drop] at h4
 unfold tSet
 rw [show isIn strLt fs s=false from h,if_neg (by simp),total_app,total_cons,Nat.add_zero,h4]
 show _+(v.length+_)=_
 omega
theorem total_del {fs:DF} {s:ByteArray} (h:inD fs s=true):dTotal (tDel strLt fs s)+(dGet fs s).1.length=dTotal fs:=by
 obtain ⟨h1,h2⟩:=in_at h
 have h3:=split_at fs _ h1
 have h4:dTotal fs=dTotal (fs.take (below strLt fs s))+((nth fs (below strLt fs s)).2.length+dTotal (fs.drop (below strLt fs s+1))):=by
  conv=>lhs;rw [← h3]
  rw [total_app,total_cons]
 unfold tDel
 rw [show isIn strLt fs s=true from h,if_pos rfl,total_app,dGet_yes h,h4]
 show dTotal _+_+(nth fs (below strLt fs s)).2.length=_
 omega
theorem total_set_le {fs:DF} (s:ByteArray) (v:List UInt8):dTotal (tSet strLt fs s v)≤dTotal fs+v.length:=by
 cases h:inD fs s with
 | true=>have:=total_set_in v h;omega
 | false=>have:=total_set_no v h;omega
theorem get_le_total (fs:DF) (s:ByteArray):(dGet fs s).1.length≤dTotal fs:=by
 cases h:inD fs s with
 | true=>have:=total_del h;omega
 | false=>rw [dGet_no h];simp
theorem set_len_in {fs:DF} {s:ByteArray} (v:List UInt8) (h:inD fs s=true):(tSet strLt fs s v).length=fs.length:=by
 rw [tSet_in fs s v h,List.length_set]
theorem below_set {fs:DF} (hr:Rising strLt fs) (s:ByteArray) (v:List UInt8):below strLt (tSet strLt fs s v) s=below strLt fs s:=by
 have hle:=below_le (lt:=strLt) fs s
 have htk:(fs.take (below strLt fs s)).length=below strLt fs s:=by rw [List.length_take];omega
 refine below_eq _ _ _ (by unfold tSet;simp;omega) (fun j hj=>?_) (fun _=>?_)
 ·unfold tSet
  rw [nth_append_left _ _ _ (by rw [htk];exact hj),nth_take _ _ _ hj]
  exact below_lt fs s j hj
 ·unfold tSet
  rw [nth_append_right _ _ _ (by rw [htk];exact Nat.le_refl _),htk,Nat.sub_self,nth_cons_zero]
  exact strOrd.irr s
theorem nth_set_at (fs:DF) (s:ByteArray) (v:List UInt8):nth (tSet strLt fs s v) (below strLt fs s)=(s,v):=by
 have hle:=below_le (lt:=strLt) fs s
 have htk:(fs.take (below strLt fs s)).length=below strLt fs s:=by rw [List.length_take];omega
 unfold tSet
 rw [nth_append_right _ _ _ (by rw [htk];exact Nat.le_refl _),htk,Nat.sub_self,nth_cons_zero]
theorem in_set {fs:DF} (hr:Rising strLt fs) (s:ByteArray) (v:List UInt8):inD (tSet strLt fs s v) s=true:=by
 have hle:=below_le (lt:=strLt) fs s
 unfold inD isIn
 rw [below_set hr,nth_set_at]
 exact decide_eq_true ⟨by unfold tSet;simp;omega,rfl⟩
theorem get_set {fs:DF} (hr:Rising strLt fs) (s:ByteArray) (v:List UInt8):dGet (tSet strLt fs s v) s=(v,true):=by
 rw [dGet_yes (in_set hr s v),below_set hr,nth_set_at]
structure DS where
 now:DF
 mark:DF
 log:List Wr
def dDo (x:Wr) (s:DS):DS:=⟨wApply x s.now,s.mark,s.log++[x]⟩
structure DOk (s:DS):Prop where
 ris:Rising strLt s.now
 rim:Rising strLt s.mark
 eq:s.now=wAll s.mark s.log
 log:LogOk s.mark s.log
 tot:dTotal s.now≤16777216
 totm:dTotal s.mark≤16777216
theorem DOk.do_ {s:DS} (h:DOk s) {x:Wr} (hx:WrOk x s.now):DOk (dDo x s) :=
 ⟨wApply_rising h.ris x,h.rim,by unfold dDo;dsimp only;rw [wAll_snoc,← h.eq],h.log.snoc (by rw [← h.eq];exact hx),hx.tot,h.totm⟩
abbrev wMake (nm:ByteArray):Wr:=⟨1,nm,⟨#[]⟩,[],0⟩
abbrev wPut (nm:ByteArray) (p:List UInt8):Wr:=⟨2,nm,⟨#[]⟩,p,0⟩
abbrev wRen (nm tn:ByteArray):Wr:=⟨3,nm,tn,[],0⟩
abbrev wRem (nm:ByteArray):Wr:=⟨5,nm,⟨#[]⟩,[],0⟩
def chunks (p:List UInt8):List (List UInt8):=(List.range ((p.length+31) / 32)).map fun i=>(p.drop (32*i)).take 32
def dPut (nm:ByteArray) (s:DS) (l:List (List UInt8)):DS:=l.foldl (fun s c=>dDo (wPut nm c) s) s
theorem chunks_len (p:List UInt8):(chunks p).length=(p.length+31) / 32:=by unfold chunks;simp
theorem chunks_nth (p:List UInt8) (i:Nat) (h:i < (chunks p).length):nth (chunks p) i=(p.drop (32*i)).take 32:=by
 unfold chunks at h ⊢
 rw [nth_get _ _ h];simp
theorem dPut_snoc (nm:ByteArray) (s:DS) (l:List (List UInt8)) (c:List UInt8):dPut nm s (l++[c])=dDo (wPut nm c) (dPut nm s l):=by unfold dPut;rw [List.foldl_append];rfl
theorem dPut_take (nm:ByteArray) (s:DS) (p:List UInt8) (i:Nat) (h:i < (chunks p).length):dPut nm s ((chunks p).take (i+1))=dDo (wPut nm ((p.drop (32*i)).take 32)) (dPut nm s ((chunks p).take i)):=by
 rw [take_succ_nth _ _ h,dPut_snoc,chunks_nth p i h]
theorem put_now (nm:ByteArray) (c:List UInt8) (s:DS):(dDo (wPut nm c) s).now=tSet strLt s.now nm ((dGet s.now nm).1++c):=rfl
structure PutOk (nm:ByteArray) (s0 s:DS) (n:Nat):Prop where
 ok:DOk s
 has:inD s.now nm=true
 len:s.now.length=s0.now.length
 tot:dTotal s.now=dTotal s0.now+n
 log:s.log.length≤s0.log.length+n
 mark:s.mark=s0.mark
theorem PutOk.step {nm:ByteArray} {s0 s:DS} {n:Nat} (h:PutOk nm s0 s n) (c:List UInt8) (hc:c≠[]) (hl:s0.now.length≤5000) (ht:dTotal s0.now+(n+c.length)≤16777216):WrOk (wPut nm c) s.now∧PutOk nm s0 (dDo (wPut nm c) s) (n+c.length):=by
 have h1:=total_set_in ((dGet s.now nm).1++c) h.has
 have h2:=get_le_total s.now nm
 rw [List.length_append] at h1
 have h3:=h.tot
 have hcl:0 < c.length:=List.length_pos_iff.2 hc
 have hw:WrOk (wPut nm c) s.now:=⟨by rw [h.len];exact hl,⟨by show (1:Int)≤2;decide,by show (2:Int)≤5;decide⟩,fun _=>⟨hc,by show (dGet s.now nm).1.length+c.length≤_;omega⟩,fun q=>absurd q (show ¬ (2:Int)=4 by decide),by show dTotal (tSet strLt s.now nm ((dGet s.now nm).1++c))≤_;omega,fun _=>h.has,fun q=>absurd q (show ¬ (2:Int)=1 by decide)⟩
 refine ⟨hw,h.ok.do_ hw,in_set h.ok.ris _ _,by rw [put_now,set_len_in _ h.has];exact h.len,by rw [put_now];omega,?_,h.mark⟩
 have:=h.log
 unfold dDo;simp;omega
theorem PutOk.all {nm:ByteArray} {s0:DS} (p:List UInt8) (h:DOk s0) (hin:inD s0.now nm=true) (hl:s0.now.length≤5000) (ht:dTotal s0.now+p.length≤16777216):∀ i,i≤(chunks p).length→PutOk nm s0 (dPut nm s0 ((chunks p).take i)) (min (32*i) p.length)
 | 0,_=>⟨h,hin,rfl,by simp [dPut],by simp [dPut],rfl⟩
 | i+1,hi=>by
  have hlen:=chunks_len p
  rw [dPut_take nm s0 p i (by omega)]
  have ih:=PutOk.all p h hin hl ht i (by omega)
  have hlt:32*i < p.length:=by omega
  have hcl:((p.drop (32*i)).take 32).length=min 32 (p.length-32*i):=by rw [List.length_take,List.length_drop]
  have:=(ih.step ((p.drop (32*i)).take 32) (fun q=>by rw [q] at hcl;simp at hcl;omega) hl (by rw [hcl];omega)).2
  rw [hcl] at this
  rw [show min (32*(i+1)) p.length=min (32*i) p.length+min 32 (p.length-32*i) by omega]
  exact this
def dAppend (s:DS) (nm:ByteArray) (p:List UInt8):Int×DS :=
 if nameOk nm then (if 16777216 < dTotal s.now+p.length then (9,s) else (0,dPut nm (if inD s.now nm then s else dDo (wMake nm) s) (chunks p))) else (14,s)
def dRename (s:DS) (nm tn:ByteArray):Int×DS:=if nameOk tn then (if inD s.now nm then (0,dDo (wRen nm tn) s) else (7,s)) else (14,s)
def dRemove (s:DS) (nm:ByteArray):Int×DS:=if inD s.now nm then (0,dDo (wRem nm) s) else (7,s)
def dMark (s:DS):DS:=⟨s.now,s.now,[]⟩
theorem DOk.make {s:DS} (h:DOk s) (nm:ByteArray) (hn:inD s.now nm=false) (hl:s.now.length≤5000):WrOk (wMake nm) s.now∧DOk (dDo (wMake nm) s)∧inD (dDo (wMake nm) s).now nm=true∧dTotal (dDo (wMake nm) s).now=dTotal s.now∧(dDo (wMake nm) s).now.length≤s.now.length+1:=by
 have ht:=total_set_no (s:=nm) [] hn
 have hw:WrOk (wMake nm) s.now:=⟨hl,⟨by show (1:Int)≤1;decide,by show (1:Int)≤5;decide⟩,fun q=>absurd q (show ¬ (1:Int)=2 by decide),fun q=>absurd q (show ¬ (1:Int)=4 by decide),by show dTotal (tSet strLt s.now nm [])≤_;have:=h.tot;simp at ht;omega,fun q=>absurd (show (1:Int)=1 from rfl) q,fun _=>hn⟩
 have he:(dDo (wMake nm) s).now=tSet strLt s.now nm []:=rfl
 refine ⟨hw,h.do_ hw,?_,?_,?_⟩
 ·rw [he];exact in_set h.ris _ _
 ·rw [he,ht];rfl
 ·rw [he];exact tSet_len _ _ _
theorem DOk.ren {s:DS} (h:DOk s) (nm tn:ByteArray) (hn:inD s.now nm=true) (hl:s.now.length≤5000):WrOk (wRen nm tn) s.now∧DOk (dDo (wRen nm tn) s):=by
 suffices hw:WrOk (wRen nm tn) s.now from ⟨hw,h.do_ hw⟩
 refine ⟨hl,⟨by show (1:Int)≤3;decide,by show (3:Int)≤5;decide⟩,fun q=>absurd q (show ¬ (3:Int)=2 by decide),fun q=>absurd q (show ¬ (3:Int)=4 by decide),?_,fun _=>hn,fun q=>absurd q (show ¬ (3:Int)=1 by decide)⟩
 show dTotal (if inD s.now nm=true then tSet strLt (tDel strLt s.now nm) tn (dGet s.now nm).1 else s.now)≤_
 rw [if_pos hn]
 have h1:=total_set_le (fs:=tDel strLt s.now nm) tn (dGet s.now nm).1
 have h2:=total_del hn
 have:=h.tot
 omega
theorem DOk.rem {s:DS} (h:DOk s) (nm:ByteArray) (hn:inD s.now nm=true) (hl:s.now.length≤5000):WrOk (wRem nm) s.now∧DOk (dDo (wRem nm) s):=by
 suffices hw:WrOk (wRem nm) s.now from ⟨hw,h.do_ hw⟩
 refine ⟨hl,⟨by show (1:Int)≤5;decide,by show (5:Int)≤5;decide⟩,fun q=>absurd q (show ¬ (5:Int)=2 by decide),fun q=>absurd q (show ¬ (5:Int)=4 by decide),?_,fun _=>hn,fun q=>absurd q (show ¬ (5:Int)=1 by decide)⟩
 show dTotal (tDel strLt s.now nm)≤_
 have h1:=total_del hn
 have:=h.tot
 omega
theorem DOk.mark {s:DS} (h:DOk s):DOk (dMark s):=⟨h.ris,h.ris,rfl,trivial,h.tot,h.tot⟩
theorem DOk.zero:DOk ⟨[],[],[]⟩:=⟨Rising.nil,Rising.nil,rfl,trivial,by simp [dTotal],by simp [dTotal]⟩
theorem DOk.append {s:DS} (h:DOk s) (nm:ByteArray) (p:List UInt8) (hl:s.now.length≤4999):DOk (dAppend s nm p).2:=by
 unfold dAppend
 split
 ·split
  ·exact h
  ·rename_i ht
   dsimp only
   cases hin:inD s.now nm with
   | true =>
    rw [if_pos rfl]
    have:=(PutOk.all p h hin (by omega) (by omega) (chunks p).length (Nat.le_refl _)).ok
    rwa [List.take_length] at this
   | false =>
    rw [if_neg (by simp)]
    obtain ⟨h1,h2,h3,h4,h5⟩:=h.make nm hin (by omega)
    have:=(PutOk.all p h2 h3 (by omega) (by omega) (chunks p).length (Nat.le_refl _)).ok
    rwa [List.take_length] at this
 ·exact h
end Go.Proofs.YthgnlfikneipiaaGreat
namespace Go.Proofs.YthgnlfikneipiaaGreat
open Go.RowKit
structure Grows (s s':DS) (n:Nat):Prop where
 now:s'.now.length≤s.now.length+1
 log:s'.log.length≤s.log.length+n+1
 mark:s'.mark=s.mark
theorem Grows.refl (s:DS) (n:Nat):Grows s s n:=⟨by omega,by omega,rfl⟩
theorem grows_append {s:DS} (h:DOk s) (nm:ByteArray) (p:List UInt8) (hl:s.now.length≤4999):Grows s (dAppend s nm p).2 p.length:=by
 unfold dAppend
 split
 ·split
  ·exact Grows.refl _ _
  ·rename_i ht
   dsimp only
   cases hin:inD s.now nm with
   | true =>
    rw [if_pos rfl]
    have h1:=PutOk.all p h hin (by omega) (by omega) (chunks p).length (Nat.le_refl _)
    rw [List.take_length] at h1
    exact ⟨by rw [h1.len];omega,by have:=h1.log;omega,h1.mark⟩
   | false =>
    rw [if_neg (by simp)]
    obtain ⟨k1,k2,k3,k4,k5⟩:=h.make nm hin (by omega)
    have h1:=PutOk.all p k2 k3 (by omega) (by omega) (chunks p).length (Nat.le_refl _)
    rw [List.take_length] at h1
    have hlog:(dDo (wMake nm) s).log.length=s.log.length+1:=by unfold dDo;simp
    exact ⟨by rw [h1.len];exact k5,by have:=h1.log;omega,h1.mark⟩
 ·exact Grows.refl _ _
end Go.Proofs.YthgnlfikneipiaaGreat
namespace Go.Proofs.YthgnlfikneipiaaGreat
open Go.RowKit
abbrev ltI:Int→Int→Bool:=fun a b=>decide (a < b)
abbrev JS:=List (Int×ByteArray)
abbrev s0:ByteArray:=⟨#[]⟩
abbrev nmJ:ByteArray:=⟨#[106,111,117,114,110,97,108]⟩
abbrev nmN:ByteArray:=⟨#[106,111,117,114,110,97,108,46,110,101,119]⟩
theorem nmJ_ok:nameOk nmJ=true:=by unfold nameOk;decide
theorem nmN_ok:nameOk nmN=true:=by unfold nameOk;decide
theorem nmJN:nmJ≠nmN:=fun h=>absurd (congrArg ByteArray.size h) (by decide)
def jHold1 (t:JS) (c:Ch):JS:=if c.2=s0 then tDel ltI t c.1 else tSet ltI t c.1 c.2
def jAll (t:JS) (l:List Ch):JS:=l.foldl jHold1 t
theorem jAll_app (t:JS) (l m:List Ch):jAll t (l++m)=jAll (jAll t l) m:=by unfold jAll;rw [List.foldl_append]
def jLay:JS→Int×DS→Int×DS
 | [],q=>q
 | r::t,q=>if q.1=0 then jLay t (dAppend q.2 nmN (putF [] (encChs [r]))) else q
def jAnew (t:JS) (s:DS):DS :=
 if (jLay t (dAppend s nmN [])).1≠0 then (dRemove (jLay t (dAppend s nmN [])).2 nmN).2 else (dRename (jLay t (dAppend s nmN [])).2 nmN nmJ).2
def chBad (l:List Ch):Bool:=l.any fun c=>decide (c.1 < 0∨40 < c.1)
def jSet (t:JS) (s:DS) (l:List Ch):Int×JS×DS :=
 if l.length < 1∨41 < l.length then (1,t,s)
 else if chBad l=true then (1,t,s)
 else if 262144 < (encChs l).length then (2,t,s)
 else if (dAppend s nmJ (putF [] (encChs l))).1≠0 then ((dAppend s nmJ (putF [] (encChs l))).1,t,(dAppend s nmJ (putF [] (encChs l))).2)
 else (0,jAll t l,if 262144 < (dGet (dAppend s nmJ (putF [] (encChs l))).2.now nmJ).1.length then jAnew (jAll t l) (dAppend s nmJ (putF [] (encChs l))).2 else (dAppend s nmJ (putF [] (encChs l))).2)
structure JT (t:JS):Prop where
 ris:Rising ltI t
 ks:∀ p∈t,ChOk p
theorem JT.nil:JT []:=⟨Rising.nil,by simp⟩
theorem JT.hold1 {t:JS} (h:JT t) (c:Ch) (hc:ChOk c):JT (jHold1 t c):=by
 unfold jHold1
 split
 ·exact ⟨h.ris.del intOrd _,fun p hp=>h.ks p (tDel_mem _ _ _ hp)⟩
 ·refine ⟨h.ris.set_ intOrd _ _,fun p hp=>?_⟩
  rcases tSet_mem _ _ _ _ hp with rfl|q
  ·exact hc
  ·exact h.ks p q
theorem rise_ge:∀ (t:JS),Rising ltI t→(∀ p∈t,0≤p.1)→∀ i,i < t.length→(i:Int)≤(nth t i).1:=by
 intro t hr hk i
 induction i with
 | zero=>intro hi;exact hk _ (nth_mem 0 hi)
 | succ i ih =>
  intro hi
  have h1:=ih (by omega)
  have h2:decide ((nth t i).1 < (nth t (i+1)).1)=true:=hr i (i+1) (by omega) hi
  have h3:=of_decide_eq_true h2
  omega
theorem JT.len {t:JS} (h:JT t):t.length≤41:=by
 rcases Nat.lt_or_ge 41 t.length with q|q
 ·have h1:=rise_ge t h.ris (fun p hp=>(h.ks p hp).lo) 41 q
  have h2:=(h.ks _ (nth_mem 41 q)).hi
  omega
 ·exact q
end Go.Proofs.YthgnlfikneipiaaGreat
namespace Go.Proofs.YthgnlfikneipiaaGreat
open Go.RowKit
theorem encChs_ge (l:List Ch):1≤(encChs l).length:=by
 have:=encNum_ge l.length
 unfold encChs;rw [List.length_append];omega
structure ChsOk (l:List Ch):Prop where
 ok:∀ c∈l,ChOk c
 lo:1≤l.length
 hi:l.length≤41
 sz:(encChs l).length≤262144
theorem ChsOk.fit {l:List Ch} (h:ChsOk l):Fit (encChs l):=⟨encChs_ge l,h.sz⟩
def jGet (t:JS) (k:Int):ByteArray:=(tGet ltI s0 t k).1
theorem encChs_one (p:Ch):encChs [p]=encNum 1++encCh p:=by unfold encChs;simp
theorem encNum_mono {m n:Nat} (h:m≤n):nb m≤nb n:=by
 rcases Nat.lt_or_ge (nb n) (nb m) with q|q
 ·have h1:=(nb_lt (nb n) m).1 q
  have h2:¬ nb n < nb n:=Nat.lt_irrefl _
  have h3:0 < n / 256 ^ nb n:=Nat.lt_of_lt_of_le h1 (Nat.div_le_div_right h)
  exact absurd ((nb_lt (nb n) n).2 h3) h2
 ·exact q
theorem one_le {l:List Ch} {p:Ch} (hp:p∈l):(encChs [p]).length≤(encChs l).length:=by
 obtain ⟨a,b,rfl⟩:=List.append_of_mem hp
 rw [encChs_one]
 unfold encChs
 have h1:nb 1≤nb (a++p::b).length:=encNum_mono (by simp;omega)
 obtain ⟨N,hN⟩:∃ N,(a++p::b).length=N:=⟨_,rfl⟩
 rw [hN] at h1 ⊢
 simp only [List.length_append,encNum_len,List.flatMap_append,List.flatMap_cons]
 omega
def jRows (t:JS):List UInt8:=t.flatMap fun p=>frameOf (encChs [p])
end Go.Proofs.YthgnlfikneipiaaGreat
namespace Go.Proofs.YthgnlfikneipiaaGreat
open Go.RowKit
abbrev rcIS (p:Int×ByteArray):List Value:=[iv p.1,sv p.2]
theorem rcIS_len:∀ p,(rcIS p).length=2:=fun _=>rfl
theorem infoRowIS:(Tryz.prog.info? 311).map (fun i=>(i.zero,i.size,i.bytes))=some (some (.agg #[.int .i64 0,.string ⟨#[]⟩]),2,24):=by kernel_rfl
abbrev ltIS:Int→Int→Bool:=fun a b=>decide (a < b)
structure TBIS (base:Nat) (w:World) (g:Nat) (lv:Value) (l:List (Int×ByteArray)):Prop where
 tab:Blk w g 306 [lv]
 rows:OwnN 2 rcIS base 311 w lv l
 gb:base≤g
section
variable {base : Nat} {g : Nat} {lv : Value} {l : List (Int × ByteArray)} {w w' : World}
theorem TBIS.upd (h:TBIS base w g lv l) {S:List Nat} (hu:Upd S w w') (hs:∀ x∈g::blk lv,x∉S):TBIS base w' g lv l :=
 ⟨h.tab.upd hu (hs g (by simp)),h.rows.upd hu (fun x hx=>hs x (by simp [hx])),h.gb⟩
theorem TBIS.upd0 (h:TBIS base w g lv l) (hu:Upd [] w w'):TBIS base w' g lv l:=h.upd hu (by simp)
theorem TBIS.g_lv (h:TBIS base w g lv l):g∉blk lv:=fun e=>by
 obtain ⟨C,f,hq⟩:=h.rows.typ g e
 exact h.tab.ne g hq (by decide) rfl
theorem TBIS.lt (h:TBIS base w g lv l):∀ x∈g::blk lv,base≤x∧x < w.heap.size:=by
 intro x hx
 rcases List.mem_cons.1 hx with rfl|hx
 ·exact ⟨h.gb,h.tab.lt⟩
 ·exact h.rows.ge x hx
theorem tLenIS_any (w:World) (hs:TBIS base w g lv l) :
  Calls Tryz.prog 192 #[.pointer (some ⟨g,0,none⟩)] w fun e w'=>e = .returned (.int .i64 (l.length:Int))∧w=w':=by
 obtain ⟨ao,co,rfl,-⟩:=hs.rows.rd rcIS_len
 have c0:w.cell? ⟨g,0,none⟩=some (.slice ao l.length co):=hs.tab.cell 0
 go_enter Tryz.func192,Tryz.ntmps192
 go_wp2
 go_ret
 exact ⟨rfl,rfl⟩
theorem tNewIS_any (w:World) :
  Calls Tryz.prog 93 #[] w fun e w'=>e = .returned (.pointer (some ⟨w.heap.size,0,none⟩))∧TBIS w.heap.size w' w.heap.size (.slice none 0 0) []∧Upd [] w w':=by
 go_enter Tryz.func93,Tryz.ntmps93
 go_wp2
 go_ret
 exact ⟨rfl,⟨Blk.new w _ [.slice none 0 0],OwnN.nil _ _ _,Nat.le_refl _⟩,(Upd.refl [] w).alloc _⟩
set_option maxRecDepth 20000 in
set_option maxHeartbeats 1000000 in
theorem tFindIS_any (w:World) (k:Int) (hs:TBIS base w g lv l) (hr:Rising ltIS l) (hlen:l.length≤100000) (hk:I64 k) :
  Calls Tryz.prog 154 #[.pointer (some ⟨g,0,none⟩),iv k] w fun e w'=>e = .returned (.tuple #[.int .i64 (below ltIS l k:Int),.bool (isIn ltIS l k)])∧Upd [] w w':=by
 have HS:=Lib.hid hs
 have HR:=Lib.hid hr
 obtain ⟨ao,co,rfl,hlc,hcm,hcell⟩:=hs.rows.rd rcIS_len
 have c0:w.cell? ⟨g,0,none⟩=some (.slice ao l.length co):=hs.tab.cell 0
 have HC:=Lib.hid hcell
 clear hs hr hcell hcm
 go_enter Tryz.func154,Tryz.ntmps154
 go_wp2_with fail
 go_quiet (fail)
 have HU:=Lib.hid ((Upd.refl [] w).drewN nq)
 generalize w.drewN nq=v at *
 replace c0:=HU.out.cell c0 (by simp)
 go_wp2_with fail
 go_loop [6,7] (fun lo hi=>∃ a b:Nat,lo = .int .i64 a∧hi = .int .i64 b∧a≤b∧b≤l.length∧Hid (∀ j,j < a→ltIS (nth l j).1 k=true)∧Hid (∀ j,b≤j→j < l.length→ltIS (nth l j).1 k=false)) (fun lo hi=>(intOf hi).toNat-(intOf lo).toNat)
 case atStart=>exact ⟨0,l.length,rfl,rfl,Nat.zero_le _,Nat.le_refl _,fun j h=>absurd h (by omega),fun j h1 h2=>absurd h1 (by omega)⟩
 case round =>
  obtain ⟨a,b,rfl,rfl,hab,hbl,hlo,hhi⟩:=hrel
  by_cases hlt:a < b
  ·have hmid:(a+b) / 2 < l.length:=by omega
   obtain ⟨bl,off,rfl,hc⟩:=HC.out (by intro h;simp [h] at hmid)
   have d0:v.cell? ⟨bl,off+(a+b) / 2*2,none⟩=some (iv (nth l ((a+b) / 2)).1):=HU.out.cell (hc _ hmid 0 (by omega)) (by simp)
   clear hc
   cases hcmp:ltIS (nth l ((a+b) / 2)).1 k with
   | true =>
    have HLO:Hid (∀ j,j < (a+b) / 2+1→ltIS (nth l j).1 k=true):=fun j hj=>HR.out.mono intOrd k j ((a+b) / 2) (by omega) hmid hcmp
    generalize (nth l ((a+b) / 2)).1=m at *
    have hc1:m < k:=by simpa using hcmp
    clear hcmp
    go_wp2
    go_round
    case rel=>exact ⟨(a+b) / 2+1,b,by go_num,rfl,by omega,hbl,HLO,hhi⟩
    case measure=>simp [intOf];omega
   | false =>
    have HHI:Hid (∀ j,(a+b) / 2≤j→j < l.length→ltIS (nth l j).1 k=false):=fun j h1 h2=>by
     cases hq:ltIS (nth l j).1 k with
     | false=>rfl
     | true=>exact absurd ((HR.out.mono intOrd k _ j h1 h2 hq).symm.trans hcmp) (by simp)
    generalize (nth l ((a+b) / 2)).1=m at *
    have hc1:¬ m < k:=by simpa using hcmp
    clear hcmp
    go_wp2
    go_round
    case rel=>exact ⟨a,(a+b) / 2,rfl,by go_num,by omega,by omega,hlo,HHI⟩
    case measure=>simp [intOf];omega
  ·obtain rfl:a=b:=by omega
   have hbel:below ltIS l k=a:=below_eq l k a hbl hlo.out (fun h=>hhi.out a (Nat.le_refl _) h)
   have HIN:Hid (isIn ltIS l k=decide (a < l.length∧(nth l a).1=k)):=by unfold Hid isIn;rw [hbel]
   have HBEL:=Lib.hid hbel
   clear hbel
   by_cases hal:a < l.length
   ·obtain ⟨bl,off,rfl,hc⟩:=HC.out (by intro h;simp [h] at hal)
    have d0:v.cell? ⟨bl,off+a*2,none⟩=some (iv (nth l a).1):=HU.out.cell (hc _ hal 0 (by omega)) (by simp)
    have HIN2:Hid (isIn ltIS l k=decide ((nth l a).1=k)):=by unfold Hid;rw [HIN.out];simp [hal]
    clear hc
    generalize (nth l a).1=m at *
    have q1:(0:Int)≤a:=by omega
    have q2:(a:Int) < l.length:=by omega
    by_cases he:m=k
    ·have t1:(m==k)=true:=by simpa using he
     have HF:Hid (isIn ltIS l k=true):=by unfold Hid;rw [HIN2.out];simp [he]
     clear he
     go_wp2_with fail
     go_quiet (fail)
     go_wp2_with fail
     go_ret2
     exact ⟨by rw [HBEL.out,HF.out];rfl,by first|exact HU.out.drewN _|exact HU.out.drew⟩
    ·have t1:(m==k)=false:=by simpa using he
     have HF:Hid (isIn ltIS l k=false):=by unfold Hid;rw [HIN2.out];simp [he]
     clear he
     go_wp2_with fail
     go_quiet (fail)
     go_wp2_with fail
     go_ret2
     exact ⟨by rw [HBEL.out,HF.out];rfl,by first|exact HU.out.drewN _|exact HU.out.drew⟩
   ·have HF:Hid (isIn ltIS l k=false):=by unfold Hid;rw [HIN.out];simp [hal]
    have hd:decide (a < l.length)=false:=by simpa using hal
    go_wp2_with fail
    go_quiet (fail)
    go_wp2_with fail
    go_ret2
    exact ⟨by rw [HBEL.out,HF.out];rfl,by first|exact HU.out.drewN _|exact HU.out.drew⟩
end
end Go.Proofs.YthgnlfikneipiaaGreat
namespace Go.Proofs.YthgnlfikneipiaaGreat
open Go.RowKit
theorem rcIS_one:∀ p,∀ u∈rcIS p,u.oneCell'=true:=by intro p u hu;simp [rcIS] at hu;rcases hu with rfl|rfl<;>rfl
theorem undIS:Tryz.prog.underlying 304=some (.slice 311):=by kernel_rfl
section
variable {base : Nat} {g : Nat} {lv : Value} {l : List (Int × ByteArray)} {w w' : World}
set_option maxRecDepth 20000 in
set_option maxHeartbeats 1000000 in
theorem slDelIS (w:World) (v:Value) (i:Nat) (hs:OwnN 2 rcIS base 311 w v l) (hi:i < l.length) (hlen:l.length≤100000) :
  Calls Tryz.prog 209 #[v,.int .i64 (i:Int),.int .i64 ((i:Int)+1)] w fun e w'=>∃ v',e = .returned v'∧OwnN 2 rcIS base 311 w' v' (l.take i++l.drop (i+1))∧Upd (blk v) w w'∧blk v'=blk v:=by
 rcases hs.2 with ⟨-,h0⟩|⟨g,cap,cur0,rfl,-⟩
 ·omega
 obtain ⟨-,hb,hc,hm,cur,hg,hsz,hp⟩:=hs.open_ rcIS_len
 obtain ⟨m,hlm⟩:∃ m,l.length=i+1+m:=⟨l.length-(i+1),by omega⟩
 have hcl:((l.drop (i+1)).flatMap rcIS).length=m*2:=by rw [flatMap_len rcIS_len,List.length_drop,hlm];congr 1;omega
 have htl:((l.take i).flatMap rcIS).length=i*2:=by rw [flatMap_len rcIS_len,List.length_take];congr 1;omega
 have htl':((l.take (i+1)).flatMap rcIS).length=(i+1)*2:=by rw [flatMap_len rcIS_len,List.length_take];congr 1;omega
 have hp1:Piece cur 0 ((l.take i).flatMap rcIS):=by rw [flat_split rcIS l i] at hp;exact hp.left
 have hp2:Piece cur ((i+1)*2) ((l.drop (i+1)).flatMap rcIS):=by rw [flat_split rcIS l (i+1)] at hp;have:=hp.right;rwa [htl',Nat.zero_add] at this
 generalize hcs:(l.drop (i+1)).flatMap rcIS=cs at *
 have hcap:(i+1+m)*2≤cur.size:=by rw [hsz];exact Nat.mul_le_mul_right 2 (by omega)
 have hfit:i*2+cs.length≤cur.size:=by rw [hcl];omega
 obtain ⟨A,hA,hsrc⟩:∃ A:Addr,(if cap=i+1 then some (⟨g,0,none⟩:Addr) else some ⟨g,(i+1)*2,none⟩)=some A∧∀ j u,cs[j]?=some u→w.cell? (A.add j)=some u:=by
  by_cases h:cap=i+1
  ·refine ⟨⟨g,0,none⟩,by simp [h],fun j u hu=>?_⟩
   have h0:cs.length=0:=by rw [hcl];omega
   rw [List.length_eq_zero_iff.1 h0] at hu
   simp at hu
  ·refine ⟨⟨g,(i+1)*2,none⟩,by simp [h],fun j u hu=>?_⟩
   rw [add_none];exact hp2.cell hg j u hu
 have h1c:∀ u∈cs,u.oneCell'=true:=by rw [← hcs];exact mem_flat_one rcIS_one _
 have HA:=Lib.hid (fun ty c=>run_app_lay (P:=Tryz.prog) (ty:=ty) (n:=i) (m:=m) (cap:=cap) (c:=c) (sz:=2) undIS (by kernel_rfl) w.drew hg hcl hsrc h1c (by omega) hfit)
 have hz:=lay_sz cur (i*2) cs hfit
 have k1:=hp1.stay (i*2) cs hfit (.inl (by omega))
 have k2:=Piece.lay cur (i*2) cs hfit
 generalize lay_ cur (i*2) cs=cur1 at *
 have hg1:(w.drew.setRow g cur1).heap[g]?=some (.cells cur1 311 (0,0)):=setRow_heap w.drew g cur cur1 _ _ hg
 have hfit1:(i+m)*2+1*2≤cur1.size:=by rw [hz];omega
 have q7:i+1+m-(i+m)=1:=by omega
 have hB:=(fun ty c=>run_clear_lay (P:=Tryz.prog) (ty:=ty) (c:=c) (n:=1) undIS infoRowIS rfl (by intro u hu;simp [Value.cells] at hu;rcases hu with rfl|rfl<;>rfl) (w.drew.setRow g cur1) (by omega) hg1 hfit1)
 have HB:Hid (∀ ty c,(Builtin.clear_ #[304] ty #[.slice (some ⟨g,(i+m)*2,none⟩) (i+1+m-(i+m)) c]).run Tryz.prog (w.drew.setRow g cur1) = .ok (.tuple #[]) ((w.drew.setRow g cur1).setRow g (lay_ cur1 ((i+m)*2) (Builtin.zeroCells (Value.agg #[.int .i64 0,.string ⟨#[]⟩]).cells 1).toList))):=fun ty c=>by rw [q7];exact hB ty c
 clear hB
 have HK:=Lib.hid (show OwnN 2 rcIS base 311 ((w.drew.setRow g cur1).setRow g (lay_ cur1 ((i+m)*2) (Builtin.zeroCells (Value.agg #[.int .i64 0,.string ⟨#[]⟩]).cells 1).toList)) (.slice (some ⟨g,0,none⟩) (i+m) cap) (l.take i++l.drop (i+1)) from by
  have hzl:(Builtin.zeroCells (Value.agg #[.int .i64 0,.string ⟨#[]⟩]).cells 1).toList.length=2:=by rw [Array.length_toList,size_zeroCells];rfl
  have hf2:(i+m)*2+(Builtin.zeroCells (Value.agg #[.int .i64 0,.string ⟨#[]⟩]).cells 1).toList.length≤cur1.size:=by rw [hzl];omega
  refine OwnN.of_piece rcIS_len _ (by simp;omega) hb (by simp;omega) hm (setRow_heap _ g cur1 _ _ _ hg1) (by rw [lay_sz _ _ _ hf2,hz,hsz]) ?_
  rw [List.flatMap_append,hcs]
  refine (k1.stay _ _ hf2 (.inl (by omega))).app ?_
  rw [htl,Nat.zero_add (i*2)]
  exact k2.stay _ _ hf2 (.inl (by omega)))
 clear hs hp hp1 hp2 hsz hg hcl htl htl' hsrc h1c hfit hz k1 k2 hg1 hfit1 hcs hcap
 rw [hlm] at hlen hc ⊢
 have hwr:IntKind.i64.wrap ((i:Int)+1)=(i:Int)+1:=by rw [IntKind.wrap_i64];omega
 have q1:(0:Int)≤(i:Int)+1:=by omega
 have q2:(i:Int)+1≤(i:Int)+1+(m:Int):=by omega
 have q3:((i:Int)+1).toNat=i+1:=by omega
 have q4:i+1+m-(i+1)=m:=by omega
 have q5:i≤cap:=by omega
 have q6:¬ (cap=i+m):=by omega
 have q8:i+m≤i+1+m:=by omega
 have q9:(i:Int)+(m:Int)≤(i:Int)+1+(m:Int):=by omega
 go_enter Tryz.func209,Tryz.ntmps209
 go_wp2_with fail
 go_region_law (refine step_app_eq rfl (.tmp 22) (.tmp 25) 304 rfl (.slice (some ⟨g,0,none⟩) i cap) (.slice (some A) m (cap-(i+1))) (by simp [Act.eval,Act.put]) (by simp [Act.eval,Act.put]) (HA.out _ _) ?_)
 go_wp2_with (with_reducible refine wpList_clear_eq rfl (.tmp 31) 304 rfl (.slice (some ⟨g,(i+m)*2,none⟩) (i+1+m-(i+m)) (cap-(i+m))) rfl (HB.out _ _) ?_)
 go_ret
 exact ⟨_,rfl,HK.out,((Upd.refl [g] w).drew.setRow g _ (.inl (by simp))).setRow g _ (.inl (by simp)),rfl⟩
set_option maxRecDepth 20000 in
set_option maxHeartbeats 400000 in
theorem tDelIS_no (w:World) (k:Int) (hs:TBIS base w g lv l) (hr:Rising ltIS l) (hlen:l.length≤100000) (hk:I64 k) (hn:isIn ltIS l k=false) :
  Calls Tryz.prog 152 #[.pointer (some ⟨g,0,none⟩),iv k] w fun e w'=>e = .returned (.bool false)∧Upd [] w w':=by
 have hc:=tFindIS_any w k hs hr hlen hk
 rw [hn] at hc
 have HC:=Lib.hid hc
 clear hs hr hlen hk hc hn
 go_enter Tryz.func152,Tryz.ntmps152
 go_wp2_with fail
 with_reducible refine HC.out.mono ?_
 rintro e w1 ⟨rfl,hu1⟩
 go_wp2_with fail
 go_ret
 exact ⟨rfl,hu1⟩
set_option maxRecDepth 20000 in
set_option maxHeartbeats 400000 in
theorem tDelIS_yes (w:World) (k:Int) (hs:TBIS base w g lv l) (hr:Rising ltIS l) (hlen:l.length≤100000) (hk:I64 k) (hn:isIn ltIS l k=true) :
  Calls Tryz.prog 152 #[.pointer (some ⟨g,0,none⟩),iv k] w fun e w'=>e = .returned (.bool true)∧∃ lv',TBIS base w' g lv' (l.take (below ltIS l k)++l.drop (below ltIS l k+1))∧Upd (g::blk lv) w w'∧blk lv'=blk lv:=by
 have hc:=tFindIS_any w k hs hr hlen hk
 rw [hn] at hc
 have HC:=Lib.hid hc
 have HS:=Lib.hid hs
 unfold isIn at hn
 have hlt:=(of_decide_eq_true hn).1
 have HD:=Lib.hid (fun w1 (h:Upd [] w w1)=>slDelIS w1 lv (below ltIS l k) (hs.rows.upd h (by simp)) hlt hlen)
 have D0:=Lib.hid (show w.cell? ⟨g,0,none⟩=some lv from hs.tab.cell 0)
 obtain ⟨ao,n,co,rfl⟩:=hs.rows.slice_
 clear hs hr hk hc hn
 generalize below ltIS l k=i at *
 have hwr:IntKind.i64.wrap ((i:Int)+1)=(i:Int)+1:=by rw [IntKind.wrap_i64];omega
 go_enter Tryz.func152,Tryz.ntmps152
 go_wp2_with fail
 with_reducible refine HC.out.mono ?_
 rintro e w1 ⟨rfl,hu1⟩
 have d0:=hu1.cell D0.out (by simp)
 have HU1:=Lib.hid hu1
 go_wp2_with fail
 with_reducible refine (HD.out w1 HU1.out).mono ?_
 rintro e w2 ⟨v2,rfl,ho2,hu2,hb2⟩
 have hgl:=HS.out.g_lv
 have f0:w2.frozen? ⟨g,0,none⟩=false:=((HS.out.tab.upd HU1.out (by simp)).upd hu2 hgl).frozen 0
 have d2:w2.cell? ⟨g,0,none⟩=some (.slice ao n co):=hu2.cell d0 hgl
 obtain ⟨ao2,n2,co2,rfl⟩:=ho2.slice_
 have HT:=Lib.hid (show TBIS base (w2.setCell ⟨g,0,none⟩ (.slice ao2 n2 co2)) g (.slice ao2 n2 co2) (l.take i++l.drop (i+1)) from
  ⟨by simpa using ((HS.out.tab.upd HU1.out (by simp)).upd hu2 hgl).set_ 0 (.slice ao2 n2 co2),ho2.upd ((Upd.refl [g] _).setCell _ _ (.inl (by simp))) (by rw [hb2];intro x hx;simp;rintro rfl;exact hgl hx),HS.out.gb⟩)
 have HU2:=Lib.hid (show Upd (g::blk (.slice ao n co)) w (w2.setCell ⟨g,0,none⟩ (.slice ao2 n2 co2)) from (HU1.out.trans (T:=g::blk (.slice ao n co)) hu2 (by simp) (fun x hx => .inl (by simp [hx]))).setCell _ _ (.inl (by simp)))
 clear ho2 hu1 hu2 hgl
 go_wp2_with fail
 go_ret
 exact ⟨rfl,_,HT.out,HU2.out,hb2⟩
end
section
variable {base : Nat} {g : Nat} {lv : Value} {l : List (Int × ByteArray)} {w w' : World}
theorem tDelIS_any (w:World) (k:Int) (hs:TBIS base w g lv l) (hr:Rising ltIS l) (hlen:l.length≤100000) (hk:I64 k) :
  Calls Tryz.prog 152 #[.pointer (some ⟨g,0,none⟩),iv k] w fun e w'=>e = .returned (.bool (isIn ltIS l k))∧∃ lv',TBIS base w' g lv' (tDel ltIS l k)∧Upd (g::blk lv) w w'∧(∀ x∈blk lv',x∈blk lv∨w.heap.size≤x):=by
 cases hn:isIn ltIS l k with
 | false =>
  refine (tDelIS_no w k hs hr hlen hk hn).mono ?_
  rintro e w' ⟨rfl,hu⟩
  exact ⟨rfl,lv,by unfold tDel;rw [hn];exact hs.upd0 hu,hu.mono (by simp),fun x hx => .inl hx⟩
 | true =>
  refine (tDelIS_yes w k hs hr hlen hk hn).mono ?_
  rintro e w' ⟨rfl,v',ht,hu,hb⟩
  exact ⟨rfl,v',by unfold tDel;rw [hn];exact ht,hu,fun x hx => .inl (by rw [← hb];exact hx)⟩
end
end Go.Proofs.YthgnlfikneipiaaGreat
namespace Go.Proofs.YthgnlfikneipiaaGreat
open Go.RowKit
section
variable {base : Nat} {g : Nat} {lv : Value} {l : List (Int × ByteArray)} {w w' : World}
set_option maxRecDepth 20000 in
set_option maxHeartbeats 400000 in
theorem tGetIS_no (w:World) (k:Int) (hs:TBIS base w g lv l) (hr:Rising ltIS l) (hlen:l.length≤100000) (hk:I64 k) (hn:isIn ltIS l k=false) :
  Calls Tryz.prog 96 #[.pointer (some ⟨g,0,none⟩),iv k] w fun e w'=>e = .returned (.tuple #[.string ⟨#[]⟩,.bool false])∧Upd [] w w':=by
 have hc:=tFindIS_any w k hs hr hlen hk
 rw [hn] at hc
 have HC:=Lib.hid hc
 clear hs hr hlen hk hc hn
 go_enter Tryz.func96,Tryz.ntmps96
 go_wp2_with fail
 refine HC.out.mono ?_
 rintro e w1 ⟨rfl,hu1⟩
 go_wp2_with fail
 go_ret2
 exact ⟨rfl,hu1⟩
set_option maxRecDepth 20000 in
set_option maxHeartbeats 400000 in
theorem tGetIS_ok (w:World) (k:Int) (hs:TBIS base w g lv l) (hr:Rising ltIS l) (hlen:l.length≤100000) (hk:I64 k) (hn:isIn ltIS l k=true) :
  Calls Tryz.prog 96 #[.pointer (some ⟨g,0,none⟩),iv k] w fun e w'=>e = .returned (.tuple #[sv (nth l (below ltIS l k)).2,.bool true])∧Upd [] w w':=by
 have hc:=tFindIS_any w k hs hr hlen hk
 rw [hn] at hc
 have HC:=Lib.hid hc
 unfold isIn at hn
 have hlt:=(of_decide_eq_true hn).1
 obtain ⟨ao,co,rfl,hlc,hcm,hcell⟩:=hs.rows.rd rcIS_len
 obtain ⟨b,off,rfl,hc'⟩:=hcell (by intro h;simp [h] at hlt)
 have D0:=Lib.hid (show w.cell? ⟨g,0,none⟩=some (.slice (some ⟨b,off,none⟩) l.length co) from hs.tab.cell 0)
 have D1:=Lib.hid (show w.cell? ⟨b,off+below ltIS l k*2+1,none⟩=some (sv (nth l (below ltIS l k)).2) from hc' _ hlt 1 (by omega))
 clear hs hr hk hc hn hcell hc' hcm
 generalize (nth l (below ltIS l k)).2=x at *
 generalize below ltIS l k=i at *
 have q1:(0:Int)≤i:=by omega
 have q2:(i:Int) < l.length:=by omega
 go_enter Tryz.func96,Tryz.ntmps96
 go_wp2_with fail
 refine HC.out.mono ?_
 rintro e w1 ⟨rfl,hu1⟩
 have d0:=hu1.cell D0.out (by simp)
 have d1:=hu1.cell D1.out (by simp)
 go_wp2_with fail
 go_ret2
 exact ⟨rfl,hu1⟩
set_option maxRecDepth 20000 in
set_option maxHeartbeats 400000 in
theorem tAtIS_ok (w:World) (i:Nat) (hs:TBIS base w g lv l) (hlen:l.length≤100000) (hi:i < l.length) :
  Calls Tryz.prog 193 #[.pointer (some ⟨g,0,none⟩),.int .i64 (i:Int)] w fun e w'=>e = .returned (.tuple #[iv (nth l i).1,sv (nth l i).2,.bool true])∧Upd [] w w':=by
 obtain ⟨ao,co,rfl,hlc,hcm,hcell⟩:=hs.rows.rd rcIS_len
 obtain ⟨b,off,rfl,hc'⟩:=hcell (by intro h;simp [h] at hi)
 have d0:w.cell? ⟨g,0,none⟩=some (.slice (some ⟨b,off,none⟩) l.length co):=hs.tab.cell 0
 have d1:w.cell? ⟨b,off+i*2,none⟩=some (iv (nth l i).1):=hc' _ hi 0 (by omega)
 have d2:w.cell? ⟨b,off+i*2+1,none⟩=some (sv (nth l i).2):=hc' _ hi 1 (by omega)
 clear hs hcell hc' hcm
 generalize (nth l i).1=x at *
 generalize (nth l i).2=y at *
 have q1:(0:Int)≤i:=by omega
 have q2:(i:Int) < l.length:=by omega
 go_enter Tryz.func193,Tryz.ntmps193
 go_wp2_with fail
 go_quiet (fail)
 go_wp2_with fail
 go_ret3
 exact ⟨rfl,by first|exact (Upd.refl [] _).drewN _|exact (Upd.refl [] _).drew⟩
end
end Go.Proofs.YthgnlfikneipiaaGreat
namespace Go.Proofs.YthgnlfikneipiaaGreat
open Go.RowKit
section
variable {base : Nat} {g : Nat} {lv : Value} {l : List (Int × ByteArray)} {w w' : World}
set_option maxRecDepth 20000 in
set_option maxHeartbeats 400000 in
theorem tSetIS_old (w:World) (k:Int) (v:ByteArray) (hs:TBIS base w g lv l) (hr:Rising ltIS l) (hlen:l.length≤100000) (hk:I64 k) (hn:isIn ltIS l k=true) :
  Calls Tryz.prog 153 #[.pointer (some ⟨g,0,none⟩),iv k,sv v] w fun e w'=>e = .returned (.bool false)∧TBIS base w' g lv (l.set (below ltIS l k) ((nth l (below ltIS l k)).1,v))∧Upd (blk lv) w w':=by
 have hc:=tFindIS_any w k hs hr hlen hk
 rw [hn] at hc
 have HC:=Lib.hid hc
 have HS:=Lib.hid hs
 unfold isIn at hn
 have hlt:=(of_decide_eq_true hn).1
 have hgl:=hs.g_lv
 rcases hs.rows.2 with ⟨-,h0⟩|⟨b,co,cur,rfl,hb,hg,-⟩
 ·omega
 have D0:=Lib.hid (show w.cell? ⟨g,0,none⟩=some (.slice (some ⟨b,0,none⟩) l.length co) from hs.tab.cell 0)
 have HL:=Lib.hid hlt
 have D1:=Lib.hid (show ∃ u,w.cell? ⟨b,below ltIS l k*2+1,none⟩=some u from by
  obtain ⟨ao',co',e',-,-,hcell⟩:=hs.rows.rd rcIS_len
  injection e' with e1 e2 e3
  obtain ⟨b',off,e4,hc'⟩:=hcell (by intro h;simp [h] at hlt)
  rw [e4] at e1
  injection e1 with e1;injection e1 with e1 e5
  subst e1;subst e5
  exact ⟨_,by simpa using hc' _ hlt 1 (by omega)⟩)
 have HG:=Lib.hid hg
 clear hs hr hk hc hn hgl hg
 generalize below ltIS l k=i at *
 have q1:(0:Int)≤i:=by omega
 have q2:(i:Int) < l.length:=by omega
 go_enter Tryz.func153,Tryz.ntmps153
 go_wp2_with fail
 with_reducible refine HC.out.mono ?_
 rintro e w1 ⟨rfl,hu1⟩
 have d0:=hu1.cell D0.out (by simp)
 obtain ⟨u,hu⟩:=D1.out
 have d1:=hu1.cell hu (by simp)
 have f1:w1.frozen? ⟨b,i*2+1,none⟩=false:=frozen_of_row w1 b _ cur _ (hu1.heap HG.out (by simp))
 go_wp2_with fail
 go_ret
 have hst:Upd [b] w1 (w1.setCell ⟨b,i*2+1,none⟩ (sv v)):=(Upd.refl [b] w1).setCell _ _ (.inl (by simp))
 have hs1:=HS.out.upd0 hu1
 have hl:=HL.out
 have hgb:g≠b:=fun e=>HS.out.g_lv (by rw [e];simp [blk])
 refine ⟨rfl,⟨hs1.tab.upd hst (by simpa using hgb),?_,hs1.gb⟩,?_⟩
 ·refine OwnN.set_ rcIS_len hs1.rows i 1 hl (by omega) (sv v) _ ?_
  rw [nth_get l i hl]
  rfl
 ·exact (show Upd [b] w w1 from hu1.mono (by simp)).setCell _ _ (.inl (by simp))
end
end Go.Proofs.YthgnlfikneipiaaGreat
namespace Go.Proofs.YthgnlfikneipiaaGreat
open Go.RowKit
section
variable {base : Nat} {g : Nat} {lv : Value} {l : List (Int × ByteArray)} {w w' : World}
set_option maxRecDepth 20000 in
set_option maxHeartbeats 1000000 in
theorem slInsIS_end (w:World) (v:Value) (vb:Nat) (x:Int×ByteArray) (hs:OwnN 2 rcIS base 311 w v l) (hlen:l.length≤100000) (hbs:base≤w.heap.size) (hv:Blk w vb 311 (rcIS x)) :
  Calls Tryz.prog 210 #[v,.int .i64 (l.length:Int),.slice (some ⟨vb,0,none⟩) 1 1] w fun e w'=>∃ v',e = .returned v'∧OwnN 2 rcIS base 311 w' v' (l++[x])∧Upd (blk v) w w'∧(∀ y∈blk v',y∈blk v∨w.heap.size≤y):=by
 have hrd:RdN 2 rcIS w (.slice (some ⟨vb,0,none⟩) 1 1) [x]:=⟨_,1,rfl,by simp,by simp [maxLen],fun _=>⟨vb,0,rfl,fun j hj i hi=>by
  simp at hj;subst hj
  rw [hv.cell];simp [nth_cons_zero]⟩⟩
 have HR:=Lib.hid (fun ty=>run_appN (P:=Tryz.prog) (ty:=ty) rcIS_len (by decide) rcIS_one undIS infoRowIS rfl v _ l [x] hs hrd (by simp;omega) (by simp [maxLen];omega) hbs)
 obtain ⟨ao,n,co,rfl⟩:=hs.slice_
 have hn:n=l.length∧l.length≤co:=by
  rcases hs.2 with ⟨he,h0⟩|⟨_,_,_,he,_,_,hc,_⟩
  ·injection he with e1 e2 e3;subst e2;subst e3;exact ⟨h0.symm,by omega⟩
  ·injection he with e1 e2 e3;subst e2;subst e3;exact ⟨rfl,hc⟩
 obtain ⟨rfl,hco⟩:=hn
 clear hs hrd hv
 have hd:co=l.length∨¬ co=l.length:=by omega
 rcases hd with hd|hd
 all_goals
  go_enter Tryz.func210,Tryz.ntmps210
  go_wp2_with (at_builtin;refine wpList_app_of rfl _ _ rfl (.slice ao l.length co) (.slice (some ⟨vb,0,none⟩) 1 1) rfl rfl (HR.out _) ?_;rintro v1 w3 ⟨ho3,hu3,hb3⟩;have HO3:=Lib.hid ho3;obtain ⟨a1,n1,c1,rfl⟩:=ho3.slice_;clear ho3)
  go_ret
  exact ⟨_,rfl,HO3.out,hu3,hb3⟩
theorem ovlIS (w:World) (vb gb vo go_ la ca lb cb kA kB:Nat) (tA tB:TypeId) (hne:vb≠gb) (hsa:w.shape? vb=some (tA,kA)) (hsb:w.shape? gb=some (tB,kB)) (hkB:kB≠0) (hfa:w.frozen? ⟨vb,vo,none⟩=false) (hfe:w.frozen? ⟨vb,kA,none⟩=false) :
  (callFunc 251 #[.slice (some ⟨vb,vo,none⟩) la ca,.slice (some ⟨gb,go_,none⟩) lb cb]).run Tryz.prog w = .ok (.value (.bool false)) w:=by
 have hz:∀ w,(sizeOf 311).run Tryz.prog w = .ok 2 w:=by
  intro w
  obtain ⟨i,h1,h2,h3,h4⟩:=info_parts infoRowIS
  simp [sizeOf,typeInfo,h1,h3]
 rw [run_callFunc_extern Tryz.func251 (by kernel_rfl) (by kernel_rfl) (by kernel_rfl) (e:=Extern.SlicesOverlaps.overlaps #[304,304] #[4]) (by kernel_rfl),
  Lib.run_overlaps_apart w 304 4 311 undIS 2 hz ⟨vb,vo,none⟩ ⟨gb,go_,none⟩ la ca lb cb hne tA tB kA kB hsa hsb hkB hfa hfe]
 rfl
set_option maxRecDepth 20000 in
set_option maxHeartbeats 2000000 in
theorem slInsIS_shift (w:World) (g n cap i:Nat) (vb:Nat) (x:Int×ByteArray) (hs:OwnN 2 rcIS base 311 w (.slice (some ⟨g,0,none⟩) n cap) l) (hi:i < l.length) (hroom:l.length+1≤cap) (hlen:l.length≤100000) (hv:Blk w vb 311 (rcIS x)) (hvg:vb≠g) :
  Calls Tryz.prog 210 #[.slice (some ⟨g,0,none⟩) n cap,.int .i64 (i:Int),.slice (some ⟨vb,0,none⟩) 1 1] w fun e w'=>∃ v',e = .returned v'∧OwnN 2 rcIS base 311 w' v' (l.take i++x::l.drop i)∧Upd [g] w w'∧(∀ y∈blk v',y∈[g]∨w.heap.size≤y):=by
 obtain ⟨rfl,hb,hc,hm,cur,hg,hsz,hp⟩:=hs.open_ rcIS_len
 have hdl:((l.drop i).flatMap rcIS).length=(l.length-i)*2:=by rw [flatMap_len rcIS_len,List.length_drop]
 have htl:((l.take i).flatMap rcIS).length=i*2:=by rw [flatMap_len rcIS_len,List.length_take];congr 1;omega
 have hp1:Piece cur 0 ((l.take i).flatMap rcIS):=by rw [flat_split rcIS l i] at hp;exact hp.left
 have hp2:Piece cur (i*2) ((l.drop i).flatMap rcIS):=by rw [flat_split rcIS l i] at hp;have:=hp.right;rwa [htl,Nat.zero_add] at this
 have h1c:∀ u∈(l.drop i).flatMap rcIS,u.oneCell'=true:=mem_flat_one rcIS_one _
 generalize hcs:(l.drop i).flatMap rcIS=cs at *
 have hcap:(l.length+1)*2≤cur.size:=by rw [hsz];exact Nat.mul_le_mul_right 2 (by omega)
 have hfit:(i+1)*2+cs.length≤cur.size:=by rw [hdl];omega
 have hA:=(fun ty dc sc=>run_copy_lay (P:=Tryz.prog) (sz:=2) (dT:=304) (sT:=304) (ty:=ty) (dLen:=l.length+1-(i+1)) (dCap:=dc) (a:=⟨g,i*2,none⟩) (sLen:=l.length+1-i) (sCap:=sc) (k:=l.length-i) undIS (by kernel_rfl) w.drew hg (by simp only [Nat.min_def];split<;>omega) hdl (fun j u hu=>by rw [add_none];exact hp2.cell hg j u hu) hfit h1c)
 have hz:=lay_sz cur ((i+1)*2) cs hfit
 have k1:=hp1.stay ((i+1)*2) cs hfit (.inl (by omega))
 have k2:=Piece.lay cur ((i+1)*2) cs hfit
 generalize lay_ cur ((i+1)*2) cs=cur1 at *
 have hg1:(w.drew.setRow g cur1).heap[g]?=some (.cells cur1 311 (0,0)):=setRow_heap w.drew g cur cur1 _ _ hg
 have hu1:Upd [g] w (w.drew.setRow g cur1):=(Upd.refl [g] w).drew.setRow g _ (.inl (by simp))
 have hv1:=hv.upd hu1 (by simpa using hvg)
 obtain ⟨W1,hW1⟩:∃ W1,W1=w.drew.setRow g cur1:=⟨_,rfl⟩
 rw [← hW1] at hA hg1 hu1 hv1
 have hfx:i*2+(rcIS x).length≤cur1.size:=by rw [hz,rcIS_len];omega
 have hB:=(fun ty dc=>run_copy_lay (P:=Tryz.prog) (sz:=2) (dT:=304) (sT:=304) (ty:=ty) (dLen:=l.length+1-i) (dCap:=dc) (a:=⟨vb,0,none⟩) (sLen:=1) (sCap:=1) (k:=1) (cs:=rcIS x) undIS (by kernel_rfl) W1 hg1 (by simp only [Nat.min_def];split<;>omega) rfl (fun j u hu=>by rw [add_none,hv1.cell,Nat.zero_add];exact hu) hfx (rcIS_one x))
 have hz2:=lay_sz cur1 (i*2) (rcIS x) hfx
 have m1:=k1.stay (i*2) (rcIS x) hfx (.inl (by omega))
 have m2:=Piece.lay cur1 (i*2) (rcIS x) hfx
 have m3:=k2.stay (i*2) (rcIS x) hfx (.inr (by rw [rcIS_len];omega))
 generalize lay_ cur1 (i*2) (rcIS x)=cur2 at *
 have HK:=Lib.hid (show OwnN 2 rcIS base 311 (W1.setRow g cur2) (.slice (some ⟨g,0,none⟩) (l.length+1) cap) (l.take i++x::l.drop i) from by
  refine OwnN.of_piece rcIS_len cur2 (by simp;omega) hb (by simp;omega) hm (setRow_heap _ g cur1 _ _ _ hg1) (by rw [hz2,hz,hsz]) ?_
  rw [List.flatMap_append,List.flatMap_cons,hcs]
  refine m1.app ?_
  rw [htl,Nat.zero_add (i*2)]
  refine m2.app ?_
  rw [rcIS_len,show i*2+2=(i+1)*2 by omega]
  exact m3)
 have HU:=Lib.hid (show Upd [g] w (W1.setRow g cur2) from hu1.setRow g _ (.inl (by simp)))
 obtain ⟨W2,hW2⟩:∃ W2,W2=W1.setRow g cur2:=⟨_,rfl⟩
 rw [← hW2] at hB HK HU
 have HA:=Lib.hid hA
 have HB:=Lib.hid hB
 have HO:=Lib.hid (fun lb cb=>ovlIS w vb g 0 ((i+1)*2) 1 1 lb cb (rcIS x).toArray.size cur.size 311 311 hvg (by unfold World.shape?;rw [show w.heap[vb]?=_ from hv]) (by unfold World.shape?;rw [hg]) (by omega) (hv.frozen 0) (hv.frozen _))
 clear hs hp hp1 hp2 hsz hg hdl htl h1c hfit hz k1 k2 hg1 hcs hcap hA hB hv hv1 hu1 hfx hz2 m1 m2 m3 hW1 hW2
 have HL:=Lib.hid (show True from trivial)
 generalize l.length=n at *
 have hc63:cap≤9223372036854775807:=by unfold maxLen at hm;omega
 have hz1:¬ ((i:Int)=(n:Int)):=by omega
 have hw1:IntKind.i64.wrap ((i:Int)+1)=(i:Int)+1:=by rw [IntKind.wrap_i64];omega
 have hw2:IntKind.i64.wrap ((n:Int)+1)=(n:Int)+1:=by rw [IntKind.wrap_i64];omega
 have b1:(0:Int)≤(i:Int)+1:=by omega
 have b2:(0:Int)≤(n:Int)+1:=by omega
 have t1:((i:Int)+1).toNat=i+1:=by omega
 have t2:((n:Int)+1).toNat=n+1:=by omega
 have b3:¬ (cap=i+1):=by omega
 have b4:¬ (cap=i):=by omega
 have b5:(i:Int)+1≤(n:Int)+1:=by omega
 have b6:(i:Int)≤(n:Int)+1:=by omega
 have b7:(n:Int)+1≤(cap:Int):=by omega
 have b8:i≤n:=by omega
 go_enter Tryz.func210,Tryz.ntmps210
 go_wp2_with (simp only [HO.out])
 go_region_law (refine step_copy_eq rfl (.tmp 73) (.tmp 76) 304 304 rfl (.slice (some ⟨g,(i+1)*2,none⟩) (n+1-(i+1)) (cap-(i+1))) (.slice (some ⟨g,i*2,none⟩) (n+1-i) (cap-i)) (by simp [Act.eval,Act.put]) (by simp [Act.eval,Act.put]) (HA.out _ _ _) ?_)
 go_wp2_with (with_reducible refine wpList_copy_eq rfl (.tmp 80) (.tmp 81) 304 304 rfl (.slice (some ⟨g,i*2,none⟩) (n+1-i) (cap-i)) (.slice (some ⟨vb,0,none⟩) 1 1) rfl rfl (HB.out _ _) ?_)
 go_ret
 exact ⟨_,rfl,HK.out,HU.out,fun y hy => .inl (by simpa [blk] using hy)⟩
set_option maxRecDepth 20000 in
set_option maxHeartbeats 2000000 in
theorem slInsIS_grow (w:World) (g n cap i:Nat) (vb:Nat) (x:Int×ByteArray) (hs:OwnN 2 rcIS base 311 w (.slice (some ⟨g,0,none⟩) n cap) l) (hi:i < l.length) (hroom:cap < l.length+1) (hlen:l.length≤100000) (hbs:base≤w.heap.size) (hv:Blk w vb 311 (rcIS x)) :
  Calls Tryz.prog 210 #[.slice (some ⟨g,0,none⟩) n cap,.int .i64 (i:Int),.slice (some ⟨vb,0,none⟩) 1 1] w fun e w'=>∃ v',e = .returned v'∧OwnN 2 rcIS base 311 w' v' (l.take i++x::l.drop i)∧Upd [g] w w'∧(∀ y∈blk v',y∈[g]∨w.heap.size≤y):=by
 obtain ⟨rfl,hb,hc,hm,cur,hg,hsz,hp⟩:=hs.open_ rcIS_len
 obtain ⟨i0,hi0,hz0,hzs,hzb⟩:=info_parts infoRowIS
 have hdl:((l.drop i).flatMap rcIS).length=(l.length-i)*2:=by rw [flatMap_len rcIS_len,List.length_drop]
 have htl:((l.take i).flatMap rcIS).length=i*2:=by rw [flatMap_len rcIS_len,List.length_take];congr 1;omega
 have hp1:Piece cur 0 ((l.take i).flatMap rcIS):=by rw [flat_split rcIS l i] at hp;exact hp.left
 have hp2:Piece cur (i*2) ((l.drop i).flatMap rcIS):=by rw [flat_split rcIS l i] at hp;have:=hp.right;rwa [htl,Nat.zero_add] at this
 have h1c:∀ u∈(l.drop i).flatMap rcIS,u.oneCell'=true:=mem_flat_one rcIS_one _
 have hgw:g < w.heap.size:=(Array.getElem?_eq_some_iff.1 hg).1
 have hold:(Builtin.firstCells i0.size i (.slice (some ⟨g,0,none⟩) i cap)).run Tryz.prog w.drew = .ok ((l.take i).flatMap rcIS).toArray w.drew:=by
  rw [hzs]
  exact run_firstCells_some w.drew 2 i ⟨g,0,none⟩ i cap _ htl (fun j u hu=>by rw [add_none];exact hp1.cell hg j u hu)
 have hkk:(l.length:Int)+1-(i:Int)=((l.length+1-i:Nat):Int):=by omega
 have hik:i+(l.length+1-i)=l.length+1:=by omega
 have u3:Tryz.prog.underlying 3=some (.int .i64):=by kernel_rfl
 have hrz:=fun ty=>Lib.run_append_grow_zeros (P:=Tryz.prog) w 304 3 ty 311 i0 _ .i64 .i64 undIS u3 hi0 hz0 (some ⟨g,0,none⟩) i cap _ hold (l.length+1-i) (by omega) (by omega) (by omega) (by omega) (by rw [hzb];omega) (by rw [hzb,hik];exact growslice_fits (by omega) (by omega))
 rw [hik] at hrz
 have hGe:=grownCap_ge w (l.length+1) cap 311
 have hGm:grownCap w (l.length+1) cap 311≤maxLen:=grownCap_le_maxLen w (l.length+1) cap _ (by unfold maxLen;omega)
 generalize grownCap w (l.length+1) cap 311=G at *
 obtain ⟨ROW,hROW⟩:∃ ROW:Array Value,ROW=((l.take i).flatMap rcIS).toArray++Builtin.zeroCells (Value.agg #[.int .i64 0,.string ⟨#[]⟩]).cells (l.length+1-i)++Builtin.zeroCells (Value.agg #[.int .i64 0,.string ⟨#[]⟩]).cells (G-(l.length+1)):=⟨_,rfl⟩
 rw [← hROW] at hrz
 have hzz:(Value.agg #[.int .i64 0,.string ⟨#[]⟩]).cells.size=2:=rfl
 have hRs:ROW.size=G*2:=by
  rw [hROW]
  simp only [Array.size_append,List.size_toArray,size_zeroCells,hzz,htl]
  omega
 have hRp:Piece ROW 0 ((l.take i).flatMap rcIS):=fun j u hu=>by
  have hj:=(List.getElem?_eq_some_iff.1 hu).1
  rw [hROW,Array.append_assoc,Array.getElem?_append_left (by simp only [Array.size_append,List.size_toArray];omega),Nat.zero_add]
  simpa using hu
 clear hROW hold hp1
 obtain ⟨W1,hW1⟩:∃ W1,W1=w.drew.alloc (.cells ROW 311):=⟨_,rfl⟩
 rw [← hW1] at hrz
 have hg1:W1.heap[w.heap.size]?=some (.cells ROW 311 (0,0)):=by rw [hW1];exact heap_alloc_new w.drew _
 have hu1:Upd [] w W1:=by rw [hW1];exact (Upd.refl [] w).drew.alloc _
 have hv1:=hv.upd hu1 (by simp)
 have hgg:=hu1.heap hg (by simp)
 generalize hgn:w.heap.size=gn at *
 have hgne:g≠gn:=by omega
 have hvw:vb < gn:=by rw [← hgn];exact hv.lt
 have hvne:vb≠gn:=by omega
 have hfx:i*2+(rcIS x).length≤ROW.size:=by rw [hRs,rcIS_len];omega
 have hB:=(fun ty dc=>run_copy_lay (P:=Tryz.prog) (sz:=2) (dT:=304) (sT:=304) (ty:=ty) (dLen:=l.length+1-i) (dCap:=dc) (a:=⟨vb,0,none⟩) (sLen:=1) (sCap:=1) (k:=1) (cs:=rcIS x) undIS (by kernel_rfl) W1 hg1 (by simp only [Nat.min_def];split<;>omega) rfl (fun j u hu=>by rw [add_none,hv1.cell,Nat.zero_add];exact hu) hfx (rcIS_one x))
 have hz2:=lay_sz ROW (i*2) (rcIS x) hfx
 have m1:=hRp.stay (i*2) (rcIS x) hfx (.inl (by omega))
 have m2:=Piece.lay ROW (i*2) (rcIS x) hfx
 generalize lay_ ROW (i*2) (rcIS x)=cur1 at *
 have hg2:(W1.setRow gn cur1).heap[gn]?=some (.cells cur1 311 (0,0)):=setRow_heap W1 gn ROW cur1 _ _ hg1
 have hu2:Upd [gn] W1 (W1.setRow gn cur1):=(Upd.refl [gn] W1).setRow gn _ (.inl (by simp))
 have hgg2:=hu2.heap hgg (by simpa using hgne)
 obtain ⟨W2,hW2⟩:∃ W2,W2=W1.setRow gn cur1:=⟨_,rfl⟩
 rw [← hW2] at hB hg2 hu2 hgg2
 generalize hcs:(l.drop i).flatMap rcIS=cs at *
 have hfit:(i+1)*2+cs.length≤cur1.size:=by rw [hdl,hz2,hRs];omega
 have hA:=(fun ty dc sc=>run_copy_lay (P:=Tryz.prog) (sz:=2) (dT:=304) (sT:=304) (ty:=ty) (dLen:=l.length+1-(i+1)) (dCap:=dc) (a:=⟨g,i*2,none⟩) (sLen:=l.length-i) (sCap:=sc) (k:=l.length-i) undIS (by kernel_rfl) W2.drew hg2 (by simp only [Nat.min_def];split<;>omega) hdl (fun j u hu=>by rw [add_none];exact hp2.cell hgg2 j u hu) hfit h1c)
 have hz3:=lay_sz cur1 ((i+1)*2) cs hfit
 have k1:=m1.stay ((i+1)*2) cs hfit (.inl (by omega))
 have k2:=m2.stay ((i+1)*2) cs hfit (.inl (by rw [rcIS_len];omega))
 have k3:=Piece.lay cur1 ((i+1)*2) cs hfit
 generalize lay_ cur1 ((i+1)*2) cs=cur2 at *
 have HK:=Lib.hid (show OwnN 2 rcIS base 311 (W2.drew.setRow gn cur2) (.slice (some ⟨gn,0,none⟩) (l.length+1) G) (l.take i++x::l.drop i) from by
  refine OwnN.of_piece rcIS_len cur2 (by simp;omega) hbs (by simp;omega) hGm (setRow_heap W2.drew gn cur1 _ _ _ hg2) (by rw [hz3,hz2,hRs]) ?_
  rw [List.flatMap_append,List.flatMap_cons,hcs]
  refine k1.app ?_
  rw [htl,Nat.zero_add (i*2)]
  refine k2.app ?_
  rw [rcIS_len,show i*2+2=(i+1)*2 by omega]
  exact k3)
 have HU:=Lib.hid (show Upd [g] w (W2.drew.setRow gn cur2) from (((hu1.trans (T:=[g]) hu2 (by simp) (fun y hy => .inr (by simp at hy;omega))).drew).setRow gn _ (.inr (by omega))))
 obtain ⟨W3,hW3⟩:∃ W3,W3=W2.drew.setRow gn cur2:=⟨_,rfl⟩
 rw [← hW3] at hA HK HU
 have HA:=Lib.hid hA
 have HB:=Lib.hid hB
 have hrz':∀ ty,(Builtin.append_ #[304,3] ty #[.slice (some ⟨g,0,none⟩) i cap,.int .i64 ((l.length:Int)+1-(i:Int))]).run Tryz.prog w = .ok (.slice (some ⟨gn,0,none⟩) (l.length+1) G) W1:=fun ty=>by rw [hkk];exact hrz ty
 have HZ:=Lib.hid hrz'
 have HG:=Lib.hid hgn
 clear hs hp hp2 hsz hg hdl htl h1c hfit k1 k2 k3 hg1 hg2 hcs hA hB hv hv1 hu1 hu2 hfx hz2 hz3 m1 m2 hW1 hW2 hW3 hrz hrz' hgg hgg2 hRs hRp hgn hgw hi0 hz0 hzs hzb hkk hik hzz hgne hvw hvne
 generalize l.length=n at *
 obtain rfl:cap=n:=by omega
 have hc63:G≤9223372036854775807:=by unfold maxLen at hGm;omega
 have hz1:¬ ((i:Int)=(cap:Int)):=by omega
 have hw1:IntKind.i64.wrap ((i:Int)+1)=(i:Int)+1:=by rw [IntKind.wrap_i64];omega
 have hw2:IntKind.i64.wrap ((cap:Int)+1)=(cap:Int)+1:=by rw [IntKind.wrap_i64];omega
 have hw3:IntKind.i64.wrap ((cap:Int)+1-(i:Int))=(cap:Int)+1-(i:Int):=by rw [IntKind.wrap_i64];omega
 have b1:(0:Int)≤(i:Int)+1:=by omega
 have b2:(0:Int)≤(cap:Int)+1:=by omega
 have t1:((i:Int)+1).toNat=i+1:=by omega
 have t2:((cap:Int)+1).toNat=cap+1:=by omega
 have b3:¬ (G=i+1):=by omega
 have b4:¬ (G=i):=by omega
 have b5:(i:Int)+1≤(cap:Int)+1:=by omega
 have b6:(i:Int)≤(cap:Int)+1:=by omega
 have b7:¬ (cap=i):=by omega
 have b8:i≤cap:=by omega
 go_enter Tryz.func210,Tryz.ntmps210
 go_wp2_with (first
  | (at_builtin;refine wpList_app_eq rfl _ _ 304 3 rfl (.slice (some ⟨g,0,none⟩) i cap) (.int .i64 ((cap:Int)+1-(i:Int))) rfl rfl (HZ.out _) ?_)
  | (with_reducible refine wpList_copy_eq rfl (.tmp 43) (.tmp 44) 304 304 rfl (.slice (some ⟨gn,i*2,none⟩) (cap+1-i) (G-i)) (.slice (some ⟨vb,0,none⟩) 1 1) rfl rfl (HB.out _ _) ?_))
 go_region_law (refine step_copy_eq rfl (.tmp 50) (.tmp 53) 304 304 rfl (.slice (some ⟨gn,(i+1)*2,none⟩) (cap+1-(i+1)) (G-(i+1))) (.slice (some ⟨g,i*2,none⟩) (cap-i) (cap-i)) (by simp [Act.eval,Act.put]) (by simp [Act.eval,Act.put]) (HA.out _ _ _) ?_)
 go_wp2_with fail
 go_ret
 exact ⟨_,rfl,HK.out,HU.out,fun y hy => .inr (by simp [blk] at hy;have:=HG.out;omega)⟩
theorem slInsIS_any (w:World) (v:Value) (i:Nat) (vb:Nat) (x:Int×ByteArray) (hs:OwnN 2 rcIS base 311 w v l) (hi:i≤l.length) (hlen:l.length≤100000) (hbs:base≤w.heap.size) (hv:Blk w vb 311 (rcIS x)) (hvg:vb∉blk v) :
  Calls Tryz.prog 210 #[v,.int .i64 (i:Int),.slice (some ⟨vb,0,none⟩) 1 1] w fun e w'=>∃ v',e = .returned v'∧OwnN 2 rcIS base 311 w' v' (l.take i++x::l.drop i)∧Upd (blk v) w w'∧(∀ y∈blk v',y∈blk v∨w.heap.size≤y):=by
 by_cases he:i=l.length
 ·subst he
  rw [List.take_length,List.drop_length]
  exact slInsIS_end w v vb x hs hlen hbs hv
 ·rcases hs.2 with ⟨-,h0⟩|⟨g,cap,cur,rfl,-⟩
  ·omega
  ·by_cases hc:l.length+1≤cap
   ·exact slInsIS_shift w g l.length cap i vb x hs (by omega) hc hlen hv (by simpa [blk] using hvg)
   ·exact slInsIS_grow w g l.length cap i vb x hs (by omega) (by omega) hlen hbs hv
set_option maxRecDepth 20000 in
set_option maxHeartbeats 400000 in
theorem tSetIS_new (w:World) (k:Int) (y:ByteArray) (hs:TBIS base w g lv l) (hr:Rising ltIS l) (hlen:l.length≤100000) (hbs:base≤w.heap.size) (hk:I64 k) (hn:isIn ltIS l k=false) :
  Calls Tryz.prog 153 #[.pointer (some ⟨g,0,none⟩),iv k,sv y] w fun e w'=>e = .returned (.bool true)∧∃ lv',TBIS base w' g lv' (l.take (below ltIS l k)++(k,y)::l.drop (below ltIS l k))∧Upd (g::blk lv) w w'∧(∀ x∈blk lv',x∈blk lv∨w.heap.size≤x):=by
 have hc:=tFindIS_any w k hs hr hlen hk
 rw [hn] at hc
 have HC:=Lib.hid hc
 have HS:=Lib.hid hs
 have hle:=below_le (lt:=ltIS) l k
 have HD:=Lib.hid (fun w1 (h:Upd [] w w1)=>slInsIS_any (w1.alloc (.cells #[iv k,sv y] 311)) lv (below ltIS l k) w1.heap.size (k,y) (hs.rows.upd (h.alloc _) (by simp)) hle hlen (by have:=h.size;simp;omega) (Blk.new w1 _ [iv k,sv y]) (fun hx=>by have:=(hs.rows.ge _ hx).2;have:=h.size;omega))
 have D0:=Lib.hid (show w.cell? ⟨g,0,none⟩=some lv from hs.tab.cell 0)
 obtain ⟨ao,n,co,rfl⟩:=hs.rows.slice_
 clear hs hr hk hc hn hbs hle
 generalize below ltIS l k=i at *
 go_enter Tryz.func153,Tryz.ntmps153
 go_wp2_with fail
 with_reducible refine HC.out.mono ?_
 rintro e w1 ⟨rfl,hu1⟩
 have d0:=hu1.cell D0.out (by simp)
 have HU1:=Lib.hid hu1
 go_wp2_with fail
 with_reducible refine (HD.out w1 HU1.out).mono ?_
 rintro e w2 ⟨v2,rfl,ho2,hu2,hb2⟩
 have hgl:=HS.out.g_lv
 have hu1':=HU1.out.alloc (.cells #[iv k,sv y] 311)
 have f0:w2.frozen? ⟨g,0,none⟩=false:=((HS.out.tab.upd hu1' (by simp)).upd hu2 hgl).frozen 0
 have d2:w2.cell? ⟨g,0,none⟩=some (.slice ao n co):=hu2.cell (hu1'.cell D0.out (by simp)) hgl
 obtain ⟨ao2,n2,co2,rfl⟩:=ho2.slice_
 have hg2:g∉blk (.slice ao2 n2 co2):=fun hx=>by
  rcases hb2 g hx with q|q
  ·exact hgl q
  ·have:=HS.out.tab.lt;have:=hu1'.size;omega
 have HT:=Lib.hid (show TBIS base (w2.setCell ⟨g,0,none⟩ (.slice ao2 n2 co2)) g (.slice ao2 n2 co2) (l.take i++(k,y)::l.drop i) from
  ⟨by simpa using ((HS.out.tab.upd hu1' (by simp)).upd hu2 hgl).set_ 0 (.slice ao2 n2 co2),ho2.upd ((Upd.refl [g] _).setCell _ _ (.inl (by simp))) (by intro x hx;simp;rintro rfl;exact hg2 hx),HS.out.gb⟩)
 have HU2:=Lib.hid (show Upd (g::blk (.slice ao n co)) w (w2.setCell ⟨g,0,none⟩ (.slice ao2 n2 co2)) from (hu1'.trans (T:=g::blk (.slice ao n co)) hu2 (by simp) (fun x hx => .inl (by simp [hx]))).setCell _ _ (.inl (by simp)))
 have HB2:=Lib.hid (show ∀ x∈blk (.slice ao2 n2 co2),x∈blk (.slice ao n co)∨w.heap.size≤x from fun x hx=>(hb2 x hx).imp id (fun h=>by have:=hu1'.size;omega))
 clear ho2 hu1 hu2 hgl hg2 hb2 hu1'
 go_wp2_with fail
 go_ret
 exact ⟨rfl,_,HT.out,HU2.out,HB2.out⟩
theorem tSetIS_any (w:World) (k:Int) (y:ByteArray) (hs:TBIS base w g lv l) (hr:Rising ltIS l) (hlen:l.length≤100000) (hbs:base≤w.heap.size) (hk:I64 k) :
  Calls Tryz.prog 153 #[.pointer (some ⟨g,0,none⟩),iv k,sv y] w fun e w'=>e = .returned (.bool (!isIn ltIS l k))∧∃ lv',TBIS base w' g lv' (tSet ltIS l k y)∧Upd (g::blk lv) w w'∧(∀ x∈blk lv',x∈blk lv∨w.heap.size≤x):=by
 cases hn:isIn ltIS l k with
 | false =>
  refine (tSetIS_new w k y hs hr hlen hbs hk hn).mono ?_
  rintro e w' ⟨rfl,v',ht,hu,hb⟩
  exact ⟨rfl,v',by unfold tSet;rw [hn];exact ht,hu,hb⟩
 | true =>
  refine (tSetIS_old w k y hs hr hlen hk hn).mono ?_
  rintro e w' ⟨rfl,ht,hu⟩
  refine ⟨rfl,lv,?_,hu.mono (fun x hx => .inl (by simp [hx])),fun x hx => .inl hx⟩
  rw [tSet_in l k y hn];exact ht
end
end Go.Proofs.YthgnlfikneipiaaGreat
namespace Go.Proofs.YthgnlfikneipiaaGreat
open Go.RowKit
section
variable {base : Nat} {g : Nat} {lv : Value} {l : List (Int × ByteArray)} {w w' : World}
set_option maxRecDepth 20000 in
set_option maxHeartbeats 400000 in
theorem tAtIS_neg (w:World) (i:Int) (hi64:I64 i) (hs:TBIS base w g lv l) (hi:i < 0) :
  Calls Tryz.prog 193 #[.pointer (some ⟨g,0,none⟩),.int .i64 i] w fun e w'=>e = .returned (.tuple #[.int .i64 0,.string ⟨#[]⟩,.bool false])∧Upd [] w w':=by
 obtain ⟨ao,co,rfl,hlc,hcm,hcell⟩:=hs.rows.rd rcIS_len
 have d0:w.cell? ⟨g,0,none⟩=some (.slice ao l.length co):=hs.tab.cell 0
 clear hs hcell hcm
 go_enter Tryz.func193,Tryz.ntmps193
 go_wp2_with fail
 go_quiet (fail)
 go_wp2_with fail
 go_ret3
 exact ⟨rfl,by first|exact Upd.refl [] _|exact (Upd.refl [] _).alloc _|exact ((Upd.refl [] _).alloc _).drewN _⟩
set_option maxRecDepth 20000 in
set_option maxHeartbeats 400000 in
theorem tAtIS_high (w:World) (i:Int) (hi64:I64 i) (hs:TBIS base w g lv l) (hlen:l.length≤100000) (hi:(l.length:Int)≤i) :
  Calls Tryz.prog 193 #[.pointer (some ⟨g,0,none⟩),.int .i64 i] w fun e w'=>e = .returned (.tuple #[.int .i64 0,.string ⟨#[]⟩,.bool false])∧Upd [] w w':=by
 obtain ⟨ao,co,rfl,hlc,hcm,hcell⟩:=hs.rows.rd rcIS_len
 have d0:w.cell? ⟨g,0,none⟩=some (.slice ao l.length co):=hs.tab.cell 0
 have q1:(0:Int)≤i:=by omega
 clear hs hcell hcm
 go_enter Tryz.func193,Tryz.ntmps193
 go_wp2_with fail
 go_quiet (fail)
 go_wp2_with fail
 go_ret3
 exact ⟨rfl,by first|exact Upd.refl [] _|exact (Upd.refl [] _).alloc _|exact ((Upd.refl [] _).alloc _).drewN _⟩
end
end Go.Proofs.YthgnlfikneipiaaGreat
namespace Go.Proofs.YthgnlfikneipiaaGreat
open Go.RowKit
structure TXIS (w0 w:World) (g:Nat) (F:List Nat) (l:List (Int×ByteArray)):Prop where
 ex:∃ lv,F=g::blk lv∧TBIS w0.heap.size w g lv l
 ris:Rising ltIS l
 old:Upd [] w0 w
section
variable {w0 w w' : World} {g : Nat} {F : List Nat} {l : List (Int × ByteArray)}
theorem TXIS.ge (h:TXIS w0 w g F l):∀ x∈F,w0.heap.size≤x∧x < w.heap.size:=by
 obtain ⟨lv,rfl,ht⟩:=h.ex
 exact ht.lt
theorem TXIS.upd (h:TXIS w0 w g F l) {S:List Nat} (hu:Upd S w w') (hs:∀ x∈F,x∉S) (hS:∀ x∈S,w0.heap.size≤x):TXIS w0 w' g F l:=by
 obtain ⟨lv,rfl,ht⟩:=h.ex
 exact ⟨⟨lv,rfl,ht.upd hu hs⟩,h.ris,h.old.trans hu (by simp) (fun x hx => .inr (hS x hx))⟩
theorem TXIS.upd0 (h:TXIS w0 w g F l) (hu:Upd [] w w'):TXIS w0 w' g F l:=h.upd hu (by simp) (by simp)
theorem txIS_New (w0 w:World) (hu:Upd [] w0 w) :
  Calls Tryz.prog 93 #[] w fun e w'=>∃ g F,e = .returned (.pointer (some ⟨g,0,none⟩))∧TXIS w0 w' g F []∧Upd [] w w'∧(∀ x∈F,w.heap.size≤x):=by
 refine (tNewIS_any w).mono ?_
 rintro e w' ⟨rfl,ht,hu'⟩
 exact ⟨_,_,rfl,⟨⟨_,rfl,⟨ht.tab,OwnN.nil _ _ _,hu.size⟩⟩,Rising.nil,hu.seq hu'⟩,hu',fun x hx=>(ht.lt x hx).1⟩
theorem txIS_Set (k:Int) (y:ByteArray) (r:Bool) (l':List (Int×ByteArray)) (hs:TXIS w0 w g F l) (hlen:l.length≤100000) (hk:I64 k) (h1:(!isIn ltIS l k)=r) (h2:tSet ltIS l k y=l') :
  Calls Tryz.prog 153 #[.pointer (some ⟨g,0,none⟩),iv k,sv y] w fun e w'=>e = .returned (.bool r)∧∃ F',TXIS w0 w' g F' l'∧Upd F w w'∧(∀ x∈F',x∈F∨w.heap.size≤x):=by
 subst h1;subst h2
 have hold:=hs.old
 obtain ⟨⟨lv,rfl,ht⟩,hr,-⟩:=hs
 refine (tSetIS_any w k y ht hr hlen hold.size hk).mono ?_
 rintro e w' ⟨rfl,lv',ht',hu,hb⟩
 refine ⟨rfl,g::blk lv',⟨⟨lv',rfl,ht'⟩,hr.set_ intOrd k y,hold.trans hu (by simp) (fun x hx => .inr (ht.lt x hx).1)⟩,hu,fun x hx=>?_⟩
 rcases List.mem_cons.1 hx with rfl|hx
 ·exact .inl (by simp)
 ·exact (hb x hx).imp (fun q=>by simp [q]) id
theorem txIS_Del (k:Int) (r:Bool) (l':List (Int×ByteArray)) (hs:TXIS w0 w g F l) (hlen:l.length≤100000) (hk:I64 k) (h1:isIn ltIS l k=r) (h2:tDel ltIS l k=l') :
  Calls Tryz.prog 152 #[.pointer (some ⟨g,0,none⟩),iv k] w fun e w'=>e = .returned (.bool r)∧∃ F',TXIS w0 w' g F' l'∧Upd F w w'∧(∀ x∈F',x∈F∨w.heap.size≤x):=by
 subst h1;subst h2
 have hold:=hs.old
 obtain ⟨⟨lv,rfl,ht⟩,hr,-⟩:=hs
 refine (tDelIS_any w k ht hr hlen hk).mono ?_
 rintro e w' ⟨rfl,lv',ht',hu,hb⟩
 refine ⟨rfl,g::blk lv',⟨⟨lv',rfl,ht'⟩,hr.del intOrd k,hold.trans hu (by simp) (fun x hx => .inr (ht.lt x hx).1)⟩,hu,fun x hx=>?_⟩
 rcases List.mem_cons.1 hx with rfl|hx
 ·exact .inl (by simp)
 ·exact (hb x hx).imp (fun q=>by simp [q]) id
theorem txIS_Get (k:Int) (y:ByteArray) (r:Bool) (hs:TXIS w0 w g F l) (hlen:l.length≤100000) (hk:I64 k) (h:tGet ltIS (⟨#[]⟩:ByteArray) l k=(y,r)) :
  Calls Tryz.prog 96 #[.pointer (some ⟨g,0,none⟩),iv k] w fun e w'=>e = .returned (.tuple #[sv y,.bool r])∧Upd [] w w':=by
 obtain ⟨⟨lv,rfl,ht⟩,hr,-⟩:=hs
 unfold tGet at h
 cases hn:isIn ltIS l k with
 | false=>rw [hn] at h;injection h with h1 h2;subst h1;subst h2;exact tGetIS_no w k ht hr hlen hk hn
 | true=>rw [hn] at h;injection h with h1 h2;subst h1;subst h2;exact tGetIS_ok w k ht hr hlen hk hn
theorem txIS_Len (n:Int) (hs:TXIS w0 w g F l) (h:(l.length:Int)=n) :
  Calls Tryz.prog 192 #[.pointer (some ⟨g,0,none⟩)] w fun e w'=>e = .returned (.int .i64 n)∧w=w':=by
 subst h
 obtain ⟨⟨lv,rfl,ht⟩,hr,-⟩:=hs
 exact tLenIS_any w ht
theorem txIS_At (i:Int) (k:Int) (y:ByteArray) (r:Bool) (hi:I64 i) (hs:TXIS w0 w g F l) (hlen:l.length≤100000) (h:tAt (0:Int) (⟨#[]⟩:ByteArray) l i=(k,y,r)) :
  Calls Tryz.prog 193 #[.pointer (some ⟨g,0,none⟩),.int .i64 i] w fun e w'=>e = .returned (.tuple #[iv k,sv y,.bool r])∧Upd [] w w':=by
 obtain ⟨⟨lv,rfl,ht⟩,hr,-⟩:=hs
 unfold tAt at h
 split at h
 ·rename_i hd
  obtain ⟨j,rfl⟩:=Int.eq_ofNat_of_zero_le hd.1
  injection h with h1 h2;injection h2 with h2 h3;subst h1;subst h2;subst h3
  exact tAtIS_ok w j ht hlen (by omega)
 ·rename_i hd
  injection h with h1 h2;injection h2 with h2 h3;subst h1;subst h2;subst h3
  by_cases h0:i < 0
  ·exact tAtIS_neg w i hi ht h0
  ·exact tAtIS_high w i hi ht hlen (by omega)
end
end Go.Proofs.YthgnlfikneipiaaGreat
namespace Go.Proofs.YthgnlfikneipiaaGreat
open Go.RowKit
abbrev rcSL (p:ByteArray×Sl):List Value:=[sv p.1,slv p.2]
theorem rcSL_len:∀ p,(rcSL p).length=2:=fun _=>rfl
theorem infoRowSL:(Tryz.prog.info? 242).map (fun i=>(i.zero,i.size,i.bytes))=some (some (.agg #[.string ⟨#[]⟩,.slice none 0 0]),2,40):=by kernel_rfl
abbrev ltSL:ByteArray→ByteArray→Bool:=strLt
structure TBSL (base:Nat) (w:World) (g:Nat) (lv:Value) (l:List (ByteArray×Sl)):Prop where
 tab:Blk w g 151 [lv]
 rows:OwnN 2 rcSL base 242 w lv l
 gb:base≤g
section
variable {base : Nat} {g : Nat} {lv : Value} {l : List (ByteArray × Sl)} {w w' : World}
theorem TBSL.upd (h:TBSL base w g lv l) {S:List Nat} (hu:Upd S w w') (hs:∀ x∈g::blk lv,x∉S):TBSL base w' g lv l :=
 ⟨h.tab.upd hu (hs g (by simp)),h.rows.upd hu (fun x hx=>hs x (by simp [hx])),h.gb⟩
theorem TBSL.upd0 (h:TBSL base w g lv l) (hu:Upd [] w w'):TBSL base w' g lv l:=h.upd hu (by simp)
theorem TBSL.g_lv (h:TBSL base w g lv l):g∉blk lv:=fun e=>by
 obtain ⟨C,f,hq⟩:=h.rows.typ g e
 exact h.tab.ne g hq (by decide) rfl
theorem TBSL.lt (h:TBSL base w g lv l):∀ x∈g::blk lv,base≤x∧x < w.heap.size:=by
 intro x hx
 rcases List.mem_cons.1 hx with rfl|hx
 ·exact ⟨h.gb,h.tab.lt⟩
 ·exact h.rows.ge x hx
theorem tLenSL_any (w:World) (hs:TBSL base w g lv l) :
  Calls Tryz.prog 59 #[.pointer (some ⟨g,0,none⟩)] w fun e w'=>e = .returned (.int .i64 (l.length:Int))∧w=w':=by
 obtain ⟨ao,co,rfl,-⟩:=hs.rows.rd rcSL_len
 have c0:w.cell? ⟨g,0,none⟩=some (.slice ao l.length co):=hs.tab.cell 0
 go_enter Tryz.func59,Tryz.ntmps59
 go_wp2
 go_ret
 exact ⟨rfl,rfl⟩
theorem tNewSL_any (w:World) :
  Calls Tryz.prog 32 #[] w fun e w'=>e = .returned (.pointer (some ⟨w.heap.size,0,none⟩))∧TBSL w.heap.size w' w.heap.size (.slice none 0 0) []∧Upd [] w w':=by
 go_enter Tryz.func32,Tryz.ntmps32
 go_wp2
 go_ret
 exact ⟨rfl,⟨Blk.new w _ [.slice none 0 0],OwnN.nil _ _ _,Nat.le_refl _⟩,(Upd.refl [] w).alloc _⟩
set_option maxRecDepth 20000 in
set_option maxHeartbeats 1000000 in
theorem tFindSL_any (w:World) (k:ByteArray) (hs:TBSL base w g lv l) (hr:Rising ltSL l) (hlen:l.length≤100000) (hk:True) :
  Calls Tryz.prog 101 #[.pointer (some ⟨g,0,none⟩),sv k] w fun e w'=>e = .returned (.tuple #[.int .i64 (below ltSL l k:Int),.bool (isIn ltSL l k)])∧Upd [] w w':=by
 have HS:=Lib.hid hs
 have HR:=Lib.hid hr
 obtain ⟨ao,co,rfl,hlc,hcm,hcell⟩:=hs.rows.rd rcSL_len
 have c0:w.cell? ⟨g,0,none⟩=some (.slice ao l.length co):=hs.tab.cell 0
 have HC:=Lib.hid hcell
 clear hs hr hcell hcm
 go_enter Tryz.func101,Tryz.ntmps101
 go_wp2_with fail
 go_quiet (fail)
 have HU:=Lib.hid ((Upd.refl [] w).drewN nq)
 generalize w.drewN nq=v at *
 replace c0:=HU.out.cell c0 (by simp)
 go_wp2_with fail
 go_loop [6,7] (fun lo hi=>∃ a b:Nat,lo = .int .i64 a∧hi = .int .i64 b∧a≤b∧b≤l.length∧Hid (∀ j,j < a→ltSL (nth l j).1 k=true)∧Hid (∀ j,b≤j→j < l.length→ltSL (nth l j).1 k=false)) (fun lo hi=>(intOf hi).toNat-(intOf lo).toNat)
 case atStart=>exact ⟨0,l.length,rfl,rfl,Nat.zero_le _,Nat.le_refl _,fun j h=>absurd h (by omega),fun j h1 h2=>absurd h1 (by omega)⟩
 case round =>
  obtain ⟨a,b,rfl,rfl,hab,hbl,hlo,hhi⟩:=hrel
  by_cases hlt:a < b
  ·have hmid:(a+b) / 2 < l.length:=by omega
   obtain ⟨bl,off,rfl,hc⟩:=HC.out (by intro h;simp [h] at hmid)
   have d0:v.cell? ⟨bl,off+(a+b) / 2*2,none⟩=some (sv (nth l ((a+b) / 2)).1):=HU.out.cell (hc _ hmid 0 (by omega)) (by simp)
   clear hc
   cases hcmp:ltSL (nth l ((a+b) / 2)).1 k with
   | true =>
    have HLO:Hid (∀ j,j < (a+b) / 2+1→ltSL (nth l j).1 k=true):=fun j hj=>HR.out.mono strOrd k j ((a+b) / 2) (by omega) hmid hcmp
    generalize (nth l ((a+b) / 2)).1=m at *
    have hc1:=hcmp
    clear hcmp
    go_wp2
    go_round
    case rel=>exact ⟨(a+b) / 2+1,b,by go_num,rfl,by omega,hbl,HLO,hhi⟩
    case measure=>simp [intOf];omega
   | false =>
    have HHI:Hid (∀ j,(a+b) / 2≤j→j < l.length→ltSL (nth l j).1 k=false):=fun j h1 h2=>by
     cases hq:ltSL (nth l j).1 k with
     | false=>rfl
     | true=>exact absurd ((HR.out.mono strOrd k _ j h1 h2 hq).symm.trans hcmp) (by simp)
    generalize (nth l ((a+b) / 2)).1=m at *
    have hc1:=hcmp
    clear hcmp
    go_wp2
    go_round
    case rel=>exact ⟨a,(a+b) / 2,rfl,by go_num,by omega,by omega,hlo,HHI⟩
    case measure=>simp [intOf];omega
  ·obtain rfl:a=b:=by omega
   have hbel:below ltSL l k=a:=below_eq l k a hbl hlo.out (fun h=>hhi.out a (Nat.le_refl _) h)
   have HIN:Hid (isIn ltSL l k=decide (a < l.length∧(nth l a).1=k)):=by unfold Hid isIn;rw [hbel]
   have HBEL:=Lib.hid hbel
   clear hbel
   by_cases hal:a < l.length
   ·obtain ⟨bl,off,rfl,hc⟩:=HC.out (by intro h;simp [h] at hal)
    have d0:v.cell? ⟨bl,off+a*2,none⟩=some (sv (nth l a).1):=HU.out.cell (hc _ hal 0 (by omega)) (by simp)
    have HIN2:Hid (isIn ltSL l k=decide ((nth l a).1=k)):=by unfold Hid;rw [HIN.out];simp [hal]
    clear hc
    generalize (nth l a).1=m at *
    have q1:(0:Int)≤a:=by omega
    have q2:(a:Int) < l.length:=by omega
    by_cases he:m=k
    ·have t1:(m.toList==k.toList)=true:=by rw [he];simp
     have HF:Hid (isIn ltSL l k=true):=by unfold Hid;rw [HIN2.out];simp [he]
     clear he
     go_wp2_with fail
     go_quiet (fail)
     go_wp2_with fail
     go_ret2
     exact ⟨by rw [HBEL.out,HF.out];rfl,by first|exact HU.out.drewN _|exact HU.out.drew⟩
    ·have t1:(m.toList==k.toList)=false:=by rw [beq_eq_false_iff_ne];exact fun h=>he (str_inj _ _ h)
     have HF:Hid (isIn ltSL l k=false):=by unfold Hid;rw [HIN2.out];simp [he]
     clear he
     go_wp2_with fail
     go_quiet (fail)
     go_wp2_with fail
     go_ret2
     exact ⟨by rw [HBEL.out,HF.out];rfl,by first|exact HU.out.drewN _|exact HU.out.drew⟩
   ·have HF:Hid (isIn ltSL l k=false):=by unfold Hid;rw [HIN.out];simp [hal]
    have hd:decide (a < l.length)=false:=by simpa using hal
    go_wp2_with fail
    go_quiet (fail)
    go_wp2_with fail
    go_ret2
    exact ⟨by rw [HBEL.out,HF.out];rfl,by first|exact HU.out.drewN _|exact HU.out.drew⟩
end
end Go.Proofs.YthgnlfikneipiaaGreat
