/- Texts of the proof, joined. -/
import Derived.Test.YthgnlfikneipiaaGreatMz2
set_option linter.unusedSimpArgs false
set_option linter.unusedVariables false
set_option linter.unusedSectionVars false
namespace Go.Eng
variable [Val]
open Go.RowKit
variable {P : Program} {w : World} {G G' : GM} {O : Nat → Prop}
structure FR (G:GM) (N:Nat) (F:Fr) (a:Act):Prop where
 df:a.defers=[]
 sz:a.tmps.size=N
 sl:∀ t,dv G (slot F t)=some (a.tmps.getD t undef)
theorem FR.mono {N F a} (h:FR G N F a) (hg:GLe G G'):FR G' N F a:=⟨h.df,h.sz,fun t=>dv_mono hg (h.sl t)⟩
theorem FR.ev {N F a} (h:FR G N F a) (x:Operand):dv G (Go.Eng.ev F x)=some (a.eval x):=by
 cases x with
 | tmp t=>exact h.sl t
 | const v=>exact dv_ofVal v
 | global g=>rfl
 | func f=>rfl
theorem slot_cons (F:Fr) (d:Nat) (v:AV) (t:Nat):slot ((d,v)::F) t=if t=d then v else slot F t:=by
 unfold slot;rw [getA_cons];split<;>rfl
theorem getD_set (a:Array Value) (d t:Nat) (v u:Value) (h:d < a.size):(a.setIfInBounds d v).getD t u=if t=d then v else a.getD t u:=by
 by_cases e:t=d
 ·subst e;simp [h]
 ·rw [if_neg e];simp [Array.getElem?_setIfInBounds_ne (Ne.symm e)]
theorem FR.put {N F F' a} (h:FR G N F a) {dst:Option Nat} {v:AV} {u:Value} (hp:putF N F dst v=some F') (hv:dv G v=some u):FR G N F' (a.put dst u):=by
 cases dst with
 | none=>cases hp;exact h
 | some d =>
  obtain ⟨h1,h2⟩:=bif_some hp
  cases h2
  have hd:d < N:=by simpa [Nat.blt_eq] using h1
  refine ⟨h.df,by simp [Act.put,h.sz],fun t=>?_⟩
  rw [slot_cons]
  show _=some ((a.tmps.setIfInBounds d u).getD t undef)
  rw [getD_set _ _ _ _ _ (by rw [h.sz];exact hd)]
  by_cases e:t=d
  ·rw [if_pos e,if_pos e];exact hv
  ·rw [if_neg e,if_neg e];exact h.sl t
theorem notBool {v:AV} {b:Bool} (h:dv G v=some (.bool b)):v = .bool b∨(∃ u,v = .ext u)∨∃ i,v = .opq i:=by
 cases v with
 | bool c=>cases h;exact .inl rfl
 | ext u=>exact .inr (.inl ⟨u,rfl⟩)
 | opq i=>exact .inr (.inr ⟨i,rfl⟩)
 | opl i e =>
  obtain ⟨x,_,h⟩:=Option.bind_eq_some_iff.1 (show Option.bind (G i) _=_ from h)
  obtain ⟨_,_,_,_,_,h⟩:=os_some h
  cases h
 | agg cs=>obtain ⟨us,_,h⟩:=Option.map_eq_some_iff.1 (show Option.map _ (dns G cs)=_ from h);cases h
 | tup cs=>obtain ⟨us,_,h⟩:=Option.map_eq_some_iff.1 (show Option.map _ (d2s G cs)=_ from h);cases h
 | ptr i o=>obtain ⟨us,_,h⟩:=Option.map_eq_some_iff.1 (show Option.map _ (G i)=_ from h);cases h
 | clo f i o=>obtain ⟨us,_,h⟩:=Option.map_eq_some_iff.1 (show Option.map _ (G i)=_ from h);cases h
 | slk i o n c=>obtain ⟨us,_,h⟩:=Option.map_eq_some_iff.1 (show Option.map _ (G i)=_ from h);cases h
 | slc i o n=>obtain ⟨us,_,h⟩:=Option.map_eq_some_iff.1 (show Option.map _ (G i)=_ from h);cases h
 | mp i=>obtain ⟨us,_,h⟩:=Option.map_eq_some_iff.1 (show Option.map _ (G i)=_ from h);cases h
 | _=>cases h
theorem wanted_ok {N F a} (h:FR G N F a) {ops:Array Oper} {o:Oper} {b:Bool} (hw:wantedX F ops o.guard=some b):Region.wanted o (yielded ops a.tmps)=b:=by
 unfold wantedX at hw
 unfold Region.wanted
 split at hw
 ·rename_i hg;cases hw;rw [hg]
 ·rename_i j wnt hg
  rw [hg]
  dsimp only
  split at hw
  ·rename_i hd;cases hw
   simp [yielded,hd]
  ·rename_i d hd
   have hy:yielded ops a.tmps j=match a.tmps[d]? with
     | some (.bool b)=>some b
     | _=>none:=by simp [yielded,hd];rfl
   have hs:=h.sl d
   split at hw
   ·rename_i c hc
    cases hw
    rw [hc] at hs
    have:a.tmps[d]?=some (.bool c):=by
     have e:a.tmps.getD d undef = .bool c:=(Option.some.inj hs).symm
     rw [Array.getD_eq_getD_getElem?] at e
     cases hq:a.tmps[d]? with
     | none=>rw [hq] at e;cases e
     | some v=>rw [hq] at e;exact congrArg some e
    rw [hy,this]
    cases c<;>cases wnt<;>rfl
   ·cases hw
   ·cases hw
   ·rename_i hn1 hn2 hn3
    cases hw
    have:∀ c,a.tmps[d]?≠some (.bool c):=fun c hq=>by
     have e:a.tmps.getD d undef = .bool c:=by rw [Array.getD_eq_getD_getElem?,hq];rfl
     rw [e] at hs
     rcases notBool hs with q|⟨u,q⟩|⟨u,q⟩
     ·exact hn1 _ q
     ·exact hn2 _ q
     ·exact hn3 _ q
    rw [hy]
    split
    ·rename_i c hq;exact absurd hq (this c)
    ·rfl
theorem evl_ok {N F a} (h:FR G N F a):∀ l:List Operand,dvl G (evl F l) (l.map a.eval)
 | []=>trivial
 | x::l=>⟨h.ev x,evl_ok h l⟩
def Frm (S S':St):Prop:=(∃ pre,S'.H=pre++S.H)∧S.nx≤S'.nx∧∀ p∈S.obs,p∈S'.obs
theorem Frm.refl (S:St):Frm S S:=⟨⟨[],rfl⟩,Nat.le_refl _,fun _ h=>h⟩
theorem Frm.trans {A B C:St} (h:Frm A B) (k:Frm B C):Frm A C:=by
 obtain ⟨⟨p,hp⟩,h2,h3⟩:=h
 obtain ⟨⟨q,hq⟩,k2,k3⟩:=k
 exact ⟨⟨q++p,by rw [hq,hp,List.append_assoc]⟩,Nat.le_trans h2 k2,fun x hx=>k3 x (h3 x hx)⟩
def CallGood (P:Program) (f:FuncId) (args:List AV) (S S':St) (v:AV):Prop :=
 S'.F=S.F∧Frm S S'∧((∀ p∈S'.obs,p)→∀ {w:World} {G:GM} {O:Nat→Prop} {us:List Value},dvl G args us→Sat w G O S.H S.nx →
  Calls P f us.toArray w fun e w'=>∃ u G' O',e = .returned u∧dv G' v=some u∧Sat w' G' O' S'.H S'.nx∧Adv w G O w' G' O')
structure EOK (P:Program) (E:Env):Prop where
 tt:∀ t ti,E.tt t=some ti→TOK P t ti
 body : ∀ f fn, E.body f = some fn → P.funcs[f]? = some fn ∧ (fn.name == "runtime.NumGoroutine") = false
 mixed:P.follows .mixedOrders=true
 bd:BD E.bd
 hk:∀ f args S v S',E.hk f args S=some (v,S')→CallGood P f args S S' v
 cv:∀ s d i S v S',E.cv s d i S=some (v,S')→∀ x,ev S.F x = .opq i→quietOp E (.convert s d x)=false→OpGood P E (.convert s d x) S S' v
def Stepped (P:Program) (ops:Array Oper) (o:Oper) (a:Act) (w:World) (K:Act→World→Prop) (Q:Exit→Act→World→Prop):Prop :=
 if Region.wanted o (yielded ops a.tmps)=true then o.wp P a w K Q else K (a.put o.dst undef) w
def StepGood (P:Program) (N:Nat) (ops:Array Oper) (o:Oper) (S S':St) (v:AV):Prop :=
 S'.F=S.F∧Frm S S'∧((∀ p∈S'.obs,p)→∀ {w:World} {G:GM} {O:Nat→Prop} {a:Act},FR G N S.F a→Sat w G O S.H S.nx→∀ {K:Act→World→Prop} {Q:Exit→Act→World→Prop},
  (∀ u w' G' O',dv G' v=some u→Sat w' G' O' S'.H S'.nx→Adv w G O w' G' O'→K (a.put o.dst u) w')→Stepped P ops o a w K Q)
theorem OpGood.seq {E:Env} {o:Op} {S S':St} {v:AV} (h:OpGood P E o S S' v):S'.F=S.F∧Frm S S'∧((∀ p∈S'.obs,p)→∀ {w:World} {G:GM} {O:Nat→Prop} {a:Act},(∀ x,dv G (Go.Eng.ev S.F x)=some (a.eval x))→Sat w G O S.H S.nx→Good P o a w G O S' v):=by
 rcases h with ⟨h1,h2,h3,h4,h5⟩|⟨e,cs,vf,rfl,h1,h2⟩|⟨-,h1,h2,h3,h4,h5⟩
 ·refine ⟨h1,⟨⟨[],h2⟩,Nat.le_of_eq h3.symm,h4⟩,fun ho w G O a hF hS=>?_⟩
  obtain ⟨u,k1,k2⟩:=h5 ho hF hS.toSat0
  exact ⟨_,u,w,G,O,k2,.inl rfl,k1,by rw [h2,h3];exact hS,Adv.refl w G O⟩
 ·refine ⟨rfl,⟨⟨[_],rfl⟩,Nat.le_succ _,fun _ h=>h⟩,fun _ w G O a hF hS=>?_⟩
  obtain ⟨us,k1,k2⟩:=h2 hF
  have hg:GLe G (fun j=>if j=S.nx then some ⟨w.heap.size,0,0,0,undef⟩ else G j):=fun i y hi=>by
   have:=hS.lt hi
   show (if i=S.nx then _ else _)=_
   rw [if_neg (by omega)];exact hi
  obtain ⟨g1,g2⟩:=hS.new (.cells us.toArray e) ⟨w.heap.size,0,0,0,undef⟩ (.row e cs) rfl ⟨us,dns_mono hg k1,heap_alloc_new w _⟩
  exact ⟨_,vf w.heap.size,_,_,_,k2,.inl rfl,by rw [h1];simp,g1,g2⟩
 ·exact ⟨h1,⟨h2,h3,fun p hp=>by rw [h4];exact hp⟩,fun _ w G O a hF hS=>h5 hF hS⟩
theorem step_op {E:Env} {N:Nat} {ops:Array Oper} {o:Oper} {S S':St} {v:AV} (hw:wantedX S.F ops o.guard=some true) (h:OpGood P E o.op S S' v):StepGood P N ops o S S' v:=by
 obtain ⟨h1,h2,h3⟩:=h.seq
 refine ⟨h1,h2,fun ho w G O a hF hS K Q hK=>?_⟩
 obtain ⟨n,u,w',G',O',k1,k2,k3,k4,k5⟩:=(h3 ho (fun x=>hF.ev x) hS).run
 unfold Stepped
 rw [if_pos (wanted_ok hF hw)]
 unfold Oper.wp
 obtain ⟨dst,op,ty,ps,af,gd⟩:=o
 rw [k1]
 rcases k2 with rfl|⟨rfl,rfl⟩
 ·exact hK u w' G' O' k3 k4 k5
 ·exact hK undef w' G' O' k3 k4 k5
theorem step_blt {N:Nat} {ops:Array Oper} {o:Oper} {S S':St} {v:AV} {c:Call} {b:Builtin} (hop:o.op = .call c) (hc:c.callee = .builtin b) (hw:wantedX S.F ops o.guard=some true) (h:BltGood P b c.argTypes.toList (evl S.F c.args.toList) S S' v):StepGood P N ops o S S' v:=by
 have key:S'.F=S.F∧Frm S S'∧∀ {w:World} {G:GM} {O:Nat→Prop} {us:List Value},dvl G (evl S.F c.args.toList) us→Sat w G O S.H S.nx→BGood P b c.argTypes.toList us w G O S' v:=by
  rcases h with ⟨rfl,h⟩|⟨-,h1,h2,h3,h4,h5⟩
  ·exact ⟨rfl,Frm.refl _,fun hu hS=>by obtain ⟨u,k1,k2⟩:=h hu hS.toSat0;exact ⟨u,_,_,_,k2,k1,hS,Adv.refl _ _ _⟩⟩
  ·exact ⟨h1,⟨h2,h3,fun p hp=>by rw [h4];exact hp⟩,h5⟩
 obtain ⟨h1,h2,h3⟩:=key
 refine ⟨h1,h2,fun _ w G O a hF hS K Q hK=>?_⟩
 obtain ⟨u,w',G',O',k1,k3,k4,k5⟩:=(h3 (evl_ok hF _) hS).run
 unfold Stepped
 rw [if_pos (wanted_ok hF hw)]
 have hrun:(execOp a.eval o).run P w = .ok (.value u) w':=by
  unfold execOp
  simp only [hop,resolve,hc,Sem.run_bind,Sem.run_pure,Result.andThen_ok,invoke]
  have e3:(List.map a.eval c.args.toList).toArray=c.args.map a.eval:=by apply Array.toList_inj.1;simp
  have e4:c.argTypes.toList.toArray=c.argTypes:=rfl
  simp only [e3,e4] at k1
  exact k1 _ _
 unfold Oper.wp
 rw [hrun]
 exact hK u w' G' O' k3 k4 k5
theorem step_call {E:Env} (hE:EOK P E) {N:Nat} {ops:Array Oper} {o:Oper} {S S':St} {v:AV} {c:Call} {fo:Operand} {f:FuncId} {fn:Func} (hop:o.op = .call c) (hc:c.callee = .value fo) (hf:Go.Eng.ev S.F fo = .fn f) (hb:E.body f=some fn) (hfb:fn.body.isSome=true) (hw:wantedX S.F ops o.guard=some true)
  (h:CallGood P f (evl S.F c.args.toList) S S' v):StepGood P N ops o S S' v:=by
 obtain ⟨h1,h2,h3⟩:=h
 refine ⟨h1,h2,fun ho w G O a hF hS K Q hK=>?_⟩
 obtain ⟨e1,e2⟩:=hE.body f fn hb
 unfold Stepped
 rw [if_pos (wanted_ok hF hw)]
 have hfv:a.eval fo = .func (.func f) #[] #[]:=by have:=hF.ev fo;rw [hf] at this;exact (Option.some.inj this).symm
 have hrun:(execOp a.eval o).run P w = .ok (.enter f (c.args.map a.eval)) w:=by
  unfold execOp
  have hnb:fn.body≠none:=fun q=>by rw [q] at hfb;cases hfb
  have e2 : ¬ fn.name = "runtime.NumGoroutine" := by simpa using e2
  simp [hop,resolve,hc,invoke,hfv,Deferred.ofValue,callFunc,e1,e2,hnb]
 unfold Oper.wp
 rw [hrun]
 have hcall:=h3 ho (evl_ok hF c.args.toList) hS
 have e3:(List.map a.eval c.args.toList).toArray=c.args.map a.eval:=by apply Array.toList_inj.1;simp
 rw [e3] at hcall
 refine hcall.mono ?_
 rintro e w' ⟨u,G',O',rfl,k1,k2,k3⟩
 exact hK u w' G' O' k1 k2 k3
theorem dvl_app {G:GM}:∀ {l m:List AV} {us vs:List Value},dvl G l us→dvl G m vs→dvl G (l++m) (us++vs)
 | [],m,[],vs,_,h=>h
 | [],m,_::_,vs,h,_=>h.elim
 | _::_,m,[],vs,h,_=>h.elim
 | a::l,m,u::us,vs,h,k=>⟨h.1,dvl_app h.2 k⟩
theorem step_clo {E:Env} (hE:EOK P E) {N:Nat} {ops:Array Oper} {o:Oper} {S S':St} {v:AV} {c:Call} {fo:Operand} {f:FuncId} {i off:Nat} {fn:Func} (hop:o.op = .call c) (hc:c.callee = .value fo) (hf:Go.Eng.ev S.F fo = .clo f i off) (hb:E.body f=some fn) (hfb:fn.body.isSome=true) (hw:wantedX S.F ops o.guard=some true)
  (h:CallGood P f (evl S.F c.args.toList++[.ptr i off]) S S' v):StepGood P N ops o S S' v:=by
 obtain ⟨h1,h2,h3⟩:=h
 refine ⟨h1,h2,fun ho w G O a hF hS K Q hK=>?_⟩
 obtain ⟨e1,e2⟩:=hE.body f fn hb
 unfold Stepped
 rw [if_pos (wanted_ok hF hw)]
 have hfv:=hF.ev fo
 rw [hf] at hfv
 obtain ⟨x,hx,hfv⟩:=Option.map_eq_some_iff.1 (show Option.map _ (G i)=_ from hfv)
 have hrun:(execOp a.eval o).run P w = .ok (.enter f (c.args.map a.eval++#[.pointer (some ⟨x.g,off,none⟩)])) w:=by
  unfold execOp
  have hnb:fn.body≠none:=fun q=>by rw [q] at hfb;cases hfb
  have e2 : ¬ fn.name = "runtime.NumGoroutine" := by simpa using e2
  simp [hop,resolve,hc,invoke,← hfv,Deferred.ofValue,callFunc,e1,e2,hnb]
 unfold Oper.wp
 rw [hrun]
 have hcall:=h3 ho (dvl_app (evl_ok hF c.args.toList) (show dvl G [.ptr i off] [.pointer (some ⟨x.g,off,none⟩)] from ⟨by show (G i).map _=_;rw [hx];rfl,trivial⟩)) hS
 have e3:(List.map a.eval c.args.toList++[Value.pointer (some ⟨x.g,off,none⟩)]).toArray=c.args.map a.eval++#[Value.pointer (some ⟨x.g,off,none⟩)]:=by apply Array.toList_inj.1;simp
 rw [e3] at hcall
 refine hcall.mono ?_
 rintro e w' ⟨u,G',O',rfl,k1,k2,k3⟩
 exact hK u w' G' O' k1 k2 k3
theorem step_none {N:Nat} {ops:Array Oper} {o:Oper} {S:St} (hw:wantedX S.F ops o.guard=some false):StepGood P N ops o S S (.tup []):=by
 refine ⟨rfl,Frm.refl S,fun ho w G O a hF hS K Q hK=>?_⟩
 unfold Stepped
 rw [if_neg (by rw [wanted_ok hF hw];simp)]
 exact hK undef w G O rfl hS (Adv.refl _ _ _)
end Go.Eng
namespace Go.Eng
variable [Val]
open Go.RowKit
section
variable {E : Env} {step : Stp} {N nx0 : Nat} {ops : Array Oper}
theorem drawX_cons {x:PE} {l:List PE} {W:Ws} {S:St} {r:Ws×St} (h:drawX E step N ops nx0 (x::l) W S=some r) :
  ∃ v Sa F,(quietOp E (opAt ops x.i).op=true→depOk nx0 x.m (depOf S.F (opAt ops x.i).op) W=true)∧step (opAt ops x.i) S=some (v,Sa)∧(quietOp E (opAt ops x.i).op=true→newOp (opAt ops x.i).op=true∨Sa.nx=S.nx)∧putF N Sa.F (opAt ops x.i).dst v=some F ∧
   drawX E step N ops nx0 l (bif quietOp E (opAt ops x.i).op then W else (x.i,chgKeys Sa.H S.H (keysOf (Sa.H.take (Sa.H.length-S.H.length))))::W) { Sa with F:=F }=some r:=by
 simp only [drawX] at h
 obtain ⟨h1,h2⟩:=bif_some h
 obtain ⟨⟨v,Sa⟩,h3,h4⟩:=Option.bind_eq_some_iff.1 h2
 obtain ⟨h7,h4⟩:=bif_some h4
 obtain ⟨F,h5,h6⟩:=Option.bind_eq_some_iff.1 h4
 refine ⟨v,Sa,F,fun hq=>?_,h3,fun hq=>?_,h5,h6⟩
 ·rw [hq] at h1;simpa using h1
 ·rw [hq] at h7
  simp only [Bool.not_true,Bool.false_or,Bool.or_eq_true] at h7
  exact h7.imp id Nat.eq_of_beq_eq_true
end
def Down (ops:Array Oper) (L:Nat→Prop):Prop:=∀ i,L i→∀ p∈preds (opAt ops i),L p
theorem has_iff {D:List PE} {p:Nat}:has D p=true↔∃ z∈D,z.i=p:=by
 induction D with
 | nil=>simp [has]
 | cons x l ih =>
  simp only [has,Bool.or_eq_true,ih,List.mem_cons]
  constructor
  ·rintro (h|⟨z,h1,h2⟩)
   ·exact ⟨x,.inl rfl,Nat.eq_of_beq_eq_true h⟩
   ·exact ⟨z,.inr h1,h2⟩
  ·rintro ⟨z,rfl|h1,h2⟩
   ·exact .inl (by rw [h2];simp)
   ·exact .inr ⟨z,h1,h2⟩
theorem mOf_some {D:List PE} {p j:Nat} (h:(mOf D p).testBit j=true):∃ z∈D,z.i=p∧z.m.testBit j=true:=by
 induction D with
 | nil=>simp [mOf] at h
 | cons x l ih =>
  simp only [mOf] at h
  cases hq:Nat.beq x.i p<;>rw [hq] at h
  ·obtain ⟨z,h1,h2⟩:=ih h;exact ⟨z,List.mem_cons_of_mem _ h1,h2⟩
  ·exact ⟨x,List.mem_cons_self ..,Nat.eq_of_beq_eq_true hq,h⟩
theorem maskOf_some {D:List PE}:∀ {ps:List Nat} {j:Nat},(maskOf D ps).testBit j=true→∃ p∈ps,j=p∨(mOf D p).testBit j=true
 | [],j,h=>by simp [maskOf] at h
 | p::ps,j,h=>by
  simp only [maskOf,Nat.testBit_or,Bool.or_eq_true] at h
  rcases h with (h|h)|h
  ·rw [Nat.testBit_two_pow] at h
   exact ⟨p,List.mem_cons_self ..,.inl (by simpa using (of_decide_eq_true h).symm)⟩
  ·exact ⟨p,List.mem_cons_self ..,.inr h⟩
  ·obtain ⟨q,h1,h2⟩:=maskOf_some h;exact ⟨q,List.mem_cons_of_mem _ h1,h2⟩
def AncOk (ops:Array Oper) (D:List PE):Prop:=∀ y∈D,∀ L,Down ops L→L y.i→∀ j,y.m.testBit j=true→L j
structure PlanAt (E:Env) (ops:Array Oper) (D:List PE) (x:PE):Prop where
 lt:x.i < ops.size
 pre:∀ p∈preds (opAt ops x.i),∃ z∈D,z.i=p
 pair:∀ y∈D,pairOk ops x y=true
 anc:∀ L,Down ops L→L x.i→∀ j,x.m.testBit j=true→L j
 loud:quietOp E (opAt ops x.i).op=false→∀ y∈D,x.m.testBit y.i=true
theorem planOk_cons {E:Env} {ops:Array Oper} {x:PE} {l D:List PE} (h:planOk E ops (x::l) D=true) (hD:AncOk ops D):PlanAt E ops D x∧planOk E ops l (x::D)=true∧AncOk ops (x::D):=by
 simp only [planOk,Bool.and_eq_true] at h
 obtain ⟨⟨⟨⟨⟨h1,h2⟩,h3⟩,h4⟩,h5⟩,h6⟩:=h
 have hm:=Nat.eq_of_beq_eq_true h4
 have hpre:∀ p∈preds (opAt ops x.i),∃ z∈D,z.i=p:=fun p hp=>has_iff.1 (List.all_eq_true.1 h2 p hp)
 have hanc:∀ L,Down ops L→L x.i→∀ j,x.m.testBit j=true→L j:=fun L hL hx j hj=>by
  rw [hm] at hj
  obtain ⟨p,k1,k2⟩:=maskOf_some hj
  have hp:=hL x.i hx p k1
  rcases k2 with rfl|k2
  ·exact hp
  ·obtain ⟨z,k3,k4,k5⟩:=mOf_some k2
   exact hD z k3 L hL (by rw [k4];exact hp) j k5
 refine ⟨⟨by simpa [Nat.blt_eq] using h1,hpre,fun y hy=>List.all_eq_true.1 h3 y hy,hanc,fun hq y hy=>?_⟩,h6,fun y hy=>?_⟩
 ·rw [hq] at h5
  exact List.all_eq_true.1 (by simpa using h5) y hy
 ·rcases List.mem_cons.1 hy with rfl|hy
  ·exact hanc
  ·exact hD y hy
theorem planOk_split {E:Env} {ops:Array Oper}:∀ {l1 l2 D:List PE},planOk E ops (l1++l2) D=true→AncOk ops D→planOk E ops l2 (l1.reverse++D)=true∧AncOk ops (l1.reverse++D)
 | [],l2,D,h,hD=>⟨h,hD⟩
 | x::l1,l2,D,h,hD=>by
  obtain ⟨_,h2,h3⟩:=planOk_cons (l:=l1++l2) h hD
  have:=planOk_split h2 h3
  simpa using this
theorem planOk_at {E:Env} {ops:Array Oper} {l1 l2 D:List PE} {y:PE} (h:planOk E ops (l1++y::l2) D=true) (hD:AncOk ops D):PlanAt E ops (l1.reverse++D) y:=by
 obtain ⟨h1,h2⟩:=planOk_split h hD
 exact (planOk_cons h1 h2).1
theorem nodup_len:∀ (n:Nat) (l:List Nat),l.Nodup→(∀ x∈l,x < n)→l.length≤n
 | 0,l,_,h=>by
  cases l with
  | nil=>exact Nat.le_refl _
  | cons x l=>exact absurd (h x (List.mem_cons_self ..)) (by omega)
 | n+1,l,hn,h=>by
  by_cases hm:n∈l
  ·have:=nodup_len n (l.erase n) (hn.sublist List.erase_sublist) (fun x hx=>by
    have h1:=h x (List.mem_of_mem_erase hx)
    have h2:x≠n:=fun e=>by subst e;exact (hn.not_mem_erase) hx
    omega)
   rw [List.length_erase_of_mem hm] at this
   omega
  ·have:=nodup_len n l hn (fun x hx=>by
    have h1:=h x hx
    have h2:x≠n:=fun e=>by subst e;exact hm hx
    omega)
   omega
theorem planOk_all {E:Env} {ops:Array Oper}:∀ {l D:List PE},planOk E ops l D=true→AncOk ops D→(D.map (·.i)).Nodup→(∀ z∈D,z.i < ops.size)→∀ i,i < ops.size→∃ z∈D++l,z.i=i
 | [],D,h,hD,hn,hl,i,hi=>by
  simp only [planOk] at h
  have hlen:=Nat.eq_of_beq_eq_true h
  rw [List.append_nil]
  by_cases hq:∃ z∈D,z.i=i
  ·exact hq
  ·exfalso
   have h1:(i::D.map (·.i)).Nodup:=List.nodup_cons.2 ⟨fun q=>by
    obtain ⟨z,k1,k2⟩:=List.mem_map.1 q
    exact hq ⟨z,k1,k2⟩,hn⟩
   have h3:=nodup_len ops.size _ h1 (fun j hj=>by
    rcases List.mem_cons.1 hj with rfl|hj
    ·exact hi
    ·obtain ⟨z,k1,rfl⟩:=List.mem_map.1 hj
     exact hl z k1)
   simp at h3;omega
 | x::l,D,h,hD,hn,hl,i,hi=>by
  obtain ⟨h1,h2,h3⟩:=planOk_cons h hD
  have hx:∀ y∈D,x.i≠y.i:=fun y hy e=>by
   have:=h1.pair y hy
   unfold pairOk at this
   rw [e] at this;simp at this
  obtain ⟨z,k1,k2⟩:=planOk_all h2 h3 (List.nodup_cons.2 ⟨fun q=>by
   obtain ⟨z,k1,k2⟩:=List.mem_map.1 q
   exact hx z k1 k2.symm,hn⟩) (fun z hz=>by
   rcases List.mem_cons.1 hz with rfl|hz
   ·exact h1.lt
   ·exact hl z hz) i hi
  refine ⟨z,?_,k2⟩
  simp only [List.cons_append,List.mem_cons,List.mem_append] at k1 ⊢
  rcases k1 with k1|k1|k1
  ·exact .inr (.inl k1)
  ·exact .inl k1
  ·exact .inr (.inr k1)
end Go.Eng
namespace Go.Eng
variable [Val]
open Go.RowKit
theorem opN_congr {F F' : Fr} {o : Option Operand} {d : Nat} (h : ∀ x, o = some x → ev F' x = ev F x) : opN F' d o = opN F d o := by
  cases o with
  | none => rfl
  | some x => simp only [opN, h x rfl]
theorem evs_congr {F F' : Fr} : ∀ {l : List (Nat × Operand)}, (∀ p ∈ l, ev F' p.2 = ev F p.2) → evs F' l = evs F l
  | [], _ => rfl
  | (i, o) :: l, h => by
    simp only [evs, h (i, o) (List.mem_cons_self ..), evs_congr (l := l) (fun p hp => h p (List.mem_cons_of_mem _ hp))]
theorem evl_congr {F F' : Fr} : ∀ {l : List Operand}, (∀ x ∈ l, ev F' x = ev F x) → evl F' l = evl F l
  | [], _ => rfl
  | o :: l, h => by
    simp only [evl, h o (List.mem_cons_self ..), evl_congr (l := l) (fun p hp => h p (List.mem_cons_of_mem _ hp))]
theorem holds_congr {H H' : Hp} {i sz o n : Nat} (h : getA H' i = getA H i) : holds H' i sz o n = holds H i sz o n := by unfold holds; rw [h]
def St.at (S : St) (F : Fr) (H : Hp) : St := { S with F := F, H := H }
theorem opx_congr {E : Env} {op : Op} {S S' : St} {v : AV} {F : Fr} {H : Hp} (h : opx E op S = some (v, S')) (hq : quietOp E op = true) (hn : S'.nx = S.nx ∨ ∃ b, S'.H = (S.nx, b) :: S.H)
    (hx : ∀ x ∈ op.operands, ev F x = ev S.F x) (hd : ∀ b, depOf S.F op = some b → getA H b = getA S.H b) :
    ∃ add, S'.H = add ++ S.H ∧ opx E op (S.at F H) = some (v, S'.at F (add ++ H)) := by
  cases op with
  | move x => cases h; exact ⟨[], rfl, by simp only [opx, St.at]; rw [hx x (by simp [Op.operands])]; rfl⟩
  | assign x => cases h; exact ⟨[], rfl, by simp only [opx, St.at]; rw [hx x (by simp [Op.operands])]; rfl⟩
  | pick c x y =>
    simp only [opx, St.at] at h ⊢
    rw [hx c (by simp [Op.operands]), hx x (by simp [Op.operands]), hx y (by simp [Op.operands])]
    split at h
    · cases h; exact ⟨[], rfl, rfl⟩
    · cases h
  | alloc t =>
    simp only [opx, St.at] at h ⊢
    obtain ⟨ti, h1, h2⟩ := Option.bind_eq_some_iff.1 h
    cases h2; rw [h1]; exact ⟨[_], rfl, rfl⟩
  | box t x =>
    simp only [opx, St.at] at h ⊢
    rw [hx x (by simp [Op.operands])]
    obtain ⟨h1, h2⟩ := bif_some h
    cases h2; rw [h1]; exact ⟨[_], rfl, rfl⟩
  | build t ps =>
    simp only [opx, St.at] at h ⊢
    rw [evs_congr (F := S.F) (F' := F) (l := ps.toList) (fun p hp => hx p.2 (by simp [Op.operands]; exact ⟨p.1, by simpa using hp⟩))]
    obtain ⟨ti, h1, h2⟩ := Option.bind_eq_some_iff.1 h
    obtain ⟨h3, h4⟩ := bif_some h2
    obtain ⟨cs, h5, h6⟩ := Option.map_eq_some_iff.1 h4
    cases h6; rw [h1]; exact ⟨[], rfl, by simp [h3, h5]⟩
  | buildSlice t n ps =>
    simp only [opx, St.at] at h ⊢
    rw [evs_congr (F := S.F) (F' := F) (l := ps.toList) (fun p hp => hx p.2 (by simp [Op.operands]; exact ⟨p.1, by simpa using hp⟩))]
    obtain ⟨ti, h1, h2⟩ := Option.bind_eq_some_iff.1 h
    obtain ⟨h3, h4⟩ := bif_some h2
    obtain ⟨cs, h5, h6⟩ := Option.map_eq_some_iff.1 h4
    cases h6; rw [h1]; exact ⟨[_], rfl, by rw [Option.bind_some, h3, cond_true, h5]; rfl⟩
  | load t x =>
    have hx := hx x (by simp [Op.operands])
    simp only [opx, St.at, depOf] at h hd ⊢
    rw [hx]
    split at h
    · rename_i i off he
      rw [he] at hd
      obtain ⟨ti, h1, h2⟩ := Option.bind_eq_some_iff.1 h
      obtain ⟨u, h3, h4⟩ := Option.map_eq_some_iff.1 h2
      cases h4
      refine ⟨[], rfl, ?_⟩
      try dsimp only
      rw [h1, Option.bind_some, show loadN H ti i off = loadN S.H ti i off from by unfold loadN; rw [hd i rfl], h3]; rfl
    · cases h
  | store t x y => cases hq
  | nilCheck x =>
    simp only [opx, St.at] at h ⊢
    rw [hx x (by simp [Op.operands])]
    split at h
    · cases h; exact ⟨[], rfl, rfl⟩
    · cases h
  | binOp op t x y ty =>
    simp only [opx, St.at] at h ⊢
    rw [hx x (by simp [Op.operands]), hx y (by simp [Op.operands])]
    obtain ⟨ti, h1, h2⟩ := Option.bind_eq_some_iff.1 h
    obtain ⟨v', h3, h4⟩ := Option.map_eq_some_iff.1 h2
    cases h4
    exact ⟨[], rfl, by rw [h1, Option.bind_some, h3]; rfl⟩
  | unOp op t x =>
    simp only [opx, St.at] at h ⊢
    rw [hx x (by simp [Op.operands])]
    split at h
    · cases h; exact ⟨[], rfl, rfl⟩
    · cases h; exact ⟨[], rfl, rfl⟩
    · cases h
  | convert s d x =>
    simp only [opx, St.at] at h ⊢
    rw [hx x (by simp [Op.operands])]
    obtain ⟨si, h1, h2⟩ := Option.bind_eq_some_iff.1 h
    obtain ⟨ti, h3, h4⟩ := Option.bind_eq_some_iff.1 h2
    simp only [quietOp, h3] at hq
    rw [h1, Option.bind_some, h3, Option.bind_some]
    cases hk : ti.tk <;> rw [hk] at hq h4 <;> first
      | (cases hq; done)
      | (try dsimp only at h4 ⊢
         cases hn' : (ev S.F x).num with
         | none => rw [hn'] at h4; cases h4
         | some r =>
           rw [hn'] at h4
           dsimp only at h4 ⊢
           obtain ⟨v', h5, h6⟩ := Option.map_eq_some_iff.1 h4
           cases h6
           exact ⟨[], rfl, by rw [h5]; rfl⟩)
  | makeSlice t l c =>
    simp only [opx, St.at] at h ⊢
    rw [hx l (by simp [Op.operands]), hx c (by simp [Op.operands])]
    obtain ⟨ti, h1, h2⟩ := Option.bind_eq_some_iff.1 h
    obtain ⟨n, h3, h4⟩ := Option.bind_eq_some_iff.1 h2
    obtain ⟨m, h5, h6⟩ := Option.bind_eq_some_iff.1 h4
    obtain ⟨h7, h8⟩ := bif_some h6
    cases h8
    exact ⟨[_], rfl, by rw [h1, Option.bind_some, h3, Option.bind_some, h5, Option.bind_some, h7]; rfl⟩
  | slice t x lo hi mx =>
    cases mx with
    | some mo =>
      have e1 : opN F 0 lo = opN S.F 0 lo := opN_congr fun y hy => hx y (by subst hy; simp [Op.operands])
      have e3 := hx x (by simp [Op.operands])
      have e4 := hx mo (by simp [Op.operands])
      have e5 : ∀ y, hi = some y → ev F y = ev S.F y := fun y hy => hx y (by subst hy; simp [Op.operands])
      simp only [opx, St.at, depOf] at h hd ⊢
      rw [e1, e3, e4]
      obtain ⟨ti, h1, h2⟩ := Option.bind_eq_some_iff.1 h
      obtain ⟨l, h3, h4⟩ := Option.bind_eq_some_iff.1 h2
      obtain ⟨m, h5, h6⟩ := Option.bind_eq_some_iff.1 h4
      obtain ⟨hh, h7, h8⟩ := Option.bind_eq_some_iff.1 h6
      obtain ⟨ho, rfl, h7⟩ := Option.bind_eq_some_iff.1 h7
      rw [h1, Option.bind_some, h3, Option.bind_some, h5, Option.bind_some, Option.bind_some, e5 ho rfl, show asNat (ev S.F ho) = some hh from h7, Option.bind_some]
      split at h8
      · rename_i i o n he
        rw [he] at hd
        try dsimp only
        obtain ⟨h9, h10⟩ := bif_some h8
        cases h10
        exact ⟨[], rfl, by rw [holds_congr (hd i rfl), h9]; rfl⟩
      · obtain ⟨h9, h10⟩ := bif_some h8
        cases h10
        exact ⟨[], rfl, by try dsimp only
                           rw [h9]; rfl⟩
      · cases h8
    | none =>
      have e1 : opN F 0 lo = opN S.F 0 lo := opN_congr fun y hy => hx y (by subst hy; simp [Op.operands])
      have e2 : ∀ d, opN F d hi = opN S.F d hi := fun d => opN_congr fun y hy => hx y (by subst hy; simp [Op.operands])
      have e3 := hx x (by simp [Op.operands])
      simp only [opx, St.at, depOf] at h hd ⊢
      rw [e1, e3]
      simp only [e2]
      obtain ⟨ti, h1, h2⟩ := Option.bind_eq_some_iff.1 h
      obtain ⟨l, h3, h4⟩ := Option.bind_eq_some_iff.1 h2
      rw [h1, Option.bind_some, h3, Option.bind_some]
      split at h4
      · rename_i i o n he
        rw [he] at hd
        try dsimp only
        obtain ⟨hh, h5, h6⟩ := Option.bind_eq_some_iff.1 h4
        obtain ⟨h7, h8⟩ := bif_some h6
        rw [h5, Option.bind_some, holds_congr (hd i rfl), h7, cond_true]
        cases hb : Nat.beq l 0 || Nat.blt l n <;> rw [hb] at h8
        · cases h8
          rcases hn with hn | ⟨b, hn⟩
          · exact absurd hn (by simp)
          · exact absurd (congrArg List.length hn) (by simp)
        · cases h8; exact ⟨[], rfl, rfl⟩
      · rename_i he
        obtain ⟨hh, h5, h6⟩ := Option.bind_eq_some_iff.1 h4
        obtain ⟨h7, h8⟩ := bif_some h6
        cases h8
        exact ⟨[], rfl, by rw [h5, Option.bind_some, h7]; rfl⟩
      · rename_i i off n c he
        obtain ⟨hh, h5, h6⟩ := Option.bind_eq_some_iff.1 h4
        obtain ⟨h7, h8⟩ := bif_some h6
        cases h8
        exact ⟨[], rfl, by rw [h5, Option.bind_some, h7]; rfl⟩
      · rename_i i off he
        obtain ⟨hh, h5, h6⟩ := Option.bind_eq_some_iff.1 h4
        obtain ⟨h7, h8⟩ := bif_some h6
        cases h8
        exact ⟨[], rfl, by rw [h5, Option.bind_some, h7]; rfl⟩
      · cases h4
  | fieldAddr t x f =>
    simp only [opx, St.at] at h ⊢
    rw [hx x (by simp [Op.operands])]
    split at h
    · obtain ⟨ti, h1, h2⟩ := Option.bind_eq_some_iff.1 h
      obtain ⟨h3, h4⟩ := bif_some h2
      obtain ⟨p, h5, h6⟩ := Option.bind_eq_some_iff.1 h4
      obtain ⟨h7, h8⟩ := bif_some h6
      cases h8
      exact ⟨[], rfl, by (try dsimp only); rw [h1, Option.bind_some, h3, cond_true, h5, Option.bind_some, h7]; rfl⟩
    · cases h
  | field t x f =>
    simp only [opx, St.at] at h ⊢
    rw [hx x (by simp [Op.operands])]
    split at h
    · obtain ⟨ti, h1, h2⟩ := Option.bind_eq_some_iff.1 h
      obtain ⟨h3, h4⟩ := bif_some h2
      obtain ⟨p, h5, h6⟩ := Option.bind_eq_some_iff.1 h4
      obtain ⟨u, h7, h8⟩ := Option.map_eq_some_iff.1 h6
      cases h8
      exact ⟨[], rfl, by (try dsimp only); rw [h1, Option.bind_some, h3, cond_true, h5, Option.bind_some, h7]; rfl⟩
    · cases h
  | indexAddr t x i =>
    have e3 := hx x (by simp [Op.operands])
    have e4 := hx i (by simp [Op.operands])
    simp only [opx, St.at, depOf] at h hd ⊢
    rw [e3, e4]
    obtain ⟨ti, h1, h2⟩ := Option.bind_eq_some_iff.1 h
    obtain ⟨k, h3, h4⟩ := Option.bind_eq_some_iff.1 h2
    rw [h1, Option.bind_some, h3, Option.bind_some]
    split at h4
    · rename_i b o n he
      rw [he] at hd
      obtain ⟨h5, h6⟩ := bif_some h4
      cases h6
      exact ⟨[], rfl, by (try dsimp only); rw [holds_congr (hd b rfl), h5]; rfl⟩
    · rename_i b off n c he
      obtain ⟨h5, h6⟩ := bif_some h4
      cases h6
      exact ⟨[], rfl, by (try dsimp only); rw [h5]; rfl⟩
    · rename_i b off he
      obtain ⟨h5, h6⟩ := bif_some h4
      cases h6
      exact ⟨[], rfl, by (try dsimp only); rw [h5]; rfl⟩
    · cases h4
  | index t x i =>
    simp only [opx, St.at] at h ⊢
    rw [hx x (by simp [Op.operands]), hx i (by simp [Op.operands])]
    obtain ⟨ti, h1, h2⟩ := Option.bind_eq_some_iff.1 h
    obtain ⟨k, h3, h4⟩ := Option.bind_eq_some_iff.1 h2
    rw [h1, Option.bind_some, h3, Option.bind_some]
    split at h4
    · rename_i s he
      obtain ⟨h5, h6⟩ := bif_some h4
      obtain ⟨b, h7, h8⟩ := Option.map_eq_some_iff.1 h6
      cases h8
      exact ⟨[], rfl, by (try dsimp only); rw [h5, cond_true, h7]; rfl⟩
    · obtain ⟨h5, h6⟩ := bif_some h4
      obtain ⟨b, h7, h8⟩ := Option.map_eq_some_iff.1 h6
      cases h8
      exact ⟨[], rfl, by (try dsimp only); rw [h5, cond_true, h7]; rfl⟩
    · cases h4
  | extract x k =>
    simp only [opx, St.at] at h ⊢
    rw [hx x (by simp [Op.operands])]
    split at h
    · obtain ⟨u, h1, h2⟩ := Option.map_eq_some_iff.1 h
      cases h2
      exact ⟨[], rfl, by (try dsimp only); rw [h1]; rfl⟩
    · cases h
  | makeFunc fn az cs =>
    simp only [opx, St.at] at h ⊢
    split at h
    · cases hc : az.isEmpty && cs.isEmpty <;> rw [hc] at h
      · obtain ⟨h1, h2⟩ := bif_some h
        split at h2
        · rename_i y hy
          have hcs : cs = #[y] := by apply Array.toList_inj.1; exact hy
          have hx := hx y (by rw [hcs]; simp [Op.operands])
          split at h2
          · rename_i hp
            cases h2
            exact ⟨[], rfl, by simp only [h1, cond_true, cond_false, hy, hx, hp]; rfl⟩
          · cases h2
        · cases h2
      · cases h
        exact ⟨[], rfl, rfl⟩
    · cases h
  | _ => first | (cases h; done) | (cases hq; done)
end Go.Eng
namespace Go.Eng
variable [Val]
open Go.RowKit
variable {P : Program}
def Looked (G:GM) (F:Fr) (a:Act) (ts:List Tmp):Prop:=∀ t∈ts,dv G (slot F t)=some (a.tmps.getD t undef)
def PureQ (P:Program) (ops:Array Oper) (o:Oper) (S S':St) (v:AV):Prop :=
 S'.F=S.F∧S'.H=S.H∧S'.nx=S.nx∧(∀ p∈S.obs,p∈S'.obs)∧((∀ p∈S'.obs,p)→∀ {w:World} {G:GM} {O:Nat→Prop} {a:Act} {Hx:Hp},a.defers=[]→Looked G S.F a (o.looksAt ops)→(∀ b,depOf S.F o.op=some b→getA Hx b=getA S.H b)→Sat0 w G O Hx →
  ∃ u,dv G v=some u∧∀ {K:Act→World→Prop} {Q:Exit→Act→World→Prop},K (a.put o.dst u) w→Stepped P ops o a w K Q)
def NewQ (P:Program) (ops:Array Oper) (o:Oper) (S S':St) (v:AV):Prop :=
 ∃ (e:TypeId) (cs:List AV) (vf:Nat→Value),S'={ S with H:=(S.nx,.row e cs)::S.H,nx:=S.nx+1 }∧(∀ G,dv G v=(G S.nx).map fun x=>vf x.g) ∧
  ∀ {w:World} {G:GM} {a:Act},a.defers=[]→Looked G S.F a (o.looksAt ops)→∃ us,dns G cs=some us∧∀ {K:Act→World→Prop} {Q:Exit→Act→World→Prop},K (a.put o.dst (vf w.heap.size)) (w.alloc (.cells us.toArray e))→Stepped P ops o a w K Q
def restr (F:Fr):List Tmp→Fr
 | []=>[]
 | t::l=>(t,slot F t)::restr F l
theorem slot_restr (F:Fr):∀ (ts:List Tmp) (t:Tmp),slot (restr F ts) t=if t∈ts then slot F t else .tup []
 | [],t=>by simp [restr,slot,getA]
 | s::ts,t=>by
  rw [restr,slot_cons,slot_restr F ts t]
  by_cases e:t=s
  ·subst e;simp
  ·simp [e]
def actR (a:Act) (ts:List Tmp):Act:={ a with tmps:=(Array.range a.tmps.size).map fun t=>if t∈ts then a.tmps.getD t undef else undef }
theorem actR_get (a:Act) (ts:List Tmp) (t:Tmp):(actR a ts).tmps.getD t undef=if t∈ts then a.tmps.getD t undef else undef:=by
 unfold actR
 rw [Array.getD_eq_getD_getElem?]
 by_cases h:t < a.tmps.size
 ·simp [h]
 ·simp [h]
theorem actR_get? (a:Act) (ts:List Tmp) (t:Tmp) (h:t∈ts):(actR a ts).tmps[t]?=a.tmps[t]?:=by
 unfold actR
 by_cases hl:t < a.tmps.size
 ·simp [hl,h]
 ·simp [hl]
theorem ev_restr {ops:Array Oper} {o:Oper} (F:Fr) (x:Operand) (hx:x∈o.op.operands):ev (restr F (o.looksAt ops)) x=ev F x:=by
 cases x with
 | tmp t =>
  show slot _ _=slot _ _
  rw [slot_restr,if_pos]
  exact List.mem_append_left _ (List.mem_filterMap.2 ⟨.tmp t,by simpa using hx,rfl⟩)
 | _=>rfl
theorem restr_all {G:GM} {F:Fr} {a:Act} {ts:List Tmp} (h:Looked G F a ts) (x:Operand):dv G (ev (restr F ts) x)=some ((actR a ts).eval x):=by
 cases x with
 | tmp t =>
  show dv G (slot _ _)=some ((actR a ts).tmps.getD t undef)
  rw [slot_restr,actR_get]
  by_cases e:t∈ts
  ·rw [if_pos e,if_pos e];exact h t e
  ·rw [if_neg e,if_neg e];rfl
 | const v=>exact dv_ofVal v
 | global g=>rfl
 | func f=>rfl
theorem exec_restr {ops:Array Oper} {o:Oper} (a:Act) (hs:∀ cs b,o.op ≠ .select cs b):execOp (actR a (o.looksAt ops)).eval o=execOp a.eval o :=
 execOp_congr o hs fun x hx=>by
  cases x with
  | tmp t =>
   show (actR a _).tmps.getD t undef=a.tmps.getD t undef
   rw [actR_get,if_pos]
   exact List.mem_append_left _ (List.mem_filterMap.2 ⟨.tmp t,by simpa using hx,rfl⟩)
  | _=>rfl
theorem wanted_restr {ops:Array Oper} {o:Oper} (a:Act):Region.wanted o (yielded ops (actR a (o.looksAt ops)).tmps)=Region.wanted o (yielded ops a.tmps):=by
 unfold Region.wanted
 cases hg:o.guard with
 | none=>rfl
 | some gw =>
  obtain ⟨j,w⟩:=gw
  have:yielded ops (actR a (o.looksAt ops)).tmps j=yielded ops a.tmps j:=by
   unfold yielded
   cases hd:(ops[j]?).bind (·.dst) with
   | none=>rfl
   | some d =>
    simp only [Option.bind_some]
    rw [actR_get? a _ d (by
     unfold Oper.looksAt
     rw [hg];simp [hd])]
  simp only [this]
theorem wantedX_restr {ops:Array Oper} {o:Oper} (F:Fr):wantedX (restr F (o.looksAt ops)) ops o.guard=wantedX F ops o.guard:=by
 unfold wantedX
 cases hg:o.guard with
 | none=>rfl
 | some gw =>
  obtain ⟨j,w⟩:=gw
  dsimp only
  cases hd:(ops[j]?).bind (·.dst) with
  | none=>rfl
  | some d =>
   dsimp only
   rw [slot_restr,if_pos (by
    unfold Oper.looksAt
    rw [hg];simp [hd])]
theorem wanted_looked {G:GM} {F:Fr} {a:Act} {ops:Array Oper} {o:Oper} {b:Bool} (h:Looked G F a (o.looksAt ops)) (hd:a.defers=[]) (hw:wantedX F ops o.guard=some b):Region.wanted o (yielded ops a.tmps)=b:=by
 rw [← wanted_restr]
 refine wanted_ok (G:=G) (N:=(actR a (o.looksAt ops)).tmps.size) (F:=restr F (o.looksAt ops)) (a:=actR a (o.looksAt ops)) ⟨hd,rfl,fun t=>restr_all h (.tmp t)⟩ ?_
 rw [wantedX_restr];exact hw
theorem quiet_op {E:Env} (hE:EOK P E) {ops:Array Oper} {o:Oper} {S S':St} {v:AV} (hs:∀ cs b,o.op ≠ .select cs b) (h:opx E o.op S=some (v,S')) (hw:wantedX S.F ops o.guard=some true) (hq:quietOp E o.op=true) (hn:newOp o.op=true∨S'.nx=S.nx) :
  PureQ P ops o S S' v∨NewQ P ops o S S' v:=by
 have step:∀ {w w':World} {G:GM} {a:Act} {u:Value},a.defers=[]→Looked G S.F a (o.looksAt ops)→(∀ d ty ps af gd,(execOp (actR a (o.looksAt ops)).eval ⟨d,o.op,ty,ps,af,gd⟩).run P w = .ok (.value u) w')→∀ {K:Act→World→Prop} {Q:Exit→Act→World→Prop},K (a.put o.dst u) w'→Stepped P ops o a w K Q:=by
  intro w w' G a u hd hl hr K Q hK
  unfold Stepped
  rw [if_pos (wanted_looked hl hd hw)]
  unfold Oper.wp
  rw [← exec_restr (ops:=ops) a hs]
  have:=hr o.dst o.type o.pos o.after o.guard
  rw [show (⟨o.dst,o.op,o.type,o.pos,o.after,o.guard⟩:Oper)=o from rfl] at this
  rw [this]
  exact hK
 have hn':S'.nx=S.nx∨∃ b,S'.H=(S.nx,b)::S.H:=by
  rcases opx_ok (P:=P) hE.tt hE.bd h with ⟨_,_,h3,_⟩|⟨e,cs,vf,rfl,_⟩|⟨h0,_⟩
  ·exact .inl h3
  ·exact .inr ⟨_,rfl⟩
  ·rcases h0 with q|⟨q1,q2⟩
   ·rw [hq] at q;cases q
   ·rcases hn with q|q
    ·rw [q1] at q;cases q
    ·exact .inl q
 have star:∀ (F:Fr) (Hx:Hp),(∀ x∈o.op.operands,ev F x=ev S.F x)→(∀ b,depOf S.F o.op=some b→getA Hx b=getA S.H b) →
   ∃ add,S'.H=add++S.H∧OpGood P E o.op (S.at F Hx) (S'.at F (add++Hx)) v:=fun F Hx h1 h2=>by
  obtain ⟨add,k1,k2⟩:=opx_congr h hq hn' h1 h2
  exact ⟨add,k1,opx_ok hE.tt hE.bd k2⟩
 have hF:S'.F=S.F∧∀ p∈S.obs,p∈S'.obs:=⟨(opx_ok (P:=P) hE.tt hE.bd h).seq.1,(opx_ok (P:=P) hE.tt hE.bd h).seq.2.1.2.2⟩
 rcases opx_ok (P:=P) hE.tt hE.bd h with ⟨h1,h2,h3,h4,_⟩|⟨e,cs,vf,h1,h2,_⟩|⟨h0,_⟩
 ·refine .inl ⟨h1,h2,h3,h4,fun ho w G O a Hx hd hl hdep hS=>?_⟩
  obtain ⟨add,k1,k2⟩:=star (restr S.F (o.looksAt ops)) Hx (fun x hx=>ev_restr S.F x hx) hdep
  have ha:add=[]:=by
   have:=congrArg List.length (k1.symm.trans h2)
   simp at this;exact this
  subst ha
  rcases k2 with ⟨_,_,_,_,k6⟩|⟨e,cs,vf,k3,_⟩|⟨k0,_⟩
  ·obtain ⟨u,g1,g2⟩:=k6 ho (a:=actR a (o.looksAt ops)) (fun x=>restr_all hl x) hS
   exact ⟨u,g1,step hd hl g2⟩
  ·have:=congrArg St.nx k3
   simp only [St.at] at this;omega
  ·rcases k0 with q|⟨q1,q2⟩
   ·rw [hq] at q;cases q
   ·simp only [St.at] at q2;omega
 ·refine .inr ⟨e,cs,vf,h1,h2,fun {w G a} hd hl=>?_⟩
  obtain ⟨add,k1,k2⟩:=star (restr S.F (o.looksAt ops)) S.H (fun x hx=>ev_restr S.F x hx) (fun _ _=>rfl)
  have ha:add=[(S.nx,.row e cs)]:=by
   rw [h1] at k1
   have:[(S.nx,Blk.row e cs)]++S.H=add++S.H:=k1
   exact (List.append_cancel_right this).symm
  subst ha
  rcases k2 with ⟨_,_,k3,_⟩|⟨e',cs',vf',k3,k4,k5⟩|⟨k0,_⟩
  ·rw [h1] at k3;simp only [St.at] at k3;omega
  ·have hrow:e'=e∧cs'=cs:=by
    have:=congrArg St.H k3
    simp only [St.at,List.cons_append,List.nil_append,List.cons.injEq,Prod.mk.injEq,Blk.row.injEq] at this
    exact ⟨this.1.2.1.symm,this.1.2.2.symm⟩
   obtain ⟨rfl,rfl⟩:=hrow
   obtain ⟨us,g1,g2⟩:=k5 (w:=w) (G:=G) (a:=actR a (o.looksAt ops)) (fun x=>restr_all hl x)
   have hvf:vf' w.heap.size=vf w.heap.size:=by
    have e1:=k4 (fun _=>some ⟨w.heap.size,0,0,0,undef⟩)
    have e2:=h2 (fun _=>some ⟨w.heap.size,0,0,0,undef⟩)
    rw [e1] at e2
    simpa using e2
   rw [hvf] at g2
   exact ⟨us,g1,step hd hl g2⟩
  ·rcases k0 with q|⟨q1,q2⟩
   ·rw [hq] at q;cases q
   ·rcases hn with q|q
    ·rw [q1] at q;cases q
    ·rw [h1] at q;simp only at q;omega
 ·rcases h0 with q|⟨q1,q2⟩
  ·rw [hq] at q;cases q
  ·rcases hn with q|q
   ·rw [q1] at q;cases q
   ·omega
theorem bltin_quiet {E:Env} {b:Builtin} {ts:List TypeId} {args:List AV} {S S':St} {v:AV} (hb:b = .len∨b = .cap∨b = .min∨b = .max) (h:bltin E b ts args S=some (v,S')):S'=S∧∀ S1:St,bltin E b ts args S1=some (v,S1):=by
 unfold bltin at h ⊢
 cases ts with
 | nil=>cases h
 | cons t ts =>
  dsimp only at h ⊢
  obtain ⟨ti,h1,h2⟩:=Option.bind_eq_some_iff.1 h
  rw [h1]
  simp only [Option.bind_some]
  rcases hb with rfl|rfl|rfl|rfl
  ·rcases args with _|⟨x,_|⟨y,l⟩⟩<;>first|(cases h2;done)|skip
   dsimp only at h2 ⊢
   cases hk:ti.tk<;>rw [hk] at h2<;>first
    | (cases h2;exact ⟨rfl,fun _=>rfl⟩)
    | (cases x<;>first|(cases h2;done)|(cases h2;exact ⟨rfl,fun _=>rfl⟩))
  ·rcases args with _|⟨x,_|⟨y,l⟩⟩<;>first|(cases h2;done)|skip
   dsimp only at h2 ⊢
   cases hk:ti.tk<;>rw [hk] at h2<;>first
    | (cases h2;done)
    | (cases x<;>first|(cases h2;done)|(cases h2;exact ⟨rfl,fun _=>rfl⟩))
  ·rcases args with _|⟨x,_|⟨y,_|⟨z,l⟩⟩⟩<;>first|(cases h2;done)|skip
   dsimp only at h2 ⊢
   cases hx:x.num<;>cases hy:y.num<;>rw [hx,hy] at h2<;>first|(cases h2;done)|skip
   rename_i p q
   dsimp only at h2 ⊢
   cases hkn:p.2.kn&&q.2.kn<;>rw [hkn] at h2
   ·obtain ⟨t,q1,q2⟩:=Option.map_eq_some_iff.1 (show Option.map _ _=_ from h2)
    cases q2
    exact ⟨rfl,fun S1=>by rw [q1];rfl⟩
   ·cases h2;exact ⟨rfl,fun _=>rfl⟩
  ·rcases args with _|⟨x,_|⟨y,_|⟨z,l⟩⟩⟩<;>first|(cases h2;done)|skip
   dsimp only at h2 ⊢
   cases hx:x.num<;>cases hy:y.num<;>rw [hx,hy] at h2<;>first|(cases h2;done)|skip
   rename_i p q
   dsimp only at h2 ⊢
   cases hkn:p.2.kn&&q.2.kn<;>rw [hkn] at h2
   ·obtain ⟨t,q1,q2⟩:=Option.map_eq_some_iff.1 (show Option.map _ _=_ from h2)
    cases q2
    exact ⟨rfl,fun S1=>by rw [q1];rfl⟩
   ·cases h2;exact ⟨rfl,fun _=>rfl⟩
theorem quiet_blt {E:Env} (hE:EOK P E) {ops:Array Oper} {o:Oper} {S S':St} {v:AV} {c:Call} {b:Builtin} (hop:o.op = .call c) (hc:c.callee = .builtin b) (hq:quietOp E o.op=true) (hw:wantedX S.F ops o.guard=some true) (h:bltin E b c.argTypes.toList (evl S.F c.args.toList) S=some (v,S')) :
  PureQ P ops o S S' v:=by
 have hqb:b = .len∨b = .cap∨b = .min∨b = .max:=by
  rw [hop] at hq
  simp only [quietOp,hc] at hq
  split at hq<;>first|(cases hq;done)|(rename_i e;cases e;simp)
 obtain ⟨rfl,hb⟩:=bltin_quiet hqb h
 refine ⟨rfl,rfl,rfl,fun _ h=>h,fun ho w G O a Hx hd hl hdep hS=>?_⟩
 have he:evl (restr S'.F (o.looksAt ops)) c.args.toList=evl S'.F c.args.toList:=evl_congr fun x hx=>ev_restr S'.F x (by
  rw [hop];simp [Op.operands,Call.operands,hc];simpa using hx)
 have h2:=hb (S'.at (restr S'.F (o.looksAt ops)) Hx)
 rcases bltin_ok (P:=P) hE.tt hE.bd h2 with ⟨_,k⟩|⟨k,_⟩
 ·have hdv:dvl G (evl (restr S'.F (o.looksAt ops)) c.args.toList) (c.args.toList.map (actR a (o.looksAt ops)).eval) :=
   evl_ok (F:=restr S'.F (o.looksAt ops)) (N:=(actR a (o.looksAt ops)).tmps.size) (a:=actR a (o.looksAt ops)) ⟨hd,rfl,fun t=>restr_all hl (.tmp t)⟩ _
  rw [he] at hdv
  obtain ⟨u,g1,g2⟩:=k hdv hS
  refine ⟨u,g1,fun {K Q} hK=>?_⟩
  unfold Stepped
  rw [if_pos (wanted_looked hl hd hw)]
  unfold Oper.wp
  rw [← exec_restr (ops:=ops) a (by rw [hop];intro _ _ q;cases q)]
  have e3:(List.map (actR a (o.looksAt ops)).eval c.args.toList).toArray=c.args.map (actR a (o.looksAt ops)).eval:=by apply Array.toList_inj.1;simp
  have e4:c.argTypes.toList.toArray=c.argTypes:=rfl
  have hrun:(execOp (actR a (o.looksAt ops)).eval o).run P w = .ok (.value u) w:=by
   unfold execOp
   simp only [hop,resolve,hc,Sem.run_bind,Sem.run_pure,Result.andThen_ok,invoke]
   simp only [e3,e4] at g2
   exact g2 _ _
  rw [hrun]
  exact hK
 ·rcases hqb with rfl|rfl|rfl|rfl<;>(rcases k with q|q|q<;>cases q)
theorem quiet_none {ops:Array Oper} {o:Oper} {S:St} (hw:wantedX S.F ops o.guard=some false):PureQ P ops o S S (.tup []):=by
 refine ⟨rfl,rfl,rfl,fun _ h=>h,fun ho w G O a Hx hd hl hdep hS=>⟨undef,rfl,fun {K Q} hK=>?_⟩⟩
 unfold Stepped
 rw [if_neg (by rw [wanted_looked hl hd hw];simp)]
 exact hK
end Go.Eng
namespace Go.Eng
variable [Val]
open Go.RowKit
structure DS (E:Env) (step:Stp) (N nx0:Nat) (ops:Array Oper) (x:PE) (W:Ws) (S:St) (v:AV) (Sa:St) (W1:Ws) (S1:St):Prop where
 dep:quietOp E (opAt ops x.i).op=true→depOk nx0 x.m (depOf S.F (opAt ops x.i).op) W=true
 st:step (opAt ops x.i) S=some (v,Sa)
 nw:quietOp E (opAt ops x.i).op=true→newOp (opAt ops x.i).op=true∨Sa.nx=S.nx
 pt:putF N Sa.F (opAt ops x.i).dst v=some S1.F
 s1:S1={ Sa with F:=S1.F }
 w1:W1=(bif quietOp E (opAt ops x.i).op then W else (x.i,chgKeys Sa.H S.H (keysOf (Sa.H.take (Sa.H.length-S.H.length))))::W)
inductive Occ (E:Env) (step:Stp) (N nx0:Nat) (ops:Array Oper):List PE→Ws→St→List PE→PE→Ws→St→AV→St→Prop
 | here {x l W S v Sa W1 S1}:DS E step N nx0 ops x W S v Sa W1 S1→Occ E step N nx0 ops (x::l) W S [] x W S v Sa
 | there {x l W S v Sa W1 S1 l1 y Wb Sb vb Sc}:DS E step N nx0 ops x W S v Sa W1 S1→Occ E step N nx0 ops l W1 S1 l1 y Wb Sb vb Sc→Occ E step N nx0 ops (x::l) W S (x::l1) y Wb Sb vb Sc
section
variable {P : Program} {E : Env} {step : Stp} {N nx0 : Nat} {ops : Array Oper}
theorem drawX_ds {x:PE} {l:List PE} {W:Ws} {S:St} {r:Ws×St} (h:drawX E step N ops nx0 (x::l) W S=some r):∃ v Sa W1 S1,DS E step N nx0 ops x W S v Sa W1 S1∧drawX E step N ops nx0 l W1 S1=some r:=by
 obtain ⟨v,Sa,F,h1,h2,h7,h3,h4⟩:=drawX_cons h
 exact ⟨v,Sa,_,{ Sa with F:=F },⟨h1,h2,h7,h3,rfl,rfl⟩,h4⟩
theorem DS.uniq {x:PE} {W:Ws} {S:St} {v v':AV} {Sa Sa':St} {W1 W1':Ws} {S1 S1':St} (h:DS E step N nx0 ops x W S v Sa W1 S1) (k:DS E step N nx0 ops x W S v' Sa' W1' S1'):v=v'∧Sa=Sa'∧W1=W1'∧S1=S1':=by
 have e:=Option.some.inj (h.st.symm.trans k.st)
 cases e
 have f:=Option.some.inj (h.pt.symm.trans k.pt)
 refine ⟨rfl,rfl,h.w1.trans k.w1.symm,?_⟩
 rw [h.s1,k.s1,f]
theorem occ_ex {y:PE}:∀ {l:List PE} {W:Ws} {S:St} {r:Ws×St},drawX E step N ops nx0 l W S=some r→y∈l→∃ l1 Wb Sb v Sa,Occ E step N nx0 ops l W S l1 y Wb Sb v Sa
 | [],W,S,r,h,hy=>by cases hy
 | x::l,W,S,r,h,hy=>by
  obtain ⟨v,Sa,W1,S1,h1,h2⟩:=drawX_ds h
  rcases List.mem_cons.1 hy with rfl|hy
  ·exact ⟨_,_,_,_,_,.here h1⟩
  ·obtain ⟨l1,Wb,Sb,v',Sc,k⟩:=occ_ex h2 hy
   exact ⟨_,_,_,_,_,.there h1 k⟩
theorem occ_split {l W S l1 y Wb Sb v Sa} (h:Occ E step N nx0 ops l W S l1 y Wb Sb v Sa):∃ l2,l=l1++y::l2:=by
 induction h with
 | here _=>exact ⟨_,rfl⟩
 | there _ _ ih=>obtain ⟨l2,rfl⟩:=ih;exact ⟨l2,rfl⟩
theorem occ_W {l W S l1 y Wb Sb v Sa} (h:Occ E step N nx0 ops l W S l1 y Wb Sb v Sa):∀ j∈W,j∈Wb:=by
 induction h with
 | here _=>exact fun _ h=>h
 | there h _ ih =>
  intro j hj
  refine ih j ?_
  rw [h.w1]
  cases quietOp E _
  ·exact List.mem_cons_of_mem _ hj
  ·exact hj
theorem occ_ds {l W S l1 y Wb Sb v Sa} (h:Occ E step N nx0 ops l W S l1 y Wb Sb v Sa):∃ W1 S1,DS E step N nx0 ops y Wb Sb v Sa W1 S1:=by
 induction h with
 | here h=>exact ⟨_,_,h⟩
 | there _ _ ih=>exact ih
theorem putF_slot {F F':Fr} {d:Option Nat} {v:AV} (h:putF N F d v=some F') (t:Nat):slot F' t=if d=some t then v else slot F t:=by
 cases d with
 | none=>cases h;simp
 | some d =>
  obtain ⟨_,h2⟩:=bif_some h
  cases h2
  rw [slot_cons]
  by_cases e:t=d
  ·subst e;simp
  ·rw [if_neg e,if_neg (fun q=>e (Option.some.inj q).symm)]
structure Steps' (P:Program) (E:Env) (step:Stp) (N:Nat) (ops:Array Oper):Prop where
 good:∀ o S v S',step o S=some (v,S')→StepGood P N ops o S S' v
 quiet:∀ o S v S',step o S=some (v,S')→quietOp E o.op=true→(newOp o.op=true∨S'.nx=S.nx)→PureQ P ops o S S' v∨NewQ P ops o S S' v
variable (hs : Steps' P E step N ops)
include hs
theorem DS.frm {x W S v Sa W1 S1} (h:DS E step N nx0 ops x W S v Sa W1 S1):Sa.F=S.F∧Frm S Sa∧S1.H=Sa.H∧S1.nx=Sa.nx∧S1.obs=Sa.obs∧∀ t,slot S1.F t=if (opAt ops x.i).dst=some t then v else slot S.F t:=by
 obtain ⟨k1,k2,_⟩:=hs.good _ _ _ _ h.st
 refine ⟨k1,k2,by rw [h.s1],by rw [h.s1],by rw [h.s1],fun t=>?_⟩
 rw [putF_slot h.pt,k1]
theorem draw_obs:∀ {l:List PE} {W:Ws} {S:St} {r:Ws×St},drawX E step N ops nx0 l W S=some r→S.nx≤r.2.nx∧∀ p∈S.obs,p∈r.2.obs
 | [],W,S,r,h=>by cases h;exact ⟨Nat.le_refl _,fun _ h=>h⟩
 | x::l,W,S,r,h=>by
  obtain ⟨v,Sa,W1,S1,h1,h2⟩:=drawX_ds h
  obtain ⟨_,⟨_,k2,k3⟩,_,k4,k5,_⟩:=h1.frm hs
  obtain ⟨g1,g2⟩:=draw_obs h2
  exact ⟨by omega,fun p hp=>g2 p (by rw [k5];exact k3 p hp)⟩
theorem occ_obs {l W S l1 y Wb Sb v Sa} {r:Ws×St} (h:Occ E step N nx0 ops l W S l1 y Wb Sb v Sa) (k:drawX E step N ops nx0 l W S=some r):∀ p∈Sa.obs,p∈r.2.obs:=by
 induction h with
 | here h =>
  obtain ⟨v,Sa',W1,S1,h1,h2⟩:=drawX_ds k
  obtain ⟨-,rfl,-,-⟩:=h.uniq h1
  intro p hp
  exact (draw_obs hs h2).2 p (by rw [(h1.frm hs).2.2.2.2.1];exact hp)
 | there h _ ih =>
  obtain ⟨v,Sa',W1,S1,h1,h2⟩:=drawX_ds k
  obtain ⟨-,-,rfl,rfl⟩:=h.uniq h1
  exact ih h2
theorem occ_nx {l W S l1 y Wb Sb v Sa} (h:Occ E step N nx0 ops l W S l1 y Wb Sb v Sa):S.nx≤Sb.nx:=by
 induction h with
 | here _=>exact Nat.le_refl _
 | there h _ ih=>obtain ⟨_,⟨_,k2,_⟩,_,k4,_⟩:=h.frm hs;omega
theorem occ_slot {l W S l1 y Wb Sb v Sa} (h:Occ E step N nx0 ops l W S l1 y Wb Sb v Sa) (t:Nat) :
  (slot Sb.F t=slot S.F t∧∀ z∈l1,(opAt ops z.i).dst≠some t)∨∃ z∈l1,(opAt ops z.i).dst=some t∧∃ lz Wz Sz vz Sc,Occ E step N nx0 ops l W S lz z Wz Sz vz Sc∧slot Sb.F t=vz:=by
 induction h with
 | here _=>exact .inl ⟨rfl,fun z hz=>by cases hz⟩
 | @there x l W S v Sa W1 S1 l1 y Wb Sb vb Sc h h' ih =>
  obtain ⟨_,_,_,_,_,k⟩:=h.frm hs
  rcases ih with ⟨i1,i2⟩|⟨z,i1,i2,lz,Wz,Sz,vz,Sd,i3,i4⟩
  ·by_cases e:(opAt ops x.i).dst=some t
   ·exact .inr ⟨x,List.mem_cons_self ..,e,_,_,_,_,_,.here h,by rw [i1,k,if_pos e]⟩
   ·refine .inl ⟨by rw [i1,k,if_neg e],fun z hz=>?_⟩
    rcases List.mem_cons.1 hz with rfl|hz
    ·exact e
    ·exact i2 z hz
  ·exact .inr ⟨z,List.mem_cons_of_mem _ i1,i2,_,_,_,_,_,.there h i3,i4⟩
omit hs in
theorem memN_keys {b:Nat}:∀ {pre:Hp},memN (keysOf pre) b=false→∀ H,getA (pre++H) b=getA H b
 | [],_,H=>rfl
 | (k,x)::pre,h,H=>by
  simp only [keysOf,memN,Bool.or_eq_false_iff] at h
  rw [List.cons_append,getA_cons,if_neg (fun e=>by subst e;simp at h),memN_keys h.2]
theorem occ_dep {l W S l1 y Wb Sb v Sa} (h:Occ E step N nx0 ops l W S l1 y Wb Sb v Sa) (hn:nx0≤S.nx) {b:Nat} (hb:b < nx0) (hW:∀ j∈Wb,(∃ z∈l1,z.i=j.1∧quietOp E (opAt ops z.i).op=false)→memN j.2 b=false):getA Sb.H b=getA S.H b:=by
 induction h with
 | here _=>rfl
 | @there x l W S v Sa W1 S1 l1 y Wb Sb vb Sc h h' ih =>
  obtain ⟨_,⟨⟨pre,k1⟩,k2,_⟩,k3,k4,_,_⟩:=h.frm hs
  rw [ih (by omega) (fun j hj ⟨z,z1,z2⟩=>hW j hj ⟨z,List.mem_cons_of_mem _ z1,z2⟩),k3]
  cases hq:quietOp E (opAt ops x.i).op
  ·have:=h.w1
   rw [hq] at this
   have:=hW _ (occ_W h' (x.i,chgKeys Sa.H S.H (keysOf (Sa.H.take (Sa.H.length-S.H.length)))) (by rw [this];exact List.mem_cons_self ..)) ⟨x,List.mem_cons_self ..,rfl,hq⟩
   have e:Sa.H.take (Sa.H.length-S.H.length)=pre:=by
    rw [k1];simp
   rw [e] at this
   cases hm:memN (keysOf pre) b with
   | true=>exact chgKeys_ok this hm
   | false=>rw [k1,memN_keys hm]
  ·rcases hs.quiet _ _ _ _ h.st hq (h.nw hq) with q|⟨e,cs,vf,q,_⟩
   ·rw [q.2.1]
   ·rw [q]
    show getA ((S.nx,_)::S.H) b=_
    rw [getA_cons,if_neg (by omega)]
end
theorem Act.put_df (a:Act) (d:Option Tmp) (u:Value):(a.put d u).defers=a.defers:=by cases d<;>rfl
theorem Act.put_sz (a:Act) (d:Option Tmp) (u:Value):(a.put d u).tmps.size=a.tmps.size:=by cases d<;>simp [Act.put]
theorem Stepped_congr {P:Program} {ops:Array Oper} {o:Oper} {a a':Act} {w:World} {K K':Act→World→Prop} {Q:Exit→Act→World→Prop} (hd:a.defers=[]) (hd':a'.defers=[]) (hz:a.tmps.size=a'.tmps.size) (hsel:∀ cs b,o.op ≠ .select cs b)
  (hl:∀ t∈o.looksAt ops,a.tmps.getD t undef=a'.tmps.getD t undef) (h:Stepped P ops o a' w K' (fun _ _ _=>False)) (hK0:∀ b w',K' b w'→b.defers=[]) (hK:∀ u w',K' (a'.put o.dst u) w'→K (a.put o.dst u) w'):Stepped P ops o a w K Q:=by
 have hR:actR a (o.looksAt ops)={ a with tmps:=(actR a' (o.looksAt ops)).tmps }:=by
  unfold actR
  congr 1
  rw [hz]
  refine Array.ext (by simp) fun i h1 h2=>?_
  simp only [Array.getElem_map,Array.getElem_range]
  split
  ·rename_i hm;exact hl i hm
  ·rfl
 have hW:Region.wanted o (yielded ops a.tmps)=Region.wanted o (yielded ops a'.tmps):=by
  rw [← wanted_restr (a:=a),← wanted_restr (a:=a'),hR]
 have he:execOp a.eval o=execOp a'.eval o:=by
  rw [← exec_restr (ops:=ops) a hsel,← exec_restr (ops:=ops) a' hsel]
  refine execOp_congr o hsel fun x _=>?_
  cases x with
  | tmp t=>show (actR a _).tmps.getD t undef=_;rw [hR];rfl
  | _=>rfl
 unfold Stepped at h ⊢
 rw [hW]
 split
 ·rename_i hw
  rw [if_pos hw] at h
  unfold Oper.wp at h ⊢
  rw [he]
  generalize (execOp a'.eval o).run P w=r at h
  cases r with
  | ok n w' =>
   cases n with
   | value v=>exact hK _ _ h
   | skip=>exact hK _ _ h
   | defer d =>
    have:=hK0 _ _ h
    rw [Act.put_df] at this
    cases this
   | enter f args =>
    refine Calls.mono h fun e w'' he=>?_
    cases e<;>first|exact hK _ _ he|exact he.elim|(obtain ⟨_,_,q⟩:=he;exact q.elim)
   | row f args=>exact Rows.mono h fun _ _ he=>hK _ _ he
   | _=>exact h.elim
  | halt x w'=>cases x<;>exact h.elim
 ·rename_i hw
  rw [if_neg hw] at h
  exact hK _ _ h
end Go.Eng
namespace Go.Eng
variable [Val]
open Go.RowKit
def plus (G R:GM):GM:=fun i=>match G i with
 | some x=>some x
 | none=>R i
theorem plus_le {G R:GM}:GLe G (plus G R):=fun i x h=>by simp [plus,h]
theorem plus_mono {G G' R:GM} (h:GLe G G') (k:∀ i x,R i=some x→G' i=none):GLe (plus G R) (plus G' R):=fun i x q=>by
 unfold plus at q ⊢
 cases hg:G i with
 | some y=>rw [hg] at q;rw [h i y hg];exact q
 | none=>rw [hg] at q;rw [k i x q];exact q
theorem Sat0.mono {w:World} {G G':GM} {O:Nat→Prop} {H:Hp} (h:Sat0 w G O H) (hg:GLe G G'):Sat0 w G' O H:=by
 refine ⟨fun i b hi hl=>?_,fun i j b c x y hi hb hj hc hx hy he=>?_⟩
 ·obtain ⟨x,h1,h2,h3,h4⟩:=h.bs i b hi hl
  exact ⟨x,hg i x h1,h2,h3,h4.mono hg rfl⟩
 ·obtain ⟨x',h1,_⟩:=h.bs i b hi hb
  obtain ⟨y',k1,_⟩:=h.bs j c hj hc
  have e1:=hg i x' h1;rw [hx] at e1;cases e1
  have e2:=hg j y' k1;rw [hy] at e2;cases e2
  exact h.inj i j b c x y hi hb hj hc h1 k1 he
theorem Sat.alloc {w:World} {G:GM} {O:Nat→Prop} {H:Hp} {nx:Nat} (h:Sat w G O H nx) (o:Obj):Sat (w.alloc o) G O H nx∧Adv w G O (w.alloc o) G O:=by
 refine ⟨⟨⟨fun i b hi hl=>?_,h.inj⟩,h.fresh,fun x hx=>?_,h.gh.upd (GLe.refl G) (S:=fun _=>False) ⟨rfl,rfl,rfl,by simp,fun k hk _=>Below.heap_alloc _ _ _ hk⟩ (fun _ _ q=>q.elim) (fun _ q=>q) (fun _ _ q=>q) (fun i b y hi hb hy => .inl ⟨b,hi,hb,hy⟩) (fun _ _ q=>q) (fun _ q=>q.elim),h.ob,Nat.le_trans h.bw (by simp)⟩,GLe.refl G,⟨rfl,rfl,rfl,by simp,fun k hk _=>Below.heap_alloc _ _ _ hk⟩,fun _ h => .inl h⟩
 ·obtain ⟨x,h1,h2,h3,h4⟩:=h.bs i b hi hl
  exact ⟨x,h1,h2,by simp;omega,h4.mono (GLe.refl G) (Below.heap_alloc _ _ _ h3)⟩
 ·have:=h.olt x hx
  simp;omega
theorem Sat.adopt {w:World} {G:GM} {O:Nat→Prop} {H:Hp} {nx:Nat} (h:Sat w G O H nx) (x:GI) (b:Blk) (ho:¬ O x.g) (hlt:x.g < w.heap.size) (hlo:Val.b≤x.g) (hb:BS w (fun j=>if j=nx then some x else G j) x b) :
  Sat w (fun j=>if j=nx then some x else G j) (fun y=>O y∨y=x.g) ((nx,b)::H) (nx+1):=by
 have hg:GLe G (fun j=>if j=nx then some x else G j):=fun i y hi=>by
  have:=h.lt hi
  show (if i=nx then _ else _)=_
  rw [if_neg (by omega)];exact hi
 have hf:∀ j c y,getA H j=some c→c.live→G j=some y→y.g≠x.g:=fun j c y hj hl hy e=>by
  obtain ⟨y',h1,h2,_⟩:=h.bs j c hj hl
  rw [hy] at h1;cases h1
  rw [e] at h2;exact ho h2
 refine ⟨⟨?_,?_⟩,?_,fun y hy=>by rcases hy with q|q;exact h.olt y q;rw [q];exact hlt,
  h.gh.upd hg (UpdP.refl (fun _=>False) w) (fun _ _ q=>q.elim) (fun _ q => .inl q) (h0_cons hb.ng) (fun i c y hi hl hy=>by
   rw [getA_cons] at hi
   by_cases e:i=nx
   ·simp only [if_pos e,Option.some.injEq] at hy
    exact .inr (.inr fun q=>ho (by rw [hy];exact q))
   ·rw [if_neg e] at hi;simp only [if_neg e] at hy
    exact .inl ⟨c,hi,hl,hy⟩) (fun _ _ q=>q) (fun _ q=>q.elim),fun y q=>q.elim (h.ob y) (fun e=>by rw [e];exact hlo),h.bw⟩
 ·intro i c hi hl
  rw [getA_cons] at hi
  by_cases e:i=nx
  ·subst e;rw [if_pos rfl] at hi;cases hi
   exact ⟨x,if_pos rfl,.inr rfl,hlt,hb⟩
  ·rw [if_neg e] at hi
   obtain ⟨y,h1,h2,h3,h4⟩:=h.bs i c hi hl
   exact ⟨y,by show (if i=nx then _ else _)=_;rw [if_neg e];exact h1,.inl h2,h3,h4.mono hg rfl⟩
 ·intro i j c d y z hi hc hj hd hy hz he
  rw [getA_cons] at hi hj
  by_cases e:i=nx<;>by_cases f:j=nx
  ·omega
  ·exfalso
   rw [if_neg f] at hj
   simp only [if_neg f] at hz;simp only [if_pos e,Option.some.injEq] at hy
   exact hf j d z hj hd hz (by rw [← he,← hy])
  ·exfalso
   rw [if_neg e] at hi
   simp only [if_neg e] at hy;simp only [if_pos f,Option.some.injEq] at hz
   exact hf i c y hi hc hy (by rw [he,← hz])
  ·rw [if_neg e] at hi;rw [if_neg f] at hj
   simp only [if_neg e] at hy;simp only [if_neg f] at hz
   exact h.inj i j c d y z hi hc hj hd hy hz he
 ·intro i hi
  show (if i=nx then _ else _)=_
  rw [if_neg (by omega)];exact h.fresh i (by omega)
theorem put_getD (a:Act) (d:Option Tmp) (u:Value) (t:Nat):(a.put d u).tmps.getD t undef=if d=some t∧t < a.tmps.size then u else a.tmps.getD t undef:=by
 cases d with
 | none=>simp [Act.put]
 | some d =>
  show (a.tmps.setIfInBounds d u).getD t undef=_
  by_cases h:d < a.tmps.size
  ·rw [getD_set _ _ _ _ _ h]
   by_cases e:t=d
   ·subst e;simp [h]
   ·rw [if_neg e,if_neg (fun q=>e (Option.some.inj q.1).symm)]
  ·have:a.tmps.setIfInBounds d u=a.tmps:=by simp [Array.setIfInBounds,h]
   rw [this,if_neg]
   rintro ⟨q,r⟩
   cases q;exact h r
theorem putF_lt {N:Nat} {F F':Fr} {d:Nat} {v:AV} (h:putF N F (some d) v=some F'):d < N:=by
 obtain ⟨h1,_⟩:=bif_some h
 simpa [Nat.blt_eq] using h1
theorem pair_dst {ops:Array Oper} {x y:PE} (h:pairOk ops x y=true) (d:Tmp) (hx:(opAt ops x.i).dst=some d):(opAt ops y.i).dst≠some d:=by
 intro hy
 simp only [pairOk,Bool.and_eq_true] at h
 rw [hx,hy] at h
 simp [dstNe] at h
theorem pair_ne {ops:Array Oper} {x y:PE} (h:pairOk ops x y=true):x.i≠y.i:=by
 intro e
 simp only [pairOk,Bool.and_eq_true] at h
 rw [e] at h;simp at h
theorem pair_looks {ops:Array Oper} {x y:PE} (h:pairOk ops x y=true) (hb:x.m.testBit y.i=false):(∀ t∈(opAt ops x.i).looksAt ops,(opAt ops y.i).dst≠some t)∧∀ t∈(opAt ops y.i).looksAt ops,(opAt ops x.i).dst≠some t:=by
 simp only [pairOk,Bool.and_eq_true,Bool.or_eq_true,hb,Bool.false_eq_true,false_or,Bool.not_eq_true'] at h
 obtain ⟨_,h1,h2⟩:=h
 refine ⟨fun t ht e=>?_,fun t ht e=>?_⟩
 ·rw [e] at h1;simp [looks,ht] at h1
 ·rw [e] at h2;simp [looks,ht] at h2
section
variable {P : Program} {E : Env} {step : Stp} {N nx0 : Nat} {ops : Array Oper}
theorem plan_two {l1 l2 l3 D:List PE} {x y:PE} (h:planOk E ops (l1++x::(l2++y::l3)) D=true) (hD:AncOk ops D):pairOk ops y x=true:=by
 rw [show l1++x::(l2++y::l3)=(l1++x::l2)++y::l3 by simp] at h
 exact (planOk_at h hD).pair x (by simp)
theorem plan_nodup:∀ {l D:List PE},planOk E ops l D=true→AncOk ops D→(l.map (·.i)).Nodup
 | [],_,_,_=>List.nodup_nil
 | x::l,D,h,hD=>by
  obtain ⟨_,h2,h3⟩:=planOk_cons h hD
  refine List.nodup_cons.2 ⟨fun q=>?_,plan_nodup h2 h3⟩
  obtain ⟨y,k1,k2⟩:=List.mem_map.1 q
  obtain ⟨l2,l3,rfl⟩:=List.append_of_mem k1
  exact pair_ne (plan_two (l1:=[]) h hD) k2
theorem plan_len:∀ {l D:List PE},planOk E ops l D=true→D.length+l.length=ops.size
 | [],D,h=>by
  simp only [planOk] at h
  simpa using Nat.eq_of_beq_eq_true h
 | x::l,D,h=>by
  simp only [planOk,Bool.and_eq_true] at h
  have:=plan_len h.2
  simp at this ⊢;omega
theorem plan_apart {l D:List PE} (h:planOk E ops l D=true) (hD:AncOk ops D) {x:PE} (hx:x∈l):∀ z∈D,x.i≠z.i:=fun z hz=>by
 obtain ⟨l1,l2,rfl⟩:=List.append_of_mem hx
 exact pair_ne ((planOk_at h hD).pair z (by simp [hz]))
theorem plan_dst {l D:List PE} (h:planOk E ops l D=true) (hD:AncOk ops D) {x y:PE} (hx:x∈l) (hy:y∈l) (hne:x.i≠y.i) (d:Tmp) (hd:(opAt ops x.i).dst=some d):(opAt ops y.i).dst≠some d:=by
 obtain ⟨l1,l2,rfl⟩:=List.append_of_mem hx
 rcases List.mem_append.1 hy with q|q
 ·obtain ⟨l3,l4,rfl⟩:=List.append_of_mem q
  rw [List.append_assoc,List.cons_append] at h
  exact pair_dst (plan_two h hD) d hd
 ·rcases List.mem_cons.1 q with rfl|q
  ·exact absurd rfl hne
  ·obtain ⟨l3,l4,rfl⟩:=List.append_of_mem q
   exact fun e=>pair_dst (plan_two h hD) d e hd
theorem occ_uniq {l W S l1 y Wb Sb v Sa l1' y' Wb' Sb' v' Sa'} (h:Occ E step N nx0 ops l W S l1 y Wb Sb v Sa) (k:Occ E step N nx0 ops l W S l1' y' Wb' Sb' v' Sa') (hn:(l.map (·.i)).Nodup) (hi:y.i=y'.i):y=y'∧Sb=Sb'∧v=v'∧Sa=Sa':=by
 induction h generalizing l1' y' Wb' Sb' v' Sa' with
 | @here x l W S v Sa W1 S1 h =>
  cases k with
  | here k=>obtain ⟨rfl,rfl,-,-⟩:=h.uniq k;exact ⟨rfl,rfl,rfl,rfl⟩
  | there _ k =>
   exfalso
   obtain ⟨l2,rfl⟩:=occ_split k
   simp [hi] at hn
 | @there x l W S v Sa W1 S1 l1 y Wb Sb vb Sc h h' ih =>
  cases k with
  | here k =>
   exfalso
   obtain ⟨l2,rfl⟩:=occ_split h'
   simp [hi] at hn
  | there k k' =>
   obtain ⟨-,-,rfl,rfl⟩:=h.uniq k
   exact ih k' (List.nodup_cons.1 hn).2 hi
theorem occ_nx_uniq (hs:Steps' P E step N ops) {l W S l1 y Wb Sb v Sa l1' y' Wb' Sb' v' Sa'} (h:Occ E step N nx0 ops l W S l1 y Wb Sb v Sa) (k:Occ E step N nx0 ops l W S l1' y' Wb' Sb' v' Sa') (hi:Sb.nx=Sb'.nx) (h1:Sb.nx < Sa.nx) (k1:Sb'.nx < Sa'.nx):y=y':=by
 induction h generalizing l1' y' Wb' Sb' v' Sa' with
 | @here x l W S v Sa W1 S1 h =>
  cases k with
  | here k=>rfl
  | there k k' =>
   exfalso
   obtain ⟨-,rfl,rfl,rfl⟩:=h.uniq k
   have:=occ_nx hs k'
   have:=(h.frm hs).2.2.2.1
   omega
 | @there x l W S v Sa W1 S1 l1 y Wb Sb vb Sc h h' ih =>
  cases k with
  | here k =>
   exfalso
   obtain ⟨-,rfl,rfl,rfl⟩:=h.uniq k
   have:=occ_nx hs h'
   have:=(h.frm hs).2.2.2.1
   omega
  | there k k' =>
   obtain ⟨-,-,rfl,rfl⟩:=h.uniq k
   exact ih k' hi h1 k1
end
def Early (E:Env) (G R:GM) (a:Act) (w:World) (o:Oper) (Sb:St) (v:AV) (Sa:St):Prop :=
 quietOp E o.op=true∧(∀ d,o.dst=some d→dv (plus G R) v=some (a.tmps.getD d undef)) ∧
 ((Sa.H=Sb.H∧Sa.nx=Sb.nx)∨∃ e cs us g,Sa.H=(Sb.nx,.row e cs)::Sb.H∧Sa.nx=Sb.nx+1∧R Sb.nx=some ⟨g,0,0,0,undef⟩∧dns (plus G R) cs=some us∧w.heap[g]?=some (.cells us.toArray e (0,0)))
structure Inv (E:Env) (step:Stp) (N nx0:Nat) (ops:Array Oper) (w0:World) (G0:GM) (O0:Nat→Prop) (r:Ws×St) (l:List PE) (W:Ws) (S:St) (D:List PE) (ea:Nat→Bool) (R:GM) (listed:Array Bool) (a:Act) (w:World) (G:GM) (O:Nat→Prop):Prop where
 dr:drawX E step N ops nx0 l W S=some r
 plan:planOk E ops l D=true
 anc:AncOk ops D
 nxs:nx0≤S.nx
 bw:Val.b≤w0.heap.size
 sat:Sat w G O S.H S.nx
 adv:Adv w0 G0 O0 w G O
 gh:∃ a',FR G N S.F a'∧∀ t,(∀ y∈l,ea y.i=true→(opAt ops y.i).dst≠some t)→a.tmps.getD t undef=a'.tmps.getD t undef
 df:a.defers=[]
 sz:a.tmps.size=N
 ls:listed.size=ops.size
 li:∀ i,listed.getD i false=true↔(∃ z∈D,z.i=i)∨(∃ y∈l,y.i=i∧ea i=true)
 dn:Down ops (fun i=>listed.getD i false=true)
 rk:∀ i x,R i=some x→(¬ O x.g∧w0.heap.size≤x.g∧x.g < w.heap.size)∧∃ l1 y Wb Sb v Sa,Occ E step N nx0 ops l W S l1 y Wb Sb v Sa∧ea y.i=true∧Sb.nx=i∧Sb.nx < Sa.nx
 ri:∀ i j x y,R i=some x→R j=some y→x.g=y.g→i=j
 er:∀ l1 y Wb Sb v Sa,Occ E step N nx0 ops l W S l1 y Wb Sb v Sa→ea y.i=true→Early E G R a w (opAt ops y.i) Sb v Sa
end Go.Eng
namespace Go.Eng
variable [Val]
open Go.RowKit
section
variable {P : Program} {E : Env} {step : Stp} {N nx0 : Nat} {ops : Array Oper} {w0 : World} {G0 : GM} {O0 : Nat → Prop} {r : Ws × St}
theorem settle1 (hs:Steps' P E step N ops) (ho:∀ p∈r.2.obs,p) {x:PE} {l D:List PE} {W:Ws} {S:St} {ea:Nat→Bool} {R:GM} {listed:Array Bool} {a:Act} {w:World} {G:GM} {O:Nat→Prop}
  (h:Inv E step N nx0 ops w0 G0 O0 r (x::l) W S D ea R listed a w G O) (he:ea x.i=true):∃ W1 S1 G1 O1 R1,Inv E step N nx0 ops w0 G0 O0 r l W1 S1 (x::D) ea R1 listed a w G1 O1:=by
 obtain ⟨v,Sa,W1,S1,h1,h2⟩:=drawX_ds h.dr
 obtain ⟨f1,f2,f3,f4,f5,f6⟩:=h1.frm hs
 obtain ⟨hq,hval,hcase⟩:=h.er _ _ _ _ _ _ (.here h1) he
 have hobs:∀ p∈Sa.obs,p:=fun p hp=>ho p (occ_obs hs (.here h1) h.dr p hp)
 obtain ⟨a',hF,hag⟩:=h.gh
 have hl:Looked G S.F a' ((opAt ops x.i).looksAt ops):=fun t _=>hF.sl t
 obtain ⟨p1,p2,p3⟩:=planOk_cons h.plan h.anc
 have key:∃ G1 O1 R1 u,Sat w G1 O1 S1.H S1.nx∧Adv w0 G0 O0 w G1 O1∧GLe G G1∧plus G1 R1=plus G R∧dv G1 v=some u ∧
   (∀ i y,R1 i=some y→R i=some y∧¬ O1 y.g)∧(∀ l1 y Wb Sb v' Sc,Occ E step N nx0 ops l W1 S1 l1 y Wb Sb v' Sc→R1 Sb.nx=R Sb.nx)∧(∀ i y,R1 i=some y→¬ (i=S.nx∧S.nx < Sa.nx)):=by
  rcases hs.quiet _ _ _ _ h1.st hq (h1.nw hq) with ⟨g1,g2,g3,g4,g5⟩|⟨e,cs,vf,g1,g2,g3⟩
  ·obtain ⟨u,k1,_⟩:=g5 hobs hF.df hl (fun _ _=>rfl) h.sat.toSat0
   refine ⟨G,O,R,u,by rw [f3,f4,g2,g3];exact h.sat,h.adv,GLe.refl G,rfl,k1,fun i y hy=>⟨hy,(h.rk i y hy).1.1⟩,fun _ _ _ _ _ _ _=>rfl,fun i y hy q=>?_⟩
   rw [g3] at q;omega
  ·obtain ⟨us,k1,_⟩:=g3 (w:=w) hF.df hl
   have hH:Sa.H=(S.nx,.row e cs)::S.H:=by rw [g1]
   have hN:Sa.nx=S.nx+1:=by rw [g1]
   rcases hcase with ⟨_,q⟩|⟨e',cs',us',g,q1,q2,q3,q4,q5⟩
   ·omega
   ·rw [hH] at q1
    simp only [List.cons.injEq,Prod.mk.injEq,Blk.row.injEq,true_and,and_true] at q1
    obtain ⟨rfl,rfl⟩:=q1
    have:us'=us:=by
     have:=dns_mono (plus_le (G:=G) (R:=R)) k1
     rw [q4] at this;exact Option.some.inj this
    subst this
    obtain ⟨⟨r1,r2,r3⟩,_⟩:=h.rk _ _ q3
    have hG:GLe G (fun j=>if j=S.nx then some ⟨g,0,0,0,undef⟩ else G j):=fun i y hi=>by
     have:=h.sat.lt hi
     show (if i=S.nx then _ else _)=_
     rw [if_neg (by omega)];exact hi
    refine ⟨fun j=>if j=S.nx then some ⟨g,0,0,0,undef⟩ else G j,fun y=>O y∨y=g,fun j=>if j=S.nx then none else R j,vf g,?_,⟨h.adv.g.trans hG,h.adv.u,fun y hy=>hy.elim (h.adv.o y) (fun e=>by rw [e];exact .inr r2)⟩,hG,?_,by rw [g2];simp,fun i y hy=>?_,fun l1 y Wb Sb v' Sc hoc=>?_,fun i y hy q=>?_⟩
    ·rw [f3,f4,hH,hN]
     exact h.sat.adopt ⟨g,0,0,0,undef⟩ (.row e cs) r1 r3 (Nat.le_trans h.bw r2) ⟨us',dns_mono hG k1,q5⟩
    ·funext i
     unfold plus
     by_cases hi:i=S.nx
     ·subst hi;simp [h.sat.fresh _ (Nat.le_refl _),q3]
     ·simp [hi]
    ·dsimp only at hy
     by_cases hi:i=S.nx
     ·rw [if_pos hi] at hy;cases hy
     ·rw [if_neg hi] at hy
      refine ⟨hy,fun o=>?_⟩
      rcases o with o|o
      ·exact (h.rk i y hy).1.1 o
      ·exact hi (h.ri _ _ _ _ hy q3 o)
    ·have:=occ_nx hs hoc
     show (if Sb.nx=S.nx then none else R Sb.nx)=_
     rw [if_neg (by omega)]
    ·dsimp only at hy
     rw [if_pos q.1] at hy;cases hy
 obtain ⟨G1,O1,R1,u,k1,k2,k3,k4,k5,k6,k7,k8⟩:=key
 have hFR:FR G1 N S1.F (a'.put (opAt ops x.i).dst u):=by
  have:=(hF.mono k3).put (F':=S1.F) (dst:=(opAt ops x.i).dst) (v:=v) (u:=u) (by rw [← f1];exact h1.pt) k5
  exact this
 refine ⟨W1,S1,G1,O1,R1,⟨h2,p2,p3,by have:=f2.2.1;have:=h.nxs;omega,h.bw,k1,k2,⟨_,hFR,fun t ht=>?_⟩,h.df,h.sz,h.ls,fun i=>?_,h.dn,fun i y hy=>?_,fun i j y z hy hz=>h.ri i j y z (k6 i y hy).1 (k6 j z hz).1,fun l1 y Wb Sb v' Sc hoc hey=>?_⟩⟩
 ·rw [put_getD]
  by_cases hd:(opAt ops x.i).dst=some t
  ·have e1:=hval t hd
   have e2:dv (plus G R) v=some u:=by rw [← k4];exact dv_mono plus_le k5
   rw [e2] at e1
   have:=h1.pt
   rw [hd] at this
   rw [if_pos ⟨hd,by rw [hF.sz];exact putF_lt this⟩]
   exact (Option.some.inj e1).symm
  ·rw [if_neg (fun q=>hd q.1)]
   refine hag t fun y hy hey=>?_
   rcases List.mem_cons.1 hy with rfl|hy
   ·exact hd
   ·exact ht y hy hey
 ·rw [h.li i]
  constructor
  ·rintro (⟨z,z1,z2⟩|⟨y,y1,y2,y3⟩)
   ·exact .inl ⟨z,List.mem_cons_of_mem _ z1,z2⟩
   ·rcases List.mem_cons.1 y1 with rfl|y1
    ·exact .inl ⟨_,List.mem_cons_self ..,y2⟩
    ·exact .inr ⟨y,y1,y2,y3⟩
  ·rintro (⟨z,z1,z2⟩|⟨y,y1,y2,y3⟩)
   ·rcases List.mem_cons.1 z1 with rfl|z1
    ·exact .inr ⟨_,List.mem_cons_self ..,z2,by rw [← z2];exact he⟩
    ·exact .inl ⟨z,z1,z2⟩
   ·exact .inr ⟨y,List.mem_cons_of_mem _ y1,y2,y3⟩
 ·obtain ⟨r1,r2⟩:=k6 i y hy
  obtain ⟨⟨_,q2,q3⟩,l1,y',Wb,Sb,v',Sc,q4,q5,q6,q7⟩:=h.rk i y r1
  refine ⟨⟨r2,q2,q3⟩,?_⟩
  cases q4 with
  | here q =>
   exfalso
   obtain ⟨-,rfl,-,-⟩:=q.uniq h1
   exact k8 i y hy ⟨q6.symm,q7⟩
  | there q q' =>
   obtain ⟨-,-,rfl,rfl⟩:=q.uniq h1
   exact ⟨_,_,_,_,_,_,q',q5,q6,q7⟩
 ·obtain ⟨g1,g2,g3⟩:=h.er _ _ _ _ _ _ (.there h1 hoc) hey
  refine ⟨g1,by rw [k4];exact g2,?_⟩
  rw [k4,k7 _ _ _ _ _ _ hoc]
  exact g3
theorem head1 (hs:Steps' P E step N ops) (hsel:∀ i,i < ops.size→∀ cs b,(opAt ops i).op ≠ .select cs b) (ho:∀ p∈r.2.obs,p) {x:PE} {l D:List PE} {W:Ws} {S:St} {ea:Nat→Bool} {R:GM} {listed:Array Bool} {a:Act} {w:World} {G:GM} {O:Nat→Prop}
  (h:Inv E step N nx0 ops w0 G0 O0 r (x::l) W S D ea R listed a w G O) (he:ea x.i=false) {K:Act→World→Prop} {Q:Exit→Act→World→Prop}
  (hK:∀ W1 S1 b w' G' O',Inv E step N nx0 ops w0 G0 O0 r l W1 S1 (x::D) ea R (listed.setIfInBounds x.i true) b w' G' O'→K b w'):Stepped P ops (opAt ops x.i) a w K Q:=by
 obtain ⟨v,Sa,W1,S1,h1,h2⟩:=drawX_ds h.dr
 obtain ⟨f1,f2,f3,f4,f5,f6⟩:=h1.frm hs
 have hobs:∀ p∈Sa.obs,p:=fun p hp=>ho p (occ_obs hs (.here h1) h.dr p hp)
 obtain ⟨a',hF,hag⟩:=h.gh
 obtain ⟨p1,p2,p3⟩:=planOk_cons h.plan h.anc
 have hxn:listed.getD x.i false=true→False:=fun q=>by
  rcases (h.li x.i).1 q with ⟨z,z1,z2⟩|⟨y,y1,y2,y3⟩
  ·exact plan_apart h.plan h.anc (List.mem_cons_self ..) z z1 z2.symm
  ·rw [he] at y3;cases y3
 have hpw:∀ y∈l,ea y.i=true→pairOk ops y x=true∧y.m.testBit x.i=false:=fun y hy hey=>by
  obtain ⟨l2,l3,rfl⟩:=List.append_of_mem hy
  have hpr:pairOk ops y x=true:=plan_two (l1:=[]) h.plan h.anc
  refine ⟨hpr,?_⟩
  cases hb:y.m.testBit x.i with
  | false=>rfl
  | true =>
   have hpl:PlanAt E ops ((x::l2).reverse++D) y:=planOk_at (l1:=x::l2) h.plan h.anc
   exact (hxn (hpl.anc _ h.dn ((h.li y.i).2 (.inr ⟨y,by simp,rfl,hey⟩)) _ hb)).elim
 have hlook:∀ t∈(opAt ops x.i).looksAt ops,a.tmps.getD t undef=a'.tmps.getD t undef:=fun t ht=>hag t fun y hy hey=>by
  rcases List.mem_cons.1 hy with rfl|hy
  ·rw [he] at hey;cases hey
  ·obtain ⟨q1,q2⟩:=hpw y hy hey
   exact (pair_looks q1 q2).2 t ht
 obtain ⟨_,_,hrun⟩:=hs.good _ _ _ _ h1.st
 refine Stepped_congr (K':=fun b w'=>∃ u G' O',b=a'.put (opAt ops x.i).dst u∧dv G' v=some u∧Sat w' G' O' Sa.H Sa.nx∧Adv w G O w' G' O') h.df hF.df (h.sz.trans hF.sz.symm) (hsel x.i p1.lt) hlook
  (hrun hobs hF h.sat fun u w' G' O' k1 k2 k3=>⟨u,G',O',rfl,k1,k2,k3⟩) (fun b w' ⟨u,_,_,e,_⟩=>by rw [e,Act.put_df];exact hF.df) ?_
 rintro u w' ⟨u2,G',O',e,k1,k2,k3⟩
 have hFR:FR G' N S1.F (a'.put (opAt ops x.i).dst u):=by
  rw [e]
  exact (hF.mono k3.g).put (by rw [← f1];exact h1.pt) k1
 have hpm:GLe (plus G R) (plus G' R):=plus_mono k3.g fun i y hy=>by
  obtain ⟨_,l1,y',Wb,Sb,v',Sc,q4,q5,q6,q7⟩:=h.rk i y hy
  cases q4 with
  | here q=>rw [he] at q5;cases q5
  | there q q' =>
   obtain ⟨-,-,rfl,rfl⟩:=q.uniq h1
   have:=occ_nx hs q'
   exact k2.fresh i (by omega)
 refine hK W1 S1 _ _ G' O' ⟨h2,p2,p3,by have:=f2.2.1;have:=h.nxs;omega,h.bw,by rw [f3,f4];exact k2,h.adv.trans k3,⟨_,hFR,fun t ht=>?_⟩,by rw [Act.put_df];exact h.df,by rw [Act.put_sz];exact h.sz,by simp [h.ls],fun i=>?_,fun i hi p hp=>?_,fun i y hy=>?_,h.ri,fun l1 y Wb Sb v' Sc hoc hey=>?_⟩
 ·rw [put_getD,put_getD,h.sz,hF.sz]
  split
  ·rfl
  ·rename_i hn
   by_cases hd:(opAt ops x.i).dst=some t
   ·have:=h1.pt
    rw [hd] at this
    exact absurd ⟨hd,putF_lt this⟩ hn
   ·refine hag t fun y hy hey=>?_
    rcases List.mem_cons.1 hy with rfl|hy
    ·exact hd
    ·exact ht y hy hey
 ·have hlt:x.i < listed.size:=by rw [h.ls];exact p1.lt
  have:(listed.setIfInBounds x.i true).getD i false=true↔i=x.i∨listed.getD i false=true:=by
   by_cases e:i=x.i
   ·subst e;simp [hlt]
   ·simp [Array.getElem?_setIfInBounds_ne (Ne.symm e),e]
  rw [this,h.li i]
  constructor
  ·rintro (rfl|⟨z,z1,z2⟩|⟨y,y1,y2,y3⟩)
   ·exact .inl ⟨_,List.mem_cons_self ..,rfl⟩
   ·exact .inl ⟨z,List.mem_cons_of_mem _ z1,z2⟩
   ·rcases List.mem_cons.1 y1 with rfl|y1
    ·exact .inl ⟨_,List.mem_cons_self ..,y2⟩
    ·exact .inr ⟨y,y1,y2,y3⟩
  ·rintro (⟨z,z1,z2⟩|⟨y,y1,y2,y3⟩)
   ·rcases List.mem_cons.1 z1 with rfl|z1
    ·exact .inl z2.symm
    ·exact .inr (.inl ⟨z,z1,z2⟩)
   ·exact .inr (.inr ⟨y,List.mem_cons_of_mem _ y1,y2,y3⟩)
 ·have hlt:x.i < listed.size:=by rw [h.ls];exact p1.lt
  have hset:∀ j,(listed.setIfInBounds x.i true).getD j false=true↔j=x.i∨listed.getD j false=true:=fun j=>by
   by_cases e:j=x.i
   ·subst e;simp [hlt]
   ·simp [Array.getElem?_setIfInBounds_ne (Ne.symm e),e]
  dsimp only at hi ⊢
  rw [hset] at hi ⊢
  refine .inr ?_
  rcases hi with rfl|hi
  ·obtain ⟨z,z1,z2⟩:=p1.pre p hp
   exact (h.li p).2 (.inl ⟨z,z1,z2⟩)
  ·exact h.dn i hi p hp
 ·obtain ⟨⟨q1,q2,q3⟩,l1,y',Wb,Sb,v',Sc,q4,q5,q6,q7⟩:=h.rk i y hy
  refine ⟨⟨fun o=>?_,q2,Nat.lt_of_lt_of_le q3 k3.u.size⟩,?_⟩
  ·rcases k3.o _ o with o|o
   ·exact q1 o
   ·omega
  ·cases q4 with
   | here q=>rw [he] at q5;cases q5
   | there q q' =>
    obtain ⟨-,-,rfl,rfl⟩:=q.uniq h1
    exact ⟨_,_,_,_,_,_,q',q5,q6,q7⟩
 ·obtain ⟨g1,g2,g3⟩:=h.er _ _ _ _ _ _ (.there h1 hoc) hey
  obtain ⟨l2,hl2⟩:=occ_split hoc
  obtain ⟨q1,q2⟩:=hpw y (by rw [hl2];simp) hey
  refine ⟨g1,fun d hd=>?_,g3.imp id ?_⟩
  ·rw [put_getD,if_neg (fun q=>pair_dst q1 d hd q.1)]
   exact dv_mono hpm (g2 d hd)
  ·rintro ⟨e,cs,us,g,c1,c2,c3,c4,c5⟩
   obtain ⟨⟨d1,d2,d3⟩,_⟩:=h.rk _ _ c3
   exact ⟨e,cs,us,g,c1,c2,c3,dns_mono hpm c4,(k3.u.block _ d3 d1).trans c5⟩
end
end Go.Eng
namespace Go.Eng
variable [Val]
open Go.RowKit
section
variable {P : Program} {E : Env} {step : Stp} {N nx0 : Nat} {ops : Array Oper} {w0 : World} {G0 : GM} {O0 : Nat → Prop} {r : Ws × St}
theorem set_getD (listed:Array Bool) (k:Nat) (h:k < listed.size) (j:Nat):(listed.setIfInBounds k true).getD j false=true↔j=k∨listed.getD j false=true:=by
 by_cases e:j=k
 ·subst e;simp [h]
 ·simp [Array.getElem?_setIfInBounds_ne (Ne.symm e),e]
theorem early1 (hs:Steps' P E step N ops) (ho:∀ p∈r.2.obs,p) {l l1 D:List PE} {y:PE} {W Wb:Ws} {S Sb Sa:St} {v:AV} {ea:Nat→Bool} {R:GM} {listed:Array Bool} {a:Act} {w:World} {G:GM} {O:Nat→Prop}
  (h:Inv E step N nx0 ops w0 G0 O0 r l W S D ea R listed a w G O) (hoc:Occ E step N nx0 ops l W S l1 y Wb Sb v Sa) (hy:listed.getD y.i false=false) (hq:quietOp E (opAt ops y.i).op=true) (hp:∀ p∈preds (opAt ops y.i),listed.getD p false=true) {K:Act→World→Prop} {Q:Exit→Act→World→Prop}
  (hK:∀ R' b w',Inv E step N nx0 ops w0 G0 O0 r l W S D (fun i=>Nat.beq i y.i || ea i) R' (listed.setIfInBounds y.i true) b w' G O→K b w'):Stepped P ops (opAt ops y.i) a w K Q:=by
 obtain ⟨W1,S1,h1⟩:=occ_ds hoc
 obtain ⟨f1,f2,f3,f4,f5,f6⟩:=h1.frm hs
 obtain ⟨l2,hl2⟩:=occ_split hoc
 have hobs:∀ p∈Sa.obs,p:=fun p hp=>ho p (occ_obs hs hoc h.dr p hp)
 obtain ⟨a',hF,hag⟩:=h.gh
 have hyl:y∈l:=by rw [hl2];simp
 have hpl:PlanAt E ops (l1.reverse++D) y:=planOk_at (l2:=l2) (by rw [← hl2];exact h.plan) h.anc
 have hnd:(l.map (·.i)).Nodup:=plan_nodup h.plan h.anc
 have hey:ea y.i=false:=by
  cases q:ea y.i with
  | false=>rfl
  | true=>rw [(h.li y.i).2 (.inr ⟨y,hyl,rfl,q⟩)] at hy;cases hy
 have hmask:∀ z∈l1,y.m.testBit z.i=true→ea z.i=true:=fun z hz hb=>by
  have hzl:z∈l:=by rw [hl2];simp [hz]
  have hne:z.i≠y.i:=fun e=>pair_ne (hpl.pair z (by simp [hz])) e.symm
  have hd:Down ops (fun i=>listed.getD i false=true∨i=y.i):=fun i hi p hpp=>by
   rcases hi with hi|rfl
   ·exact .inl (h.dn i hi p hpp)
   ·exact .inl (hp p hpp)
  rcases hpl.anc _ hd (.inr rfl) _ hb with q|q
  ·rcases (h.li z.i).1 q with ⟨z',z1,z2⟩|⟨y',y1,y2,y3⟩
   ·exact absurd z2.symm (plan_apart h.plan h.anc hzl z' z1)
   ·exact y3
  ·exact absurd q hne
 have hlater:∀ y'∈l,ea y'.i=true→y'∉l1→∀ t∈(opAt ops y.i).looksAt ops,(opAt ops y'.i).dst≠some t:=fun y' hy' he' hn t ht=>by
  rw [hl2] at hy'
  rcases List.mem_append.1 hy' with q|q
  ·exact absurd q hn
  ·rcases List.mem_cons.1 q with rfl|q
   ·rw [hey] at he';cases he'
   ·obtain ⟨l3,l4,rfl⟩:=List.append_of_mem q
    have hpr:pairOk ops y' y=true:=plan_two (by rw [← hl2];exact h.plan) h.anc
    cases hb:y'.m.testBit y.i with
    | false=>exact (pair_looks hpr hb).2 t ht
    | true =>
     exfalso
     have hpl':PlanAt E ops ((l1++y::l3).reverse++D) y':=planOk_at (l2:=l4) (by rw [List.append_assoc,List.cons_append,← hl2];exact h.plan) h.anc
     have:=hpl'.anc _ h.dn ((h.li y'.i).2 (.inr ⟨y',by rw [hl2];simp,rfl,he'⟩)) _ hb
     rw [hy] at this;cases this
 have hlook:Looked (plus G R) Sb.F a ((opAt ops y.i).looksAt ops):=fun t ht=>by
  rcases occ_slot hs hoc t with ⟨q1,q2⟩|⟨z,z1,z2,lz,Wz,Sz,vz,Sc,z3,z4⟩
  ·rw [q1,hag t fun y' hy' he'=>?_]
   ·exact dv_mono plus_le (hF.sl t)
   ·by_cases hm:y'∈l1
    ·exact q2 y' hm
    ·exact hlater y' hy' he' hm t ht
  ·have hpr:=hpl.pair z (by simp [z1])
   cases hb:y.m.testBit z.i with
   | false=>exact absurd z2 ((pair_looks hpr hb).1 t ht)
   | true =>
    rw [z4]
    exact (h.er _ _ _ _ _ _ z3 (hmask z z1 hb)).2.1 t z2
 have hdep:∀ b,depOf Sb.F (opAt ops y.i).op=some b→getA S.H b=getA Sb.H b:=fun b hb=>by
  have:=h1.dep hq
  rw [hb] at this
  simp only [depOk,Bool.and_eq_true,List.all_eq_true,Bool.or_eq_true,Bool.not_eq_true'] at this
  refine (occ_dep hs hoc h.nxs (by simpa [Nat.blt_eq] using this.1) fun j hj ⟨z,z1,z2,z3⟩=>?_).symm
  rcases this.2 j hj with q|q
  ·exfalso
   rw [← z2] at q
   have hez:=hmask z z1 q
   obtain ⟨_,_,_,_,_,k⟩:=occ_ex h.dr (show z∈l by rw [hl2];simp [z1])
   have:=(h.er _ _ _ _ _ _ k hez).1
   rw [z3] at this;cases this
  ·exact q
 have hlt:y.i < listed.size:=by rw [h.ls];exact hpl.lt
 have hli:∀ i,(listed.setIfInBounds y.i true).getD i false=true↔(∃ z∈D,z.i=i)∨(∃ y'∈l,y'.i=i∧(Nat.beq i y.i || ea i)=true):=fun i=>by
  rw [set_getD _ _ hlt,h.li i]
  constructor
  ·rintro (rfl|⟨z,z1,z2⟩|⟨y',y1,y2,y3⟩)
   ·exact .inr ⟨y,hyl,rfl,by simp⟩
   ·exact .inl ⟨z,z1,z2⟩
   ·exact .inr ⟨y',y1,y2,by simp [y3]⟩
  ·rintro (⟨z,z1,z2⟩|⟨y',y1,y2,y3⟩)
   ·exact .inr (.inl ⟨z,z1,z2⟩)
   ·rcases Bool.or_eq_true _ _ |>.mp y3 with q|q
    ·exact .inl (Nat.eq_of_beq_eq_true q)
    ·exact .inr (.inr ⟨y',y1,y2,q⟩)
 have hdn:Down ops (fun i=>(listed.setIfInBounds y.i true).getD i false=true):=fun i hi p hpp=>by
  dsimp only at hi ⊢
  rw [set_getD _ _ hlt] at hi ⊢
  refine .inr ?_
  rcases hi with rfl|hi
  ·exact hp p hpp
  ·exact h.dn i hi p hpp
 have hgh:∀ u,∃ a',FR G N S.F a'∧∀ t,(∀ y'∈l,(Nat.beq y'.i y.i || ea y'.i)=true→(opAt ops y'.i).dst≠some t)→(a.put (opAt ops y.i).dst u).tmps.getD t undef=a'.tmps.getD t undef:=fun u =>
  ⟨a',hF,fun t ht=>by
   rw [put_getD,if_neg (fun q=>ht y hyl (by simp) q.1)]
   exact hag t fun y' hy' he'=>ht y' hy' (by simp [he'])⟩
 have hput:∀ u d,(opAt ops y.i).dst=some d→(a.put (opAt ops y.i).dst u).tmps.getD d undef=u:=fun u d hd=>by
  have:=h1.pt
  rw [hd] at this
  rw [put_getD,if_pos ⟨hd,by rw [h.sz];exact putF_lt this⟩]
 have hput':∀ u (y':PE),y'∈l→y'.i≠y.i→∀ d,(opAt ops y'.i).dst=some d→(a.put (opAt ops y.i).dst u).tmps.getD d undef=a.tmps.getD d undef:=fun u y' hy' hne d hd=>by
  rw [put_getD,if_neg (fun q=>plan_dst h.plan h.anc hy' hyl hne d hd q.1)]
 rcases hs.quiet _ _ _ _ h1.st hq (h1.nw hq) with ⟨g1,g2,g3,g4,g5⟩|⟨e,cs,vf,g1,g2,g3⟩
 ·obtain ⟨u,k1,k2⟩:=g5 hobs h.df hlook hdep (h.sat.toSat0.mono plus_le)
  refine k2 (hK R _ _ ⟨h.dr,h.plan,h.anc,h.nxs,h.bw,h.sat,h.adv,hgh u,by rw [Act.put_df];exact h.df,by rw [Act.put_sz];exact h.sz,by simp [h.ls],hli,hdn,fun i x hi=>?_,h.ri,fun l1' y' Wb' Sb' v' Sc hoc' he'=>?_⟩)
  ·obtain ⟨q1,l1',y',Wb',Sb',v',Sc,q2,q3,q4⟩:=h.rk i x hi
   exact ⟨q1,_,_,_,_,_,_,q2,by simp [q3],q4⟩
  ·by_cases e:y'.i=y.i
   ·obtain ⟨rfl,rfl,rfl,rfl⟩:=occ_uniq hoc hoc' hnd e.symm
    exact ⟨hq,fun d hd=>by rw [hput u d hd];exact k1,.inl ⟨g2,g3⟩⟩
   ·obtain ⟨l3,hl3⟩:=occ_split hoc'
    obtain ⟨c1,c2,c3⟩:=h.er _ _ _ _ _ _ hoc' (by simpa [e] using he')
    exact ⟨c1,fun d hd=>by rw [hput' u y' (by rw [hl3];simp) e d hd];exact c2 d hd,c3⟩
 ·obtain ⟨us,k1,k2⟩:=g3 (w:=w) h.df hlook
  have hH:Sa.H=(Sb.nx,.row e cs)::Sb.H:=by rw [g1]
  have hN:Sa.nx=Sb.nx+1:=by rw [g1]
  have hSb:=occ_nx hs hoc
  have hRn:R Sb.nx=none:=by
   cases q:R Sb.nx with
   | none=>rfl
   | some x =>
    exfalso
    obtain ⟨_,l1',y',Wb',Sb',v',Sc,q2,q3,q4,q5⟩:=h.rk _ _ q
    have:=occ_nx_uniq hs hoc q2 q4.symm (by omega) q5
    subst this
    rw [hey] at q3;cases q3
  have hpm:GLe (plus G R) (plus G (fun j=>if j=Sb.nx then some ⟨w.heap.size,0,0,0,undef⟩ else R j)):=fun i x hi=>by
   unfold plus at hi ⊢
   cases hg:G i with
   | some y=>rw [hg] at hi;exact hi
   | none =>
    rw [hg] at hi
    dsimp only at hi ⊢
    rw [if_neg (fun e=>by rw [e,hRn] at hi;cases hi)]
    exact hi
  obtain ⟨a1,a2⟩:=h.sat.alloc (.cells us.toArray e)
  refine k2 (hK (fun j=>if j=Sb.nx then some ⟨w.heap.size,0,0,0,undef⟩ else R j) _ _ ⟨h.dr,h.plan,h.anc,h.nxs,h.bw,a1,h.adv.trans a2,hgh _,by rw [Act.put_df];exact h.df,by rw [Act.put_sz];exact h.sz,by simp [h.ls],hli,hdn,fun i x hi=>?_,fun i j x z hi hj he=>?_,fun l1' y' Wb' Sb' v' Sc hoc' he'=>?_⟩)
  ·skip
   by_cases e:i=Sb.nx
   ·rw [if_pos e] at hi;cases hi
    exact ⟨⟨fun q=>absurd (h.sat.olt _ q) (by simp),h.adv.u.size,by simp⟩,_,_,_,_,_,_,hoc,by simp,e.symm,by omega⟩
   ·rw [if_neg e] at hi
    obtain ⟨⟨q1,q2,q3⟩,l1',y',Wb',Sb',v',Sc,q4,q5,q6⟩:=h.rk i x hi
    exact ⟨⟨q1,q2,Nat.lt_of_lt_of_le q3 a2.u.size⟩,_,_,_,_,_,_,q4,by simp [q5],q6⟩
  ·skip
   by_cases e1:i=Sb.nx<;>by_cases e2:j=Sb.nx
   ·omega
   ·exfalso
    rw [if_pos e1] at hi;rw [if_neg e2] at hj;cases hi
    have:=(h.rk j z hj).1.2.2
    dsimp only at he;omega
   ·exfalso
    rw [if_neg e1] at hi;rw [if_pos e2] at hj;cases hj
    have:=(h.rk i x hi).1.2.2
    dsimp only at he;omega
   ·rw [if_neg e1] at hi;rw [if_neg e2] at hj
    exact h.ri i j x z hi hj he
  ·by_cases e':y'.i=y.i
   ·obtain ⟨rfl,rfl,rfl,rfl⟩:=occ_uniq hoc hoc' hnd e'.symm
    refine ⟨hq,fun d hd=>?_,.inr ⟨e,cs,us,w.heap.size,hH,hN,by simp,dns_mono hpm k1,heap_alloc_new w _⟩⟩
    rw [hput _ d hd,g2]
    unfold plus
    simp [h.sat.fresh _ hSb]
   ·obtain ⟨l3,hl3⟩:=occ_split hoc'
    obtain ⟨c1,c2,c3⟩:=h.er _ _ _ _ _ _ hoc' (by simpa [e'] using he')
    refine ⟨c1,fun d hd=>by rw [hput' _ y' (by rw [hl3];simp) e' d hd];exact dv_mono hpm (c2 d hd),c3.imp id ?_⟩
    rintro ⟨e2,cs2,us2,g,d1,d2,d3,d4,d5⟩
    obtain ⟨⟨m1,m2,m3⟩,_⟩:=h.rk _ _ d3
    refine ⟨e2,cs2,us2,g,d1,d2,?_,dns_mono hpm d4,(a2.u.block _ m3 m1).trans d5⟩
    show (if Sb'.nx=Sb.nx then _ else R Sb'.nx)=_
    rw [if_neg (fun e=>by rw [e,hRn] at d3;cases d3)]
    exact d3
end
end Go.Eng
namespace Go.Eng
variable [Val]
open Go.RowKit
theorem filter_le {α} (p q:α→Bool) (h:∀ z,q z=true→p z=true):∀ l:List α,(l.filter q).length≤(l.filter p).length
 | []=>Nat.le_refl _
 | z::l=>by
  have:=filter_le p q h l
  simp only [List.filter_cons]
  split
  ·rename_i hz
   rw [if_pos (h z hz)];simp;exact this
  ·split
   ·simp;omega
   ·exact this
theorem filter_lt {α} (p q:α→Bool) (h:∀ z,q z=true→p z=true) (y:α) (hp:p y=true) (hq:q y=false):∀ l:List α,y∈l→(l.filter q).length < (l.filter p).length
 | z::l,hy=>by
  have h0:=filter_le p q h l
  simp only [List.filter_cons]
  rcases List.mem_cons.1 hy with rfl|hy
  ·rw [hp,hq];simp;omega
  ·have:=filter_lt p q h y hp hq l hy
   split
   ·rename_i hz
    rw [if_pos (h z hz)];simp;exact this
   ·split
    ·simp;omega
    ·exact this
section
variable {P : Program} {E : Env} {step : Stp} {N nx0 : Nat} {ops : Array Oper} {w0 : World} {G0 : GM} {O0 : Nat → Prop} {r : Ws × St}
theorem settle (hs:Steps' P E step N ops) (ho:∀ p∈r.2.obs,p) {ea:Nat→Bool} {listed:Array Bool} {a:Act} {w:World}:∀ {l D:List PE} {W:Ws} {S:St} {R:GM} {G:GM} {O:Nat→Prop},
  Inv E step N nx0 ops w0 G0 O0 r l W S D ea R listed a w G O→(∀ i,i < ops.size→∃ z∈D++l,z.i=i) →
  ∃ l' D' W' S' R' G' O',Inv E step N nx0 ops w0 G0 O0 r l' W' S' D' ea R' listed a w G' O'∧(∀ i,i < ops.size→∃ z∈D'++l',z.i=i)∧(l'.filter fun z => !ea z.i).length≤(l.filter fun z => !ea z.i).length∧(l'=[]∨∃ x l2,l'=x::l2∧ea x.i=false)
 | [],D,W,S,R,G,O,h,ha=>⟨_,_,_,_,_,_,_,h,ha,Nat.le_refl _,.inl rfl⟩
 | x::l,D,W,S,R,G,O,h,ha=>by
  cases he:ea x.i with
  | false=>exact ⟨_,_,_,_,_,_,_,h,ha,Nat.le_refl _,.inr ⟨x,l,rfl,he⟩⟩
  | true =>
   obtain ⟨W1,S1,G1,O1,R1,h1⟩:=settle1 hs ho h he
   obtain ⟨l',D',W',S',R',G',O',k1,k2,k3,k4⟩:=settle hs ho h1 (fun i hi=>by
    obtain ⟨z,z1,z2⟩:=ha i hi
    refine ⟨z,?_,z2⟩
    simp only [List.mem_append,List.mem_cons] at z1 ⊢
    rcases z1 with z1|z1|z1
    ·exact .inl (.inr z1)
    ·exact .inl (.inl z1)
    ·exact .inr z1)
   refine ⟨l',D',W',S',R',G',O',k1,k2,?_,k4⟩
   simp only [List.filter_cons,he]
   exact k3
theorem ready_iff {listed:Array Bool} (hl:listed.size=ops.size) (i:Nat):i∈Region.ready .any ops listed↔i < ops.size∧listed.getD i false=false∧∀ p∈preds (opAt ops i),listed.getD p false=true:=by
 unfold Region.ready
 rw [List.mem_filter,List.mem_range]
 by_cases h:i < ops.size
 ·have e1:ops[i]?=some ops[i]:=by simp [h]
  have e2:opAt ops i=ops[i]:=by simp [opAt,h]
  have e3:listed.getD i true=listed.getD i false:=by simp [hl,h]
  rw [e1,e2,e3]
  simp only [Bool.and_eq_true,Bool.not_eq_true',Option.map_some,Option.getD_some,h,true_and]
  refine and_congr Iff.rfl ?_
  rw [Array.all_eq_true']
  unfold preds
  constructor
  ·intro q p hp
   obtain ⟨e,k1,rfl⟩:=List.mem_map.1 hp
   obtain ⟨k2,k3⟩:=List.mem_filter.1 k1
   have:=q e (by simpa using k2)
   rw [k3] at this
   simpa using this
  ·intro q e he
   cases hb:Region.binds .any e with
   | false=>rfl
   | true =>
    rw [q e.on (List.mem_map.2 ⟨e,List.mem_filter.2 ⟨by simpa using he,hb⟩,rfl⟩)]
    rfl
 ·simp [h]
theorem wpOp_of {Q:Exit→Act→World→Prop} {K:Act→World→Prop} {i:Nat} {a:Act} {w:World} (hi:i < ops.size) (h:Stepped P ops (opAt ops i) a w K Q):wpOp P ops Q i K a w:=by
 unfold wpOp
 have e1:ops[i]?=some (opAt ops i):=by simp [opAt,hi]
 rw [e1]
 dsimp only
 unfold Stepped at h
 split
 ·rename_i hw;rw [if_pos hw] at h;exact .inl h
 ·rename_i hw;rw [if_neg hw] at h;exact h
theorem draw_any (hs:Steps' P E step N ops) (hsel:∀ i,i < ops.size→∀ cs b,(opAt ops i).op ≠ .select cs b) (ho:∀ p∈r.2.obs,p) {Q:Exit→Act→World→Prop}
  (hQ:∀ a w G O,FR G N r.2.F a→Sat w G O r.2.H r.2.nx→Adv w0 G0 O0 w G O→Q .normal a w) :
  ∀ (k:Nat) {l D:List PE} {W:Ws} {S:St} {ea:Nat→Bool} {R:GM} {listed:Array Bool} {a:Act} {w:World} {G:GM} {O:Nat→Prop},Inv E step N nx0 ops w0 G0 O0 r l W S D ea R listed a w G O→(∀ i,i < ops.size→∃ z∈D++l,z.i=i) →
   (l.filter fun z => !ea z.i).length≤k→wpAny P .any ops Q k listed a w:=by
 intro k
 induction k with
 | zero =>
  intro l D W S ea R listed a w G O h ha hk
  obtain ⟨l',D',W',S',R',G',O',k1,k2,k3,k4⟩:=settle hs ho h ha
  rcases k4 with rfl|⟨x,l2,rfl,he⟩
  ·have hr:Region.ready .any ops listed=[]:=by
    refine List.eq_nil_iff_forall_not_mem.2 fun i hi=>?_
    obtain ⟨q1,q2,_⟩:=(ready_iff k1.ls i).1 hi
    obtain ⟨z,z1,z2⟩:=k2 i q1
    rw [(k1.li i).2 (.inl ⟨z,by simpa using z1,z2⟩)] at q2;cases q2
   have e:=k1.dr
   cases e
   obtain ⟨a',hF,hag⟩:=k1.gh
   exact ⟨hr,hQ a w G' O' ⟨k1.df,k1.sz,fun t=>by rw [hag t (fun y hy=>by cases hy)];exact hF.sl t⟩ k1.sat k1.adv⟩
  ·simp only [List.filter_cons,he] at k3
   simp at k3;omega
 | succ k ih =>
  intro l D W S ea R listed a w G O h ha hk
  obtain ⟨l',D',W',S',R',G',O',k1,k2,k3,k4⟩:=settle hs ho h ha
  rcases k4 with rfl|⟨x,l2,rfl,he⟩
  ·have hr:Region.ready .any ops listed=[]:=by
    refine List.eq_nil_iff_forall_not_mem.2 fun i hi=>?_
    obtain ⟨q1,q2,_⟩:=(ready_iff k1.ls i).1 hi
    obtain ⟨z,z1,z2⟩:=k2 i q1
    rw [(k1.li i).2 (.inl ⟨z,by simpa using z1,z2⟩)] at q2;cases q2
   have e:=k1.dr
   cases e
   obtain ⟨a',hF,hag⟩:=k1.gh
   refine ⟨fun _=>hQ a w G' O' ⟨k1.df,k1.sz,fun t=>by rw [hag t (fun y hy=>by cases hy)];exact hF.sl t⟩ k1.sat k1.adv,fun i hi=>?_⟩
   rw [hr] at hi;cases hi
  ·refine ⟨fun hr=>?_,fun i hi=>?_⟩
   ·exfalso
    have p1:=(planOk_cons k1.plan k1.anc).1
    have:x.i∈Region.ready .any ops listed:=by
     refine (ready_iff k1.ls _).2 ⟨p1.lt,?_,fun p hp=>?_⟩
     ·cases q:listed.getD x.i false with
      | false=>rfl
      | true =>
       exfalso
       rcases (k1.li x.i).1 q with ⟨z,z1,z2⟩|⟨y,y1,y2,y3⟩
       ·exact plan_apart k1.plan k1.anc (List.mem_cons_self ..) z z1 z2.symm
       ·rw [he] at y3;cases y3
     ·obtain ⟨z,z1,z2⟩:=p1.pre p hp
      exact (k1.li p).2 (.inl ⟨z,z1,z2⟩)
    rw [hr] at this;cases this
   ·obtain ⟨q1,q2,q3⟩:=(ready_iff k1.ls i).1 hi
    obtain ⟨y,y1,y2⟩:=k2 i q1
    subst y2
    have hyl:y∈x::l2:=by
     rcases List.mem_append.1 y1 with q|q
     ·rw [(k1.li y.i).2 (.inl ⟨y,q,rfl⟩)] at q2;cases q2
     ·exact q
    have hey:ea y.i=false:=by
     cases q:ea y.i with
     | false=>rfl
     | true=>rw [(k1.li y.i).2 (.inr ⟨y,hyl,rfl,q⟩)] at q2;cases q2
    refine wpOp_of q1 ?_
    obtain ⟨l1,Wb,Sb,v,Sa,hoc⟩:=occ_ex k1.dr hyl
    cases hq:quietOp E (opAt ops y.i).op
    ·
     have hyx:y.i=x.i:=by
      cases hoc with
      | here _=>rfl
      | @there _ _ _ _ _ _ _ _ l1 _ _ _ _ _ hd hoc =>
       exfalso
       obtain ⟨l3,rfl⟩:=occ_split hoc
       have hpl:PlanAt E ops ((x::l1).reverse++D') y:=planOk_at (l1:=x::l1) k1.plan k1.anc
       have hb:=hpl.loud hq x (by simp)
       have hdn:Down ops (fun i=>listed.getD i false=true∨i=y.i):=fun i hi p hpp=>by
        rcases hi with hi|rfl
        ·exact .inl (k1.dn i hi p hpp)
        ·exact .inl (q3 p hpp)
       rcases hpl.anc _ hdn (.inr rfl) _ hb with q|q
       ·rcases (k1.li x.i).1 q with ⟨z,z1,z2⟩|⟨y',g1,g2,g3⟩
        ·exact plan_apart k1.plan k1.anc (List.mem_cons_self ..) z z1 z2.symm
        ·rw [he] at g3;cases g3
       ·have:=plan_nodup k1.plan k1.anc
        rw [List.map_cons,List.nodup_cons] at this
        exact this.1 (List.mem_map.2 ⟨y,by simp,q.symm⟩)
     rw [hyx]
     refine head1 hs hsel ho k1 he fun W1 S1 b w' G1 O1 h1=>ih h1 (fun i hi=>?_) ?_
     ·obtain ⟨z,z1,z2⟩:=k2 i hi
      refine ⟨z,?_,z2⟩
      simp only [List.mem_append,List.mem_cons] at z1 ⊢
      rcases z1 with z1|z1|z1
      ·exact .inl (.inr z1)
      ·exact .inl (.inl z1)
      ·exact .inr z1
     ·simp only [List.filter_cons,he] at k3
      simp at k3;omega
    ·refine early1 hs ho k1 hoc q2 hq q3 fun R1 b w' h1=>ih h1 k2 ?_
     have:=filter_lt (fun z:PE => !ea z.i) (fun z:PE => !(Nat.beq z.i y.i || ea z.i)) (fun z hz=>by simp at hz ⊢;exact hz.2) y (by simp [hey]) (by simp) _ hyl
     omega
theorem draw_frm (hs:Steps' P E step N ops):∀ {l:List PE} {W:Ws} {S:St} {r:Ws×St},drawX E step N ops nx0 l W S=some r→Frm S r.2
 | [],W,S,r,h=>by cases h;exact Frm.refl _
 | x::l,W,S,r,h=>by
  obtain ⟨v,Sa,W1,S1,h1,h2⟩:=drawX_ds h
  obtain ⟨_,k2,k3,k4,k5,_⟩:=h1.frm hs
  have:Frm Sa S1:=⟨⟨[],k3⟩,Nat.le_of_eq k4.symm,fun p hp=>by rw [k5];exact hp⟩
  exact k2.trans (this.trans (draw_frm hs h2))
theorem draw_ok (hs:Steps' P E step N ops) (hsel:∀ i,i < ops.size→∀ cs b,(opAt ops i).op ≠ .select cs b) (hm:P.follows .mixedOrders=true) {id:Nat} {S:St} {pl:List PE} (hp:planOk E ops pl []=true) (hd:drawX E step N ops S.nx pl [] S=some r) (ho:∀ p∈r.2.obs,p)
  {a:Act} {w:World} {G:GM} {O:Nat→Prop} (hF:FR G N S.F a) (hS:Sat w G O S.H S.nx) {Q:Exit→Act→World→Prop}
  (hQ:∀ a' w' G' O',FR G' N r.2.F a'→Sat w' G' O' r.2.H r.2.nx→Adv w G O w' G' O'→Q .normal a' w'):(Code.region id ops true).wp P Q a w:=by
 refine wp_region_any hm (draw_any hs hsel ho (w0:={ w with drawn:=w.drawn+1 }) (G0:=G) (O0:=O) (fun a' w' G' O' h1 h2 h3=>hQ a' w' G' O' h1 h2 (Adv.drew.trans h3)) ops.size (l:=pl) (D:=[]) (W:=[]) (S:=S) (ea:=fun _=>false) (R:=fun _=>none) (G:=G) (O:=O)
  ⟨hd,hp,fun y hy=>(by cases hy),Nat.le_refl _,hS.bw,hS.drew,Adv.refl _ _ _,⟨a,hF,fun _ _=>rfl⟩,hF.df,hF.sz,by simp,fun i=>?_,fun i hi=>?_,fun i x hi=>(by cases hi),fun i j x y hi=>(by cases hi),fun _ _ _ _ _ _ _ he=>(by cases he)⟩ (fun i hi=>?_) ?_)
 ·constructor
  ·intro h
   rw [Array.getD_eq_getD_getElem?] at h
   by_cases q:i < ops.size
   ·simp [q] at h
   ·simp [q] at h
  ·rintro (⟨z,z1,_⟩|⟨y,_,_,y3⟩)
   ·cases z1
   ·cases y3
 ·exfalso
  replace hi:(Array.replicate ops.size false).getD i false=true:=hi
  rw [Array.getD_eq_getD_getElem?] at hi
  by_cases q:i < ops.size
  ·simp [q] at hi
  ·simp [q] at hi
 ·obtain ⟨z,z1,z2⟩:=planOk_all hp (fun y hy=>(by cases hy)) List.nodup_nil (fun z hz=>(by cases hz)) i hi
  exact ⟨z,z1,z2⟩
 ·have:=plan_len hp
  simp only [List.length_nil,Nat.zero_add] at this
  exact Nat.le_trans (List.length_filter_le _ pl) (Nat.le_of_eq this)
end
end Go.Eng
namespace Go.Eng
variable [Val]
open Go.RowKit
def toE:Ex→Exit
 | .normal => .normal
 | .exit k => .exit k
 | .ret => .ret
variable {P : Program}
def RunGood (P:Program) (N:Nat) (c:Code) (S:St) (ex:Ex) (S':St):Prop :=
 Frm S S'∧((∀ p∈S'.obs,p)→∀ {w:World} {G:GM} {O:Nat→Prop} {a:Act},FR G N S.F a→Sat w G O S.H S.nx→∀ {Q:Exit→Act→World→Prop},
  (∀ a' w' G' O',FR G' N S'.F a'→Sat w' G' O' S'.H S'.nx→Adv w G O w' G' O'→Q (toE ex) a' w')→c.wp P Q a w)
def LoopGood (P:Program) (N:Nat) (c:Code) (S:St) (ex:Ex) (S':St):Prop :=
 Frm S S'∧∃ k,((∀ p∈S'.obs,p)→∀ {w:World} {G:GM} {O:Nat→Prop} {a:Act},FR G N S.F a→Sat w G O S.H S.nx→∀ {Q:Exit→Act→World→Prop},
  (∀ a' w' G' O',FR G' N S'.F a'→Sat w' G' O' S'.H S'.nx→Adv w G O w' G' O'→Q (toE ex) a' w')→Code.rounds P c Q k a w)
theorem runOps_ok {N:Nat} {ops:Array Oper} {step:Stp} (hs:∀ o S v S',step o S=some (v,S')→StepGood P N ops o S S' v):∀ {l:List Oper} {S S':St},runOps step N l S=some S' →
  Frm S S'∧((∀ p∈S'.obs,p)→∀ {w:World} {G:GM} {O:Nat→Prop} {a:Act},FR G N S.F a→Sat w G O S.H S.nx→∀ {Q:Exit→Act→World→Prop},
  (∀ a' w' G' O',FR G' N S'.F a'→Sat w' G' O' S'.H S'.nx→Adv w G O w' G' O'→Q .normal a' w')→wpList P ops Q l a w)
 | [],S,S',h=>by
  cases h
  exact ⟨Frm.refl _,fun _ w G O a hF hS Q hQ=>hQ a w G O hF hS (Adv.refl _ _ _)⟩
 | o::l,S,S',h=>by
  simp only [runOps] at h
  obtain ⟨⟨v,Sa⟩,h1,h2⟩:=Option.bind_eq_some_iff.1 h
  obtain ⟨F,h3,h4⟩:=Option.bind_eq_some_iff.1 h2
  obtain ⟨g1,g2,g3⟩:=hs _ _ _ _ h1
  obtain ⟨k1,k2⟩:=runOps_ok hs h4
  have hfr:Frm Sa { Sa with F:=F }:=⟨⟨[],rfl⟩,Nat.le_refl _,fun _ h=>h⟩
  refine ⟨g2.trans (hfr.trans k1),fun ho w G O a hF hS Q hQ=>?_⟩
  have:=g3 (fun p hp=>ho p (k1.2.2 p hp)) hF hS (K:=wpList P ops Q l) (Q:=Q) fun u w' G' O' q1 q2 q3=>k2 ho (a:=a.put o.dst u) (by
   dsimp only at h3
   rw [g1] at h3
   exact (hF.mono q3.g).put h3 q1) q2 fun a2 w2 G2 O2 r1 r2 r3=>hQ a2 w2 G2 O2 r1 r2 (q3.trans r3)
  unfold Stepped at this
  unfold wpList
  split
  ·rename_i hw;rw [if_pos hw] at this;exact .inl this
  ·rename_i hw;rw [if_neg hw] at this;exact this
theorem stepX_cases {E:Env} {n:Nat} {ops:Array Oper} {o:Oper} {S:St} {r:AV×St} (h:stepX E (n+1) ops o S=some r) :
  (wantedX S.F ops o.guard=some false∧r=(.tup [],S))∨(wantedX S.F ops o.guard=some true∧((∃ c b,o.op = .call c∧c.callee = .builtin b∧bltin E b c.argTypes.toList (evl S.F c.args.toList) S=some r) ∨
   (∃ c f fid,o.op = .call c∧c.callee = .value f∧ev S.F f = .fn fid∧call E n fid (evl S.F c.args.toList) S=some r)∨((∀ cs b,o.op ≠ .select cs b)∧opx E o.op S=some r)∨(∃ s d x i,o.op = .convert s d x∧ev S.F x = .opq i∧quietOp E (.convert s d x)=false∧E.cv s d i S=some r) ∨
   (∃ c f fid i off,o.op = .call c∧c.callee = .value f∧ev S.F f = .clo fid i off∧call E n fid (evl S.F c.args.toList++[.ptr i off]) S=some r))):=by
 simp only [stepX] at h
 split at h
 ·cases h
 ·rename_i hw;cases h;exact .inl ⟨hw,rfl⟩
 ·rename_i hw
  refine .inr ⟨hw,?_⟩
  split at h
  ·rename_i c hop
   split at h
   ·rename_i b hc;exact .inl ⟨c,b,hop,hc,h⟩
   ·rename_i f hc
    split at h
    ·rename_i fid hf;exact .inr (.inl ⟨c,f,fid,hop,hc,hf,h⟩)
    ·rename_i fid i off hf;exact .inr (.inr (.inr (.inr ⟨c,f,fid,i,off,hop,hc,hf,h⟩)))
    ·cases h
   ·cases h
  ·rename_i s d x hop
   split at h
   ·rename_i i hi
    cases hq:quietOp E (.convert s d x)<;>rw [hq] at h
    ·exact .inr (.inr (.inr (.inl ⟨s,d,x,i,hop,hi,hq,h⟩)))
    ·cases h
   ·exact .inr (.inr (.inl ⟨fun cs b e=>(by rw [hop] at e;cases e),by rw [hop];exact h⟩))
  ·refine .inr (.inr (.inl ⟨fun cs b e=>?_,h⟩))
   rw [e] at h
   cases h
theorem dvl_len {G:GM}:∀ {l:List AV} {us:List Value},dvl G l us→us.length=l.length
 | [],[],_=>rfl
 | _::_,_::_,h=>by simp [dvl_len h.2]
theorem slot_args {G:GM}:∀ {l:List AV} {us:List Value} (k:Nat),dvl G l us→∀ t,dv G (slot (args0 k l) t)=some (if k≤t then us.toArray.getD (t-k) undef else undef)
 | [],[],k,_,t=>by
  show dv G (.tup [])=_
  simp [dv,d2s,undef]
 | v::l,u::us,k,h,t=>by
  rw [args0,slot_cons]
  by_cases e:t=k
  ·subst e;simp [h.1]
  ·rw [if_neg e,slot_args (k+1) h.2]
   by_cases q:k≤t
   ·rw [if_pos (by omega),if_pos q]
    obtain ⟨j,hj⟩:∃ j,t-k=j+1:=⟨t-k-1,by omega⟩
    have:t-(k+1)=j:=by omega
    rw [hj,this];simp
   ·rw [if_neg (by omega),if_neg q]
theorem FR.start {G:GM} {args:List AV} {us:List Value} (h:dvl G args us) (n:Nat):FR G (args.length+(n-args.length)) (args0 0 args) { tmps:=us.toArray++Array.replicate (n-us.toArray.size) undef,defers:=[] }:=by
 have hl:=dvl_len h
 refine ⟨rfl,by simp [hl],fun t=>?_⟩
 rw [slot_args 0 h]
 simp only [Nat.zero_le,if_true,Nat.sub_zero]
 congr 1
 rw [Array.getD_eq_getD_getElem?,Array.getD_eq_getD_getElem?]
 by_cases q:t < us.length
 ·rw [Array.getElem?_append_left (by simpa using q)]
 ·rw [Array.getElem?_append_right (by simpa using q),Array.getElem?_eq_none (by simpa using q),Array.getElem?_replicate]
  split<;>rfl
def getR (tmps:Array Value):ResultVar→Sem Value
 | .tmp t=>pure (tmps.getD t undef)
 | .cell a t=>do loadVar t (← asAddr (tmps.getD a undef))
theorem resX_ok {E:Env} (hE:EOK P E) {w:World} {G:GM} {O:Nat→Prop} {H:Hp} {N:Nat} {F:Fr} {a:Act} (hS:Sat0 w G O H) (hF:FR G N F a):∀ {l:List ResultVar} {vs:List AV},resX E F H l=some vs→∃ us,dvl G vs us∧(l.mapM (getR a.tmps)).run P w = .ok us w
 | [],vs,h=>by cases h;exact ⟨[],trivial,rfl⟩
 | .tmp t::l,vs,h=>by
  simp only [resX] at h
  obtain ⟨ws,h1,rfl⟩:=Option.map_eq_some_iff.1 h
  obtain ⟨us,k1,k2⟩:=resX_ok hE hS hF h1
  refine ⟨_::us,⟨hF.sl t,k1⟩,?_⟩
  rw [List.mapM_cons]
  simp only [getR,Sem.run_bind,Sem.run_pure,Result.andThen_ok,k2]
 | .cell x ty::l,vs,h=>by
  simp only [resX] at h
  split at h
  ·rename_i i off hx
   obtain ⟨ti,h1,h2⟩:=Option.bind_eq_some_iff.1 h
   obtain ⟨v,h3,h4⟩:=Option.bind_eq_some_iff.1 h2
   obtain ⟨ws,h5,rfl⟩:=Option.map_eq_some_iff.1 h4
   obtain ⟨us,k1,k2⟩:=resX_ok hE hS hF h5
   have hp:=hF.sl x
   rw [hx] at hp
   obtain ⟨g,hg,hp⟩:=Option.map_eq_some_iff.1 (show Option.map _ (G i)=_ from hp)
   obtain ⟨u,l1,l2⟩:=load_ok (hE.tt _ _ h1) hS h3 hg
   refine ⟨u::us,⟨l2,k1⟩,?_⟩
   rw [List.mapM_cons]
   simp only [Instr.loadAt,Instr.sureAddr,Sem.run_bind,Sem.run_pure,Result.andThen_ok] at l1
   simp only [getR,← hp,asAddr,Sem.run_bind,Sem.run_pure,Result.andThen_ok,l1,k2]
  ·cases h
theorem d2s_of {G:GM}:∀ {vs:List AV} {us:List Value},vs.all noTup=true→dvl G vs us→d2s G vs=some us
 | [],[],_,_=>rfl
 | v::vs,u::us,h,k=>by
  rw [List.all_cons,Bool.and_eq_true] at h
  have:d2 G v=some u:=by
   rw [← dv_cell (fun cs e=>by rw [e] at h;cases h.1)]
   exact k.1
  simp only [d2s,this,d2s_of h.2 k.2]
  rfl
theorem tupOf_ok {G:GM} {vs:List AV} {v:AV} {us:List Value} (h:tupOf vs=some v) (k:dvl G vs us):dv G v=some (if h:us.toArray.size=1 then us.toArray[0] else .tuple us.toArray):=by
 have hl:=dvl_len k
 unfold tupOf at h
 split at h
 ·rcases us with _|⟨u,_|⟨u',us⟩⟩
  ·simp at hl
  ·cases h;simp;exact k.1
  ·simp at hl
 ·rename_i hn
  obtain ⟨h1,h2⟩:=bif_some h
  cases h2
  have:us.toArray.size≠1:=fun e=>by
   have e':us.length=1:=by simpa using e
   rcases vs with _|⟨v,_|⟨v',vs⟩⟩
   ·have hl':us.length=0:=hl
    omega
   ·exact hn v rfl
   ·have hl':us.length=vs.length+1+1:=hl
    omega
  rw [dif_neg this]
  show (d2s G vs).map _=_
  rw [d2s_of h1 k];rfl
theorem results_ok {E:Env} (hE:EOK P E) {w:World} {G:GM} {O:Nat→Prop} {H:Hp} {N:Nat} {F:Fr} {a:Act} (hS:Sat0 w G O H) (hF:FR G N F a) {fn:Func} {vs:List AV} {v:AV} (h:resX E F H fn.results.toList=some vs) (hv:tupOf vs=some v):∃ u,(results fn a.tmps).run P w = .ok u w∧dv G v=some u:=by
 obtain ⟨us,k1,k2⟩:=resX_ok hE hS hF h
 refine ⟨_,?_,tupOf_ok hv k1⟩
 have e:results fn a.tmps=(do
   let vs ← fn.results.mapM (getR a.tmps)
   pure (if h:vs.size=1 then vs[0] else .tuple vs)):=by
  unfold results
  congr 1
 rw [e,Array.mapM_eq_mapM_toList]
 simp only [Sem.run_bind,Sem.run_map,k2,Result.andThen_ok,Sem.run_pure]
end Go.Eng
namespace Go.Eng
variable [Val]
open Go.RowKit
variable {P : Program}
def StepX (P:Program) (E:Env) (n:Nat):Prop:=∀ ops o S v S',stepX E n ops o S=some (v,S') →
 (∀ N,StepGood P N ops o S S' v)∧(quietOp E o.op=true→(newOp o.op=true∨S'.nx=S.nx)→PureQ P ops o S S' v∨NewQ P ops o S S' v)
def CallX (P:Program) (E:Env) (n:Nat):Prop:=∀ f args S v S',call E n f args S=some (v,S')→CallGood P f args S S' v
def RunX (P:Program) (E:Env) (n:Nat):Prop:=∀ N c S ex S',run E n N c S=some (ex,S')→RunGood P N c S ex S'
def LoopX (P:Program) (E:Env) (n:Nat):Prop:=∀ N c S ex S',run E n N (.loop c) S=some (ex,S')→LoopGood P N c S ex S'
theorem bltin_call {E:Env} {n:Nat} {f:FuncId} {args:List AV} {S:St} {r:AV×St} (h:call E n f args S=some r):∃ fn,E.body f=some fn∧fn.body.isSome=true:=by
 cases n with
 | zero=>cases h
 | succ n =>
  simp only [call] at h
  obtain ⟨fn,h1,h2⟩:=Option.bind_eq_some_iff.1 h
  obtain ⟨c,h3,_⟩:=Option.bind_eq_some_iff.1 h2
  exact ⟨fn,h1,by rw [h3];rfl⟩
theorem step_next {E:Env} (hE:EOK P E) {n:Nat} (hc:CallX P E n):StepX P E (n+1):=by
 intro ops o S v S' h
 rcases stepX_cases h with ⟨hw,e⟩|⟨hw,⟨c,b,h1,h2,h3⟩|⟨c,f,fid,h1,h2,h3,h4⟩|⟨h1,h2⟩|⟨s,d,x,i,h1,h2,h3,h4⟩|⟨c,f,fid,i,off,h1,h2,h3,h4⟩⟩
 ·cases e
  exact ⟨fun N=>step_none hw,fun _ _ => .inl (quiet_none hw)⟩
 ·exact ⟨fun N=>step_blt h1 h2 hw (bltin_ok hE.tt hE.bd h3),fun hq _ => .inl (quiet_blt hE h1 h2 hq hw h3)⟩
 ·obtain ⟨fn,k1,k2⟩:=bltin_call h4
  refine ⟨fun N=>step_call hE h1 h2 h3 k1 k2 hw (hc _ _ _ _ _ h4),fun hq=>?_⟩
  rw [h1] at hq
  simp only [quietOp,h2] at hq
  cases hq
 ·exact ⟨fun N=>step_op hw (opx_ok hE.tt hE.bd h2),fun hq hn=>quiet_op hE h1 h2 hw hq hn⟩
 ·refine ⟨fun N=>step_op hw (by rw [h1];exact hE.cv _ _ _ _ _ _ h4 x h2 h3),fun hq=>?_⟩
  rw [h1,h3] at hq;cases hq
 ·obtain ⟨fn,k1,k2⟩:=bltin_call h4
  refine ⟨fun N=>step_clo hE h1 h2 h3 k1 k2 hw (hc _ _ _ _ _ h4),fun hq=>?_⟩
  rw [h1] at hq
  simp only [quietOp,h2] at hq
  cases hq
theorem call_next {E:Env} (hE:EOK P E) {n:Nat} (hr:RunX P E n):CallX P E (n+1):=by
 intro f args S v S' h
 simp only [call] at h
 obtain ⟨fn,h1,h2⟩:=Option.bind_eq_some_iff.1 h
 obtain ⟨c,h3,h4⟩:=Option.bind_eq_some_iff.1 h2
 split at h4
 ·rename_i r hr'
  cases h4
  exact hE.hk _ _ _ _ _ hr'
 obtain ⟨⟨ex,Sr⟩,h5,h6⟩:=Option.bind_eq_some_iff.1 h4
 have hex:ex ≠ .exit (match ex with | .exit k=>k|_=>0)∧((resX E Sr.F Sr.H fn.results.toList).bind fun vs=>(tupOf vs).map fun v=>(v,{ Sr with F:=S.F }))=some (v,S'):=by
  cases ex with
  | normal=>exact ⟨by simp,h6⟩
  | ret=>exact ⟨by simp,h6⟩
  | exit k=>cases h6
 obtain ⟨hne,h7⟩:=hex
 obtain ⟨vs,h8,h9⟩:=Option.bind_eq_some_iff.1 h7
 obtain ⟨v',h10,e⟩:=Option.map_eq_some_iff.1 h9
 cases e
 obtain ⟨g1,g2⟩:=hr _ _ _ _ _ h5
 refine ⟨rfl,⟨g1.1,g1.2.1,g1.2.2⟩,fun ho w G O us hu hS=>?_⟩
 obtain ⟨e1,e2⟩:=hE.body f fn h1
 refine calls_of_wp e1 h3 (g2 ho (FR.start hu fn.ntmps) hS fun a' w' G' O' q1 q2 q3=>?_)
 have key:a'.defers=[]∧∃ u,(results fn a'.tmps).run P w' = .ok u w'∧(∃ u_1 G' O',Ending.returned u = .returned u_1∧dv G' v=some u_1∧Sat w' G' O' Sr.H Sr.nx∧Adv w G O w' G' O'):=by
  obtain ⟨u,r1,r2⟩:=results_ok hE q2.toSat0 q1 h8 h10
  exact ⟨q1.df,u,r1,u,G',O',rfl,r2,q2,q3⟩
 cases ex with
 | normal=>exact key
 | ret=>exact key
 | exit k=>exact absurd rfl hne
theorem loop_next {E:Env} {n:Nat} (hr:RunX P E n) (hl:LoopX P E n):LoopX P E (n+1):=by
 intro N c S ex S' h
 simp only [run] at h
 obtain ⟨⟨e1,S1⟩,h1,h2⟩:=Option.bind_eq_some_iff.1 h
 obtain ⟨g1,g2⟩:=hr _ _ _ _ _ h1
 cases e1 with
 | normal =>
  obtain ⟨k1,k,k2⟩:=hl _ _ _ _ _ h2
  refine ⟨g1.trans k1,k+1,fun ho w G O a hF hS Q hQ=>?_⟩
  exact g2 (fun p hp=>ho p (k1.2.2 p hp)) hF hS fun a' w' G' O' q1 q2 q3=>k2 ho q1 q2 fun a2 w2 G2 O2 r1 r2 r3=>hQ a2 w2 G2 O2 r1 r2 (q3.trans r3)
 | exit j =>
  cases h2
  exact ⟨g1,1,fun ho w G O a hF hS Q hQ=>g2 ho hF hS fun a' w' G' O' q1 q2 q3=>hQ a' w' G' O' q1 q2 q3⟩
 | ret =>
  cases h2
  exact ⟨g1,1,fun ho w G O a hF hS Q hQ=>g2 ho hF hS fun a' w' G' O' q1 q2 q3=>hQ a' w' G' O' q1 q2 q3⟩
theorem run_next {E:Env} (hE:EOK P E) {n:Nat} (hr:RunX P E n) (hs:StepX P E n) (hl:LoopX P E (n+1)):RunX P E (n+1):=by
 intro N c S ex S' h
 cases c with
 | skip =>
  simp only [run] at h;cases h
  exact ⟨Frm.refl _,fun ho w G O a hF hS Q hQ=>wp_skip (hQ a w G O hF hS (Adv.refl _ _ _))⟩
 | exit id =>
  simp only [run] at h;cases h
  exact ⟨Frm.refl _,fun ho w G O a hF hS Q hQ=>wp_exit (hQ a w G O hF hS (Adv.refl _ _ _))⟩
 | ret =>
  simp only [run] at h;cases h
  exact ⟨Frm.refl _,fun ho w G O a hF hS Q hQ=>wp_ret (hQ a w G O hF hS (Adv.refl _ _ _))⟩
 | seq x y =>
  simp only [run] at h
  obtain ⟨⟨e1,S1⟩,h1,h2⟩:=Option.bind_eq_some_iff.1 h
  obtain ⟨g1,g2⟩:=hr _ _ _ _ _ h1
  cases e1 with
  | normal =>
   obtain ⟨k1,k2⟩:=hr _ _ _ _ _ h2
   refine ⟨g1.trans k1,fun ho w G O a hF hS Q hQ=>wp_seq ?_⟩
   exact g2 (fun p hp=>ho p (k1.2.2 p hp)) hF hS fun a' w' G' O' q1 q2 q3=>k2 ho q1 q2 fun a2 w2 G2 O2 r1 r2 r3=>hQ a2 w2 G2 O2 r1 r2 (q3.trans r3)
  | exit j =>
   cases h2
   exact ⟨g1,fun ho w G O a hF hS Q hQ=>wp_seq (g2 ho hF hS fun a' w' G' O' q1 q2 q3=>hQ a' w' G' O' q1 q2 q3)⟩
  | ret =>
   cases h2
   exact ⟨g1,fun ho w G O a hF hS Q hQ=>wp_seq (g2 ho hF hS fun a' w' G' O' q1 q2 q3=>hQ a' w' G' O' q1 q2 q3)⟩
 | cond cc x y =>
  simp only [run] at h
  cases hb:ev S.F cc with
  | bool t =>
   rw [hb] at h
   have hv:∀ {G:GM} {a:Act},FR G N S.F a→a.eval cc = .bool t:=fun hF=>by
    have:=hF.ev cc
    rw [hb] at this
    exact (Option.some.inj this).symm
   cases t with
   | true =>
    obtain ⟨g1,g2⟩:=hr _ _ _ _ _ h
    exact ⟨g1,fun ho w G O a hF hS Q hQ=>wp_cond_true (hv hF) (g2 ho hF hS hQ)⟩
   | false =>
    obtain ⟨g1,g2⟩:=hr _ _ _ _ _ h
    exact ⟨g1,fun ho w G O a hF hS Q hQ=>wp_cond_false (hv hF) (g2 ho hF hS hQ)⟩
  | _=>rw [hb] at h;cases h
 | block id b =>
  simp only [run] at h
  obtain ⟨⟨e1,S1⟩,h1,h2⟩:=Option.map_eq_some_iff.1 h
  obtain ⟨g1,g2⟩:=hr _ _ _ _ _ h1
  have hSS:S1=S':=by
   cases e1 with
   | normal=>cases h2;rfl
   | ret=>cases h2;rfl
   | exit k =>
    dsimp only at h2
    cases hb:Nat.beq k id<;>rw [hb] at h2<;>(cases h2;rfl)
  subst hSS
  refine ⟨g1,fun ho w G O a hF hS Q hQ=>wp_block (g2 ho hF hS fun a' w' G' O' q1 q2 q3=>?_)⟩
  cases e1 with
  | normal=>cases h2;exact hQ a' w' G' O' q1 q2 q3
  | ret=>cases h2;exact hQ a' w' G' O' q1 q2 q3
  | exit k =>
   dsimp only at h2
   show if k=id then Q .normal a' w' else Q (.exit k) a' w'
   cases hb:Nat.beq k id<;>rw [hb] at h2
   ·cases h2
    rw [if_neg (fun e=>by rw [e] at hb;simp at hb)]
    exact hQ a' w' G' O' q1 q2 q3
   ·cases h2
    rw [if_pos (Nat.eq_of_beq_eq_true hb)]
    exact hQ a' w' G' O' q1 q2 q3
 | loop b =>
  obtain ⟨g1,k,g2⟩:=hl _ _ _ _ _ h
  exact ⟨g1,fun ho w G O a hF hS Q hQ=>wp_loop_rounds k (g2 ho hF hS hQ)⟩
 | region id ops d =>
  simp only [run] at h
  obtain ⟨s,h1,h2⟩:=Option.map_eq_some_iff.1 h
  cases h2
  cases d with
  | false =>
   obtain ⟨g1,g2⟩:=runOps_ok (P:=P) (N:=N) (ops:=ops) (fun o S v S' q=>(hs _ _ _ _ _ q).1 N) h1
   exact ⟨g1,fun ho w G O a hF hS Q hQ=>wp_region_list (g2 ho hF hS hQ)⟩
  | true =>
   obtain ⟨h3,h4⟩:=bif_some h1
   rw [Bool.and_eq_true] at h3
   obtain ⟨⟨W,s'⟩,h5,h6⟩:=Option.map_eq_some_iff.1 h4
   cases h6
   have hst:Steps' P E (stepX E n ops) N ops:=⟨fun o S v S' q=>(hs _ _ _ _ _ q).1 N,fun o S v S' q=>(hs _ _ _ _ _ q).2⟩
   refine ⟨?_,fun ho w G O a hF hS Q hQ=>draw_ok hst (fun i hi cs b e=>?_) hE.mixed h3.1 h5 ho hF hS hQ⟩
   ·exact draw_frm hst h5
   ·have:=List.all_eq_true.1 h3.2 (opAt ops i) (by simp [opAt,hi])
    rw [e] at this
    cases this
 | _=>simp only [run] at h;cases h
theorem all_ok {E:Env} (hE:EOK P E):∀ n,RunX P E n∧LoopX P E n∧StepX P E n∧CallX P E n
 | 0=>⟨fun N c S ex S' h=>(by cases h),fun N c S ex S' h=>(by cases h),fun ops o S v S' h=>(by cases h),fun f args S v S' h=>(by cases h)⟩
 | n+1=>by
  obtain ⟨h1,h2,h3,h4⟩:=all_ok hE n
  have hl:=loop_next h1 h2
  exact ⟨run_next hE h1 h3 hl,hl,step_next hE h4,call_next hE h1⟩
theorem call_ok {E:Env} (hE:EOK P E) {n:Nat} {f:FuncId} {args:List AV} {S S':St} {v:AV} (h:call E n f args S=some (v,S')):CallGood P f args S S' v:=(all_ok hE n).2.2.2 _ _ _ _ _ h
end Go.Eng
