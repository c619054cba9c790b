/- Texts of the proof, joined. -/
import Derived.Test.YthgnlfikneipiaaGreatMg1
import Derived.Test.YthgnlfikneipiaaGreatMg2
set_option linter.unusedSimpArgs false
set_option linter.unusedVariables false
set_option linter.unusedSectionVars false
set_option maxRecDepth 100000
set_option maxHeartbeats 4000000
namespace Go.Eng
variable [fP]
open Go.RowKit
section
variable {E : iU} {step : Stp} {N nx0 : Nat} {ops : Array Oper}
theorem b5l {x:PE} {l:List PE} {W:Ws} {S:St} {r:Ws×St} (h:pB E step N ops nx0 (x::l) W S=some r) :
  ∃ v Sa F,(dC E (dK ops x.i).op=true→c0b nx0 x.m (rD S.F (dK ops x.i).op) W=true)∧step (dK ops x.i) S=some (v,Sa)∧(dC E (dK ops x.i).op=true→a1i (dK ops x.i).op=true∨Sa.nx=S.nx)∧mV N Sa.F (dK ops x.i).dst v=some F ∧
   pB E step N ops nx0 l (bif dC E (dK ops x.i).op then W else (x.i,nV Sa.H S.H (mW (Sa.H.take (Sa.H.length-S.H.length))))::W) { Sa with F:=F }=some r:=by
 simp only[pB] at h;obtain⟨d,f⟩:=bU h;obtain⟨⟨v,Sa⟩,g,a⟩:=aA.1 f;obtain⟨b,a⟩:=bU a;obtain⟨F,j,o⟩:=aA.1 a;refine⟨v,Sa,F,fun c=>?_,g,fun c=>?_,j,o⟩
 ·rw[c] at d;simpa using d
 ·rw[c] at b;simp only[Bool.not_true,Bool.false_or,Bool.or_eq_true] at b;exact b.imp id aC
end
def b5m (ops:Array Oper) (L:Nat→Prop):Prop:=∀ i,L i→∀ p∈vY (dK ops i),L p
theorem d5i {D:List PE} {p:Nat}:has D p=true↔∃ z∈D,z.i=p:=by
 induction D with
 | nil=>simp[has]
 | cons x l ih =>
  simp only[has,Bool.or_eq_true,ih,aG];constructor
  ·rintro(h|⟨z,b,a⟩)
   ·exact⟨x,.inl rfl,aC h⟩
   ·exact⟨z,.inr b,a⟩
  ·rintro⟨z,rfl|b,a⟩
   ·exact .inl (by rw[a];simp)
   ·exact .inr ⟨z,b,a⟩
theorem c7w {D:List PE} {p j:Nat} (h:(mOf D p).testBit j=true):∃ z∈D,z.i=p∧z.m.testBit j=true:=by
 induction D with
 | nil=>simp[mOf] at h
 | cons x l ih =>
  simp only[mOf] at h;cases a:Nat.beq x.i p<;>rw[a] at h
  ·obtain⟨z,b,c⟩:=ih h;exact⟨z,aT _ b,c⟩
  ·exact⟨x,aR ..,aC a,h⟩
theorem zO {D:List PE}:∀ {ps:List Nat} {j:Nat},(xS D ps).testBit j=true→∃ p∈ps,j=p∨(mOf D p).testBit j=true
 | [],j,h=>by simp[xS] at h
 | p::ps,j,h=>by
  simp only[xS,Nat.testBit_or,Bool.or_eq_true] at h;rcases h with(h|h)|h
  ·rw[Nat.testBit_two_pow] at h;exact⟨p,aR ..,.inl (by simpa using(bI h).symm)⟩
  ·exact⟨p,aR ..,.inr h⟩
  ·obtain⟨q,h1,h2⟩:=zO h;exact⟨q,aT _ h1,h2⟩
def rE (ops:Array Oper) (D:List PE):Prop:=∀ y∈D,∀ L,b5m ops L→L y.i→∀ j,y.m.testBit j=true→L j
structure xU (E:iU) (ops:Array Oper) (D:List PE) (x:PE):Prop where
 lt:x.i < ops.size
 pre:∀ p∈vY (dK ops x.i),∃ z∈D,z.i=p
 pair:∀ y∈D,lB ops x y=true
 anc:∀ L,b5m ops L→L x.i→∀ j,x.m.testBit j=true→L j
 loud:dC E (dK ops x.i).op=false→∀ y∈D,x.m.testBit y.i=true
theorem iP {E:iU} {ops:Array Oper} {x:PE} {l D:List PE} (h:gZ E ops (x::l) D=true) (hD:rE ops D):xU E ops D x∧gZ E ops l (x::D)=true∧rE ops (x::D):=by
 simp only[gZ,aD] at h;obtain⟨⟨⟨⟨⟨t,u⟩,v⟩,w⟩,g⟩,A⟩:=h;have s:=aC w;have c:∀ p∈vY (dK ops x.i),∃ z∈D,z.i=p:=fun p d=>d5i.1 (bB.1 u p d)
 have a:∀ L,b5m ops L→L x.i→∀ j,x.m.testBit j=true→L j:=fun L o I j r=>by
  rw[s] at r;obtain⟨p,B,f⟩:=zO r;have d:=o x.i I p B;rcases f with rfl|f
  ·exact d
  ·obtain⟨z,C,F,G⟩:=c7w f;exact hD z C L o (by rw[F];exact d) j G
 refine⟨⟨by simpa [Nat.blt_eq] using t,c,fun y b=>bB.1 v y b,a,fun J y b=>?_⟩,A,fun y b=>?_⟩
 ·rw[J] at g;exact bB.1 (by simpa using g) y b
 ·rcases aG.1 b with rfl|b
  ·exact a
  ·exact hD y b
theorem vZ {E:iU} {ops:Array Oper}:∀ {l1 l2 D:List PE},gZ E ops (l1++l2) D=true→rE ops D→gZ E ops l2 (l1.reverse++D)=true∧rE ops (l1.reverse++D)
 | [],l2,D,h,hD=>⟨h,hD⟩
 | x::l1,l2,D,h,hD=>by
  obtain⟨_,h2,h3⟩:=iP (l:=l1++l2) h hD;have:=vZ h2 h3;simpa using this
theorem mQ {E:iU} {ops:Array Oper} {l1 l2 D:List PE} {y:PE} (h:gZ E ops (l1++y::l2) D=true) (hD:rE ops D):xU E ops (l1.reverse++D) y:=by
 obtain⟨a,b⟩:=vZ h hD;exact(iP a b).1
theorem xV:∀ (n:Nat) (l:List Nat),l.Nodup→(∀ x∈l,x < n)→l.length≤n
 | 0,l,_,h=>by
  cases l with
  | nil=>exact aF _
  | cons x l=>exact absurd (h x (aR ..)) (by omega)
 | n+1,l,hn,h=>by
  by_cases hm:n∈l
  ·have:=xV n (l.erase n) (hn.sublist List.erase_sublist) (fun x a=>by
    have b:=h x (List.mem_of_mem_erase a);have c:x≠n:=fun e=>by subst e;exact(hn.not_mem_erase) a
    omega)
   rw[List.length_erase_of_mem hm] at this;omega
  ·have:=xV n l hn (fun x a=>by
    have b:=h x a;have c:x≠n:=fun e=>by subst e;exact hm a
    omega)
   omega
theorem a1u {E:iU} {ops:Array Oper}:∀ {l D:List PE},gZ E ops l D=true→rE ops D→(D.map (·.i)).Nodup→(∀ z∈D,z.i < ops.size)→∀ i,i < ops.size→∃ z∈D++l,z.i=i
 | [],D,h,hD,hn,hl,i,hi=>by
  simp only[gZ] at h;have hlen:=aC h;rw[bA];by_cases m:∃ z∈D,z.i=i
  ·exact m
  ·exfalso;have c:(i::D.map (·.i)).Nodup:=List.nodup_cons.2 ⟨fun q=>by
    obtain⟨z,a,b⟩:=List.mem_map.1 q;exact m ⟨z,a,b⟩,hn⟩
   have d:=xV ops.size _ c (fun j f=>by
    rcases aG.1 f with rfl|f
    ·exact hi
    ·obtain⟨z,a,rfl⟩:=List.mem_map.1 f;exact hl z a)
   simp at d;omega
 | x::l,D,h,hD,hn,hl,i,hi=>by
  obtain⟨c,p,d⟩:=iP h hD;have o:∀ y∈D,x.i≠y.i:=fun y r e=>by
   have:=c.pair y r;unfold lB at this;rw[e] at this;simp at this
  obtain⟨z,a,b⟩:=a1u p d (List.nodup_cons.2 ⟨fun q=>by
   obtain⟨z,a,b⟩:=List.mem_map.1 q;exact o z a b.symm,hn⟩) (fun z g=>by
   rcases aG.1 g with rfl|g
   ·exact c.lt
   ·exact hl z g) i hi
  refine⟨z,?_,b⟩;simp only[List.cons_append,aG,aI] at a ⊢;rcases a with a|a|a
  ·exact .inr (.inl a)
  ·exact .inl a
  ·exact .inr (.inr a)
end Go.Eng
namespace Go.Eng
variable [fP]
open Go.RowKit
theorem xW {F F':Fr} {o:Option Operand} {d:Nat} (h:∀ x,o=some x→ev F' x=ev F x):opN F' d o=opN F d o:=by
 cases o with
 | none=>rfl
 | some x=>simp only[opN,h x rfl]
theorem xX {F F':Fr}:∀ {l:List (Nat×Operand)},(∀ p∈l,ev F' p.2=ev F p.2)→evs F' l=evs F l
 | [],_=>rfl
 | (i,o)::l,h=>by
  simp only[evs,h (i,o) (aR ..),xX (l:=l) (fun p hp=>h p (aT _ hp))]
theorem a5b {F F':Fr}:∀ {l:List Operand},(∀ x∈l,ev F' x=ev F x)→evl F' l=evl F l
 | [],_=>rfl
 | o::l,h=>by
  simp only[evl,h o (aR ..),a5b (l:=l) (fun p hp=>h p (aT _ hp))]
theorem rF {H H':Hp} {i sz o n:Nat} (h:cK H' i=cK H i):holds H' i sz o n=holds H i sz o n:=by unfold holds;rw[h]
def St.at (S:St) (F:Fr) (H:Hp):St:={ S with F:=F,H:=H }
theorem c3o {E : iU} {op : Op} {S S' : St} {v : AV} {F : Fr} {H : Hp} (h : qU E op S = some (v, S')) (hq : dC E op = true) (hn : S'.nx = S.nx ∨ ∃ b, S'.H = (S.nx, b) :: S.H)
    (hx : ∀ x ∈ op.operands, ev F x = ev S.F x) (hd : ∀ b, rD S.F op = some b → cK H b = cK S.H b) :
    ∃ add, S'.H = add ++ S.H ∧ qU E op (S.at F H) = some (v, S'.at F (add ++ H)) := by
  cases op with
  | move x => cases h; exact ⟨[], rfl, by simp only [qU, St.at]; rw [hx x (by simp [Op.operands])]; rfl⟩
  | assign x => cases h; exact ⟨[], rfl, by simp only [qU, St.at]; rw [hx x (by simp [Op.operands])]; rfl⟩
  | pick c x y =>
    simp only [qU, St.at] at h ⊢
    rw [hx c (by simp [Op.operands]), hx x (by simp [Op.operands]), hx y (by simp [Op.operands])]
    split at h
    · cases h; exact ⟨[], rfl, rfl⟩
    · cases h
  | alloc t =>
    simp only [qU, St.at] at h ⊢
    obtain ⟨ti, h1, h2⟩ := aA.1 h
    cases h2; rw [h1]; exact ⟨[_], rfl, rfl⟩
  | box t x =>
    simp only [qU, St.at] at h ⊢
    rw [hx x (by simp [Op.operands])]
    obtain ⟨h1, h2⟩ := bU h
    cases h2; rw [h1]; exact ⟨[_], rfl, rfl⟩
  | build t ps =>
    simp only [qU, St.at] at h ⊢
    rw [xX (F := S.F) (F' := F) (l := ps.toList) (fun p hp => hx p.2 (by simp [Op.operands]; exact ⟨p.1, by simpa using hp⟩))]
    obtain ⟨ti, h1, h2⟩ := aA.1 h
    obtain ⟨h3, h4⟩ := bU h2
    obtain ⟨cs, h5, h6⟩ := aB.1 h4
    cases h6; rw [h1]; exact ⟨[], rfl, by simp [h3, h5]⟩
  | buildSlice t n ps =>
    simp only [qU, St.at] at h ⊢
    rw [xX (F := S.F) (F' := F) (l := ps.toList) (fun p hp => hx p.2 (by simp [Op.operands]; exact ⟨p.1, by simpa using hp⟩))]
    obtain ⟨ti, h1, h2⟩ := aA.1 h
    obtain ⟨h3, h4⟩ := bU h2
    obtain ⟨cs, h5, h6⟩ := aB.1 h4
    cases h6; rw [h1]; exact ⟨[_], rfl, by rw [aY, h3, cond_true, h5]; rfl⟩
  | load t x =>
    have hx := hx x (by simp [Op.operands])
    simp only [qU, St.at, rD] at h hd ⊢
    rw [hx]
    split at h
    · rename_i i off he
      rw [he] at hd
      obtain ⟨ti, h1, h2⟩ := aA.1 h
      obtain ⟨u, h3, h4⟩ := aB.1 h2
      cases h4
      refine ⟨[], rfl, ?_⟩
      try dsimp only
      rw [h1, aY, show a1h H ti i off = a1h S.H ti i off from by unfold a1h; rw [hd i rfl], h3]; rfl
    · cases h
  | store t x y => cases hq
  | nilCheck x =>
    simp only [qU, St.at] at h ⊢
    rw [hx x (by simp [Op.operands])]
    split at h
    · cases h; exact ⟨[], rfl, rfl⟩
    · cases h
  | binOp op t x y ty =>
    simp only [qU, St.at] at h ⊢
    rw [hx x (by simp [Op.operands]), hx y (by simp [Op.operands])]
    obtain ⟨ti, h1, h2⟩ := aA.1 h
    obtain ⟨v', h3, h4⟩ := aB.1 h2
    cases h4
    exact ⟨[], rfl, by rw [h1, aY, h3]; rfl⟩
  | unOp op t x =>
    simp only [qU, St.at] at h ⊢
    rw [hx x (by simp [Op.operands])]
    split at h
    · cases h; exact ⟨[], rfl, rfl⟩
    · cases h; exact ⟨[], rfl, rfl⟩
    · cases h
  | convert s d x =>
    simp only [qU, St.at] at h ⊢
    rw [hx x (by simp [Op.operands])]
    obtain ⟨si, h1, h2⟩ := aA.1 h
    obtain ⟨ti, h3, h4⟩ := aA.1 h2
    simp only [dC, h3] at hq
    rw [h1, aY, h3, aY]
    cases hk : ti.tk <;> rw [hk] at hq h4 <;> first
      | (cases hq; done)
      | (try dsimp only at h4 ⊢
         cases hn' : (ev S.F x).num with
         | none => rw [hn'] at h4; cases h4
         | some r =>
           rw [hn'] at h4
           dsimp only at h4 ⊢
           obtain ⟨v', h5, h6⟩ := aB.1 h4
           cases h6
           exact ⟨[], rfl, by rw [h5]; rfl⟩)
  | makeSlice t l c =>
    simp only [qU, St.at] at h ⊢
    rw [hx l (by simp [Op.operands]), hx c (by simp [Op.operands])]
    obtain ⟨ti, h1, h2⟩ := aA.1 h
    obtain ⟨n, h3, h4⟩ := aA.1 h2
    obtain ⟨m, h5, h6⟩ := aA.1 h4
    obtain ⟨h7, h8⟩ := bU h6
    cases h8
    exact ⟨[_], rfl, by rw [h1, aY, h3, aY, h5, aY, h7]; rfl⟩
  | slice t x lo hi mx =>
    cases mx with
    | some mo =>
      have e1 : opN F 0 lo = opN S.F 0 lo := xW fun y hy => hx y (by subst hy; simp [Op.operands])
      have e3 := hx x (by simp [Op.operands])
      have e4 := hx mo (by simp [Op.operands])
      have e5 : ∀ y, hi = some y → ev F y = ev S.F y := fun y hy => hx y (by subst hy; simp [Op.operands])
      simp only [qU, St.at, rD] at h hd ⊢
      rw [e1, e3, e4]
      obtain ⟨ti, h1, h2⟩ := aA.1 h
      obtain ⟨l, h3, h4⟩ := aA.1 h2
      obtain ⟨m, h5, h6⟩ := aA.1 h4
      obtain ⟨hh, h7, h8⟩ := aA.1 h6
      obtain ⟨ho, rfl, h7⟩ := aA.1 h7
      rw [h1, aY, h3, aY, h5, aY, aY, e5 ho rfl, show nU (ev S.F ho) = some hh from h7, aY]
      split at h8
      · rename_i i o n he
        rw [he] at hd
        try dsimp only
        obtain ⟨h9, h10⟩ := bU h8
        cases h10
        exact ⟨[], rfl, by rw [rF (hd i rfl), h9]; rfl⟩
      · obtain ⟨h9, h10⟩ := bU h8
        cases h10
        exact ⟨[], rfl, by try dsimp only
                           rw [h9]; rfl⟩
      · cases h8
    | none =>
      have e1 : opN F 0 lo = opN S.F 0 lo := xW fun y hy => hx y (by subst hy; simp [Op.operands])
      have e2 : ∀ d, opN F d hi = opN S.F d hi := fun d => xW fun y hy => hx y (by subst hy; simp [Op.operands])
      have e3 := hx x (by simp [Op.operands])
      simp only [qU, St.at, rD] at h hd ⊢
      rw [e1, e3]
      simp only [e2]
      obtain ⟨ti, h1, h2⟩ := aA.1 h
      obtain ⟨l, h3, h4⟩ := aA.1 h2
      rw [h1, aY, h3, aY]
      split at h4
      · rename_i i o n he
        rw [he] at hd
        try dsimp only
        obtain ⟨hh, h5, h6⟩ := aA.1 h4
        obtain ⟨h7, h8⟩ := bU h6
        rw [h5, aY, rF (hd i rfl), h7, cond_true]
        cases hb : Nat.beq l 0 || Nat.blt l n <;> rw [hb] at h8
        · cases h8
          rcases hn with hn | ⟨b, hn⟩
          · exact absurd hn (by simp)
          · exact absurd (congrArg List.length hn) (by simp)
        · cases h8; exact ⟨[], rfl, rfl⟩
      · rename_i he
        obtain ⟨hh, h5, h6⟩ := aA.1 h4
        obtain ⟨h7, h8⟩ := bU h6
        cases h8
        exact ⟨[], rfl, by rw [h5, aY, h7]; rfl⟩
      · rename_i i off n c he
        obtain ⟨hh, h5, h6⟩ := aA.1 h4
        obtain ⟨h7, h8⟩ := bU h6
        cases h8
        exact ⟨[], rfl, by rw [h5, aY, h7]; rfl⟩
      · rename_i i off he
        obtain ⟨hh, h5, h6⟩ := aA.1 h4
        obtain ⟨h7, h8⟩ := bU h6
        cases h8
        exact ⟨[], rfl, by rw [h5, aY, h7]; rfl⟩
      · cases h4
  | fieldAddr t x f =>
    simp only [qU, St.at] at h ⊢
    rw [hx x (by simp [Op.operands])]
    split at h
    · obtain ⟨ti, h1, h2⟩ := aA.1 h
      obtain ⟨h3, h4⟩ := bU h2
      obtain ⟨p, h5, h6⟩ := aA.1 h4
      obtain ⟨h7, h8⟩ := bU h6
      cases h8
      exact ⟨[], rfl, by (try dsimp only); rw [h1, aY, h3, cond_true, h5, aY, h7]; rfl⟩
    · cases h
  | field t x f =>
    simp only [qU, St.at] at h ⊢
    rw [hx x (by simp [Op.operands])]
    split at h
    · obtain ⟨ti, h1, h2⟩ := aA.1 h
      obtain ⟨h3, h4⟩ := bU h2
      obtain ⟨p, h5, h6⟩ := aA.1 h4
      obtain ⟨u, h7, h8⟩ := aB.1 h6
      cases h8
      exact ⟨[], rfl, by (try dsimp only); rw [h1, aY, h3, cond_true, h5, aY, h7]; rfl⟩
    · cases h
  | indexAddr t x i =>
    have e3 := hx x (by simp [Op.operands])
    have e4 := hx i (by simp [Op.operands])
    simp only [qU, St.at, rD] at h hd ⊢
    rw [e3, e4]
    obtain ⟨ti, h1, h2⟩ := aA.1 h
    obtain ⟨k, h3, h4⟩ := aA.1 h2
    rw [h1, aY, h3, aY]
    split at h4
    · rename_i b o n he
      rw [he] at hd
      obtain ⟨h5, h6⟩ := bU h4
      cases h6
      exact ⟨[], rfl, by (try dsimp only); rw [rF (hd b rfl), h5]; rfl⟩
    · rename_i b off n c he
      obtain ⟨h5, h6⟩ := bU h4
      cases h6
      exact ⟨[], rfl, by (try dsimp only); rw [h5]; rfl⟩
    · rename_i b off he
      obtain ⟨h5, h6⟩ := bU h4
      cases h6
      exact ⟨[], rfl, by (try dsimp only); rw [h5]; rfl⟩
    · cases h4
  | index t x i =>
    simp only [qU, St.at] at h ⊢
    rw [hx x (by simp [Op.operands]), hx i (by simp [Op.operands])]
    obtain ⟨ti, h1, h2⟩ := aA.1 h
    obtain ⟨k, h3, h4⟩ := aA.1 h2
    rw [h1, aY, h3, aY]
    split at h4
    · rename_i s he
      obtain ⟨h5, h6⟩ := bU h4
      obtain ⟨b, h7, h8⟩ := aB.1 h6
      cases h8
      exact ⟨[], rfl, by (try dsimp only); rw [h5, cond_true, h7]; rfl⟩
    · obtain ⟨h5, h6⟩ := bU h4
      obtain ⟨b, h7, h8⟩ := aB.1 h6
      cases h8
      exact ⟨[], rfl, by (try dsimp only); rw [h5, cond_true, h7]; rfl⟩
    · cases h4
  | extract x k =>
    simp only [qU, St.at] at h ⊢
    rw [hx x (by simp [Op.operands])]
    split at h
    · obtain ⟨u, h1, h2⟩ := aB.1 h
      cases h2
      exact ⟨[], rfl, by (try dsimp only); rw [h1]; rfl⟩
    · cases h
  | makeFunc fn az cs =>
    simp only [qU, St.at] at h ⊢
    split at h
    · cases hc : az.isEmpty && cs.isEmpty <;> rw [hc] at h
      · obtain ⟨h1, h2⟩ := bU h
        split at h2
        · rename_i y hy
          have hcs : cs = #[y] := by apply Array.toList_inj.1; exact hy
          have hx := hx y (by rw [hcs]; simp [Op.operands])
          split at h2
          · rename_i hp
            cases h2
            exact ⟨[], rfl, by simp only [h1, cond_true, cond_false, hy, hx, hp]; rfl⟩
          · cases h2
        · cases h2
      · cases h
        exact ⟨[], rfl, rfl⟩
    · cases h
  | _ => first | (cases h; done) | (cases hq; done)
end Go.Eng
namespace Go.Eng
variable [fP]
open Go.RowKit
variable {P : Program}
def uU (G:GM) (F:Fr) (a:Act) (ts:List Tmp):Prop:=∀ t∈ts,dv G (mJ F t)=some (a.tmps.getD t undef)
def b0p (P:Program) (ops:Array Oper) (o:Oper) (S S':St) (v:AV):Prop :=
 S'.F=S.F∧S'.H=S.H∧S'.nx=S.nx∧(∀ p∈S.obs,p∈S'.obs)∧((∀ p∈S'.obs,p)→∀ {w:World} {G:GM} {O:Nat→Prop} {a:Act} {Hx:Hp},a.defers=[]→uU G S.F a (o.looksAt ops)→(∀ b,rD S.F o.op=some b→cK Hx b=cK S.H b)→Sat0 w G O Hx →
  ∃ u,dv G v=some u∧∀ {K:Act→World→Prop} {Q:Exit→Act→World→Prop},K (a.put o.dst u) w→fK P ops o a w K Q)
def e0y (P:Program) (ops:Array Oper) (o:Oper) (S S':St) (v:AV):Prop :=
 ∃ (e:TypeId) (cs:List AV) (vf:Nat→Value),S'={ S with H:=(S.nx,.row e cs)::S.H,nx:=S.nx+1 }∧(∀ G,dv G v=(G S.nx).map fun x=>vf x.g) ∧
  ∀ {w:World} {G:GM} {a:Act},a.defers=[]→uU G S.F a (o.looksAt ops)→∃ us,dG G cs=some us∧∀ {K:Act→World→Prop} {Q:Exit→Act→World→Prop},K (a.put o.dst (vf w.heap.size)) (w.alloc (.cells us.toArray e))→fK P ops o a w K Q
def nW (F:Fr):List Tmp→Fr
 | []=>[]
 | t::l=>(t,mJ F t)::nW F l
theorem pR (F:Fr):∀ (ts:List Tmp) (t:Tmp),mJ (nW F ts) t=if t∈ts then mJ F t else .tup []
 | [],t=>by simp[nW,mJ,cK]
 | s::ts,t=>by
  rw[nW,sK,pR F ts t];by_cases e:t=s
  ·subst e;simp
  ·simp[e]
def lY (a:Act) (ts:List Tmp):Act:={ a with tmps:=(Array.range a.tmps.size).map fun t=>if t∈ts then a.tmps.getD t undef else undef }
theorem b0q (a:Act) (ts:List Tmp) (t:Tmp):(lY a ts).tmps.getD t undef=if t∈ts then a.tmps.getD t undef else undef:=by
 unfold lY;rw[Array.getD_eq_getD_getElem?];by_cases h:t < a.tmps.size
 ·simp[h]
 ·simp[h]
theorem c3p (a:Act) (ts:List Tmp) (t:Tmp) (h:t∈ts):(lY a ts).tmps[t]?=a.tmps[t]?:=by
 unfold lY;by_cases b:t < a.tmps.size
 ·simp[b,h]
 ·simp[b]
theorem a1v {ops:Array Oper} {o:Oper} (F:Fr) (x:Operand) (hx:x∈o.op.operands):ev (nW F (o.looksAt ops)) x=ev F x:=by
 cases x with
 | tmp t =>
  show mJ _ _=mJ _ _;rw[pR,if_pos];exact List.mem_append_left _ (List.mem_filterMap.2 ⟨.tmp t,by simpa using hx,rfl⟩)
 | _=>rfl
theorem sM {G:GM} {F:Fr} {a:Act} {ts:List Tmp} (h:uU G F a ts) (x:Operand):dv G (ev (nW F ts) x)=some ((lY a ts).eval x):=by
 cases x with
 | tmp t =>
  show dv G (mJ _ _)=some ((lY a ts).tmps.getD t undef);rw[pR,b0q];by_cases e:t∈ts
  ·rw[if_pos e,if_pos e];exact h t e
  ·rw[if_neg e,if_neg e];rfl
 | const v=>exact b0a v
 | global g=>rfl
 | func f=>rfl
theorem pS {ops:Array Oper} {o:Oper} (a:Act) (hs:∀ cs b,o.op ≠ .select cs b):execOp (lY a (o.looksAt ops)).eval o=execOp a.eval o :=
 execOp_congr o hs fun x c=>by
  cases x with
  | tmp t =>
   show (lY a _).tmps.getD t undef=a.tmps.getD t undef;rw[b0q,if_pos];exact List.mem_append_left _ (List.mem_filterMap.2 ⟨.tmp t,by simpa using c,rfl⟩)
  | _=>rfl
theorem pT {ops:Array Oper} {o:Oper} (a:Act):Region.wanted o (yielded ops (lY a (o.looksAt ops)).tmps)=Region.wanted o (yielded ops a.tmps):=by
 unfold Region.wanted;cases b:o.guard with
 | none=>rfl
 | some gw =>
  obtain⟨j,w⟩:=gw;have:yielded ops (lY a (o.looksAt ops)).tmps j=yielded ops a.tmps j:=by
   unfold yielded;cases hd:(ops[j]?).bind (·.dst) with
   | none=>rfl
   | some d =>
    simp only[aY];rw[c3p a _ d (by
     unfold Oper.looksAt;rw[b];simp[hd])]
  simp only[this]
theorem a4e {ops:Array Oper} {o:Oper} (F:Fr):gG (nW F (o.looksAt ops)) ops o.guard=gG F ops o.guard:=by
 unfold gG;cases a:o.guard with
 | none=>rfl
 | some gw =>
  obtain⟨j,w⟩:=gw;dsimp only;cases hd:(ops[j]?).bind (·.dst) with
  | none=>rfl
  | some d =>
   dsimp only;rw[pR,if_pos (by
    unfold Oper.looksAt;rw[a];simp[hd])]
theorem oM {G:GM} {F:Fr} {a:Act} {ops:Array Oper} {o:Oper} {b:Bool} (h:uU G F a (o.looksAt ops)) (hd:a.defers=[]) (hw:gG F ops o.guard=some b):Region.wanted o (yielded ops a.tmps)=b:=by
 rw[← pT];refine mP (G:=G) (N:=(lY a (o.looksAt ops)).tmps.size) (F:=nW F (o.looksAt ops)) (a:=lY a (o.looksAt ops)) ⟨hd,rfl,fun t=>sM h (.tmp t)⟩ ?_;rw[a4e];exact hw
theorem c7x {E:iU} (hE:sL P E) {ops:Array Oper} {o:Oper} {S S':St} {v:AV} (hs:∀ cs b,o.op ≠ .select cs b) (h:qU E o.op S=some (v,S')) (hw:gG S.F ops o.guard=some true) (hq:dC E o.op=true) (hn:a1i o.op=true∨S'.nx=S.nx) :
  b0p P ops o S S' v∨e0y P ops o S S' v:=by
 have step:∀ {w J:World} {G:GM} {a:Act} {u:Value},a.defers=[]→uU G S.F a (o.looksAt ops)→(∀ d ty ps af gd,(execOp (lY a (o.looksAt ops)).eval ⟨d,o.op,ty,ps,af,gd⟩).run P w = .ok (.value u) J)→∀ {K:Act→World→Prop} {Q:Exit→Act→World→Prop},K (a.put o.dst u) J→fK P ops o a w K Q:=by
  intro w J G a u hd g Y K Q Z;unfold fK;rw[if_pos (oM g hd hw)];unfold Oper.wp;rw[← pS (ops:=ops) a hs];have:=Y o.dst o.type o.pos o.after o.guard;rw[show (⟨o.dst,o.op,o.type,o.pos,o.after,o.guard⟩:Oper)=o from rfl] at this;rw[this];exact Z
 have C:S'.nx=S.nx∨∃ b,S'.H=(S.nx,b)::S.H:=by
  rcases xR (P:=P) hE.tt hE.bd h with⟨_,_,M,_⟩|⟨e,cs,A,rfl,_⟩|⟨N,_⟩
  ·exact .inl M
  ·exact .inr ⟨_,rfl⟩
  ·rcases N with q|⟨l,B⟩
   ·rw[hq] at q;cases q
   ·rcases hn with q|q
    ·rw[l] at q;cases q
    ·exact .inl q
 have c:∀ (F:Fr) (r:Hp),(∀ x∈o.op.operands,ev F x=ev S.F x)→(∀ b,rD S.F o.op=some b→cK r b=cK S.H b) →
   ∃ add,S'.H=add++S.H∧kZ P E o.op (S.at F r) (S'.at F (add++r)) v:=fun F r f i=>by
  obtain⟨add,j,t⟩:=c3o h hq C f i;exact⟨add,j,xR hE.tt hE.bd t⟩
 have hF:S'.F=S.F∧∀ p∈S.obs,p∈S'.obs:=⟨(xR (P:=P) hE.tt hE.bd h).seq.1,(xR (P:=P) hE.tt hE.bd h).seq.2.1.2.2⟩
 rcases xR (P:=P) hE.tt hE.bd h with⟨f,i,M,h4,_⟩|⟨e,cs,A,f,i,_⟩|⟨N,_⟩
 ·refine .inl ⟨f,i,M,h4,fun ho w G O a r hd g y hS=>?_⟩;obtain⟨add,j,t⟩:=c (nW S.F (o.looksAt ops)) r (fun x V=>a1v S.F x V) y;have D:add=[]:=by
   have:=congrArg List.length (j.symm.trans i);simp at this;exact this
  subst D;rcases t with⟨_,_,_,_,k6⟩|⟨e,cs,A,m,_⟩|⟨R,_⟩
  ·obtain⟨u,L,z⟩:=k6 ho (a:=lY a (o.looksAt ops)) (fun x=>sM g x) hS;exact⟨u,L,step hd g z⟩
  ·have:=congrArg St.nx m;simp only[St.at] at this;omega
  ·rcases R with q|⟨l,B⟩
   ·rw[hq] at q;cases q
   ·simp only[St.at] at B;omega
 ·refine .inr ⟨e,cs,A,f,i,fun {w G a} hd g=>?_⟩;obtain⟨add,j,t⟩:=c (nW S.F (o.looksAt ops)) S.H (fun x V=>a1v S.F x V) (fun _ _=>rfl);have D:add=[(S.nx,.row e cs)]:=by
   rw[f] at j;have:[(S.nx,cU.row e cs)]++S.H=add++S.H:=j;exact(List.append_cancel_right this).symm
  subst D;rcases t with⟨_,_,m,_⟩|⟨e',T,U,m,k4,k5⟩|⟨R,_⟩
  ·rw[f] at m;simp only[St.at] at m;omega
  ·have s:e'=e∧T=cs:=by
    have:=congrArg St.H m;simp only[St.at,List.cons_append,List.nil_append,List.cons.injEq,Prod.mk.injEq,cU.row.injEq] at this;exact⟨this.1.2.1.symm,this.1.2.2.symm⟩
   obtain⟨rfl,rfl⟩:=s;obtain⟨us,L,z⟩:=k5 (w:=w) (G:=G) (a:=lY a (o.looksAt ops)) (fun x=>sM g x);have I:U w.heap.size=A w.heap.size:=by
    have X:=k4 (fun _=>some ⟨w.heap.size,0,0,0,undef⟩);have W:=i (fun _=>some ⟨w.heap.size,0,0,0,undef⟩);rw[X] at W;simpa using W
   rw[I] at z;exact⟨us,L,step hd g z⟩
  ·rcases R with q|⟨l,B⟩
   ·rw[hq] at q;cases q
   ·rcases hn with q|q
    ·rw[l] at q;cases q
    ·rw[f] at q;simp only at q;omega
 ·rcases N with q|⟨l,B⟩
  ·rw[hq] at q;cases q
  ·rcases hn with q|q
   ·rw[l] at q;cases q
   ·omega
theorem b0r {E:iU} {b:Builtin} {ts:List TypeId} {args:List AV} {S S':St} {v:AV} (hb:b = .len∨b = .cap∨b = .min∨b = .max) (h:zJ E b ts args S=some (v,S')):S'=S∧∀ S1:St,zJ E b ts args S1=some (v,S1):=by
 unfold zJ at h ⊢;cases ts with
 | nil=>cases h
 | cons t ts =>
  dsimp only at h ⊢;obtain⟨m,o,a⟩:=aA.1 h;rw[o];simp only[aY];rcases hb with rfl|rfl|rfl|rfl
  ·rcases args with _|⟨x,_|⟨y,l⟩⟩<;>first|(cases a;done)|skip
   dsimp only at a ⊢
   cases g:m.tk<;>rw[g] at a<;>first
    | (cases a;exact⟨rfl,fun _=>rfl⟩)
    | (cases x<;>first|(cases a;done)|(cases a;exact⟨rfl,fun _=>rfl⟩))
  ·rcases args with _|⟨x,_|⟨y,l⟩⟩<;>first|(cases a;done)|skip
   dsimp only at a ⊢
   cases g:m.tk<;>rw[g] at a<;>first
    | (cases a;done)
    | (cases x<;>first|(cases a;done)|(cases a;exact⟨rfl,fun _=>rfl⟩))
  ·rcases args with _|⟨x,_|⟨y,_|⟨z,l⟩⟩⟩<;>first|(cases a;done)|skip
   dsimp only at a ⊢;cases i:x.num<;>cases j:y.num<;>rw[i,j] at a<;>first|(cases a;done)|skip
   rename_i p q;dsimp only at a ⊢;cases c:p.2.kn&&q.2.kn<;>rw[c] at a
   ·obtain⟨t,d,f⟩:=aB.1 (show Option.map _ _=_ from a);cases f;exact⟨rfl,fun S1=>by rw[d];rfl⟩
   ·cases a;exact⟨rfl,fun _=>rfl⟩
  ·rcases args with _|⟨x,_|⟨y,_|⟨z,l⟩⟩⟩<;>first|(cases a;done)|skip
   dsimp only at a ⊢;cases i:x.num<;>cases j:y.num<;>rw[i,j] at a<;>first|(cases a;done)|skip
   rename_i p q;dsimp only at a ⊢;cases c:p.2.kn&&q.2.kn<;>rw[c] at a
   ·obtain⟨t,d,f⟩:=aB.1 (show Option.map _ _=_ from a);cases f;exact⟨rfl,fun S1=>by rw[d];rfl⟩
   ·cases a;exact⟨rfl,fun _=>rfl⟩
theorem c3q {E:iU} (hE:sL P E) {ops:Array Oper} {o:Oper} {S S':St} {v:AV} {c:Call} {b:Builtin} (hop:o.op = .call c) (hc:c.callee = .builtin b) (hq:dC E o.op=true) (hw:gG S.F ops o.guard=some true) (h:zJ E b c.argTypes.toList (evl S.F c.args.toList) S=some (v,S')) :
  b0p P ops o S S' v:=by
 have d:b = .len∨b = .cap∨b = .min∨b = .max:=by
  rw[hop] at hq;simp only[dC,hc] at hq;split at hq<;>first|(cases hq;done)|(rename_i e;cases e;simp)
 obtain⟨rfl,s⟩:=b0r d h;refine⟨rfl,rfl,rfl,fun _ h=>h,fun C w G O a z hd j l A=>?_⟩;have he:evl (nW S'.F (o.looksAt ops)) c.args.toList=evl S'.F c.args.toList:=a5b fun x B=>a1v S'.F x (by
  rw[hop];simp[Op.operands,Call.operands,hc];simpa using B)
 have m:=s (S'.at (nW S'.F (o.looksAt ops)) z);rcases b0j (P:=P) hE.tt hE.bd m with⟨_,k⟩|⟨k,_⟩
 ·have f:uS G (evl (nW S'.F (o.looksAt ops)) c.args.toList) (c.args.toList.map (lY a (o.looksAt ops)).eval) :=
   a1t (F:=nW S'.F (o.looksAt ops)) (N:=(lY a (o.looksAt ops)).tmps.size) (a:=lY a (o.looksAt ops)) ⟨hd,rfl,fun t=>sM j (.tmp t)⟩ _
  rw[he] at f;obtain⟨u,y,i⟩:=k f A;refine⟨u,y,fun {K Q} hK=>?_⟩;unfold fK;rw[if_pos (oM j hd hw)];unfold Oper.wp;rw[← pS (ops:=ops) a (by rw[hop];intro _ _ q;cases q)];have p:(List.map (lY a (o.looksAt ops)).eval c.args.toList).toArray=c.args.map (lY a (o.looksAt ops)).eval:=by apply Array.toList_inj.1;simp
  have r:c.argTypes.toList.toArray=c.argTypes:=rfl;have g:(execOp (lY a (o.looksAt ops)).eval o).run P w = .ok (.value u) w:=by
   unfold execOp;simp only[hop,resolve,hc,Sem.run_bind,Sem.run_pure,Result.andThen_ok,invoke];simp only[p,r] at i;exact i _ _
  rw[g];exact hK
 ·rcases d with rfl|rfl|rfl|rfl<;>(rcases k with q|q|q<;>cases q)
theorem b5n {ops:Array Oper} {o:Oper} {S:St} (hw:gG S.F ops o.guard=some false):b0p P ops o S S (.tup []):=by
 refine⟨rfl,rfl,rfl,fun _ h=>h,fun d w G O a f hd c b g=>⟨undef,rfl,fun {K Q} hK=>?_⟩⟩;unfold fK;rw[if_neg (by rw[oM c hd hw];simp)];exact hK
end Go.Eng
namespace Go.Eng
variable [fP]
open Go.RowKit
structure DS (E:iU) (step:Stp) (N nx0:Nat) (ops:Array Oper) (x:PE) (W:Ws) (S:St) (v:AV) (Sa:St) (W1:Ws) (S1:St):Prop where
 dep:dC E (dK ops x.i).op=true→c0b nx0 x.m (rD S.F (dK ops x.i).op) W=true
 st:step (dK ops x.i) S=some (v,Sa)
 nw:dC E (dK ops x.i).op=true→a1i (dK ops x.i).op=true∨Sa.nx=S.nx
 pt:mV N Sa.F (dK ops x.i).dst v=some S1.F
 s1:S1={ Sa with F:=S1.F }
 w1:W1=(bif dC E (dK ops x.i).op then W else (x.i,nV Sa.H S.H (mW (Sa.H.take (Sa.H.length-S.H.length))))::W)
inductive Occ (E:iU) (step:Stp) (N nx0:Nat) (ops:Array Oper):List PE→Ws→St→List PE→PE→Ws→St→AV→St→Prop
 | here {x l W S v Sa W1 S1}:DS E step N nx0 ops x W S v Sa W1 S1→Occ E step N nx0 ops (x::l) W S [] x W S v Sa
 | there {x l W S v Sa W1 S1 l1 y Wb Sb vb Sc}:DS E step N nx0 ops x W S v Sa W1 S1→Occ E step N nx0 ops l W1 S1 l1 y Wb Sb vb Sc→Occ E step N nx0 ops (x::l) W S (x::l1) y Wb Sb vb Sc
section
variable {P : Program} {E : iU} {step : Stp} {N nx0 : Nat} {ops : Array Oper}
theorem mX {x:PE} {l:List PE} {W:Ws} {S:St} {r:Ws×St} (h:pB E step N ops nx0 (x::l) W S=some r):∃ v Sa W1 S1,DS E step N nx0 ops x W S v Sa W1 S1∧pB E step N ops nx0 l W1 S1=some r:=by
 obtain⟨v,Sa,F,a,b,c,d,f⟩:=b5l h;exact⟨v,Sa,_,{ Sa with F:=F },⟨a,b,c,d,rfl,rfl⟩,f⟩
theorem DS.uniq {x:PE} {W:Ws} {S:St} {v v':AV} {Sa Sa':St} {W1 W1':Ws} {S1 S1':St} (h:DS E step N nx0 ops x W S v Sa W1 S1) (k:DS E step N nx0 ops x W S v' Sa' W1' S1'):v=v'∧Sa=Sa'∧W1=W1'∧S1=S1':=by
 have e:=aK (h.st.symm.trans k.st);cases e;have f:=aK (h.pt.symm.trans k.pt);refine⟨rfl,rfl,h.w1.trans k.w1.symm,?_⟩;rw[h.s1,k.s1,f]
theorem b5o {y:PE}:∀ {l:List PE} {W:Ws} {S:St} {r:Ws×St},pB E step N ops nx0 l W S=some r→y∈l→∃ l1 Wb Sb v Sa,Occ E step N nx0 ops l W S l1 y Wb Sb v Sa
 | [],W,S,r,h,hy=>by cases hy
 | x::l,W,S,r,h,hy=>by
  obtain⟨v,Sa,W1,S1,h1,h2⟩:=mX h;rcases aG.1 hy with rfl|hy
  ·exact⟨_,_,_,_,_,.here h1⟩
  ·obtain⟨l1,Wb,Sb,a,b,k⟩:=b5o h2 hy;exact⟨_,_,_,_,_,.there h1 k⟩
theorem lC {l W S l1 y Wb Sb v Sa} (h:Occ E step N nx0 ops l W S l1 y Wb Sb v Sa):∃ l2,l=l1++y::l2:=by
 induction h with
 | here _=>exact⟨_,rfl⟩
 | there _ _ ih=>obtain⟨l2,rfl⟩:=ih;exact⟨l2,rfl⟩
theorem e5o {l W S l1 y Wb Sb v Sa} (h:Occ E step N nx0 ops l W S l1 y Wb Sb v Sa):∀ j∈W,j∈Wb:=by
 induction h with
 | here _=>exact fun _ h=>h
 | there h _ ih =>
  intro j a;refine ih j ?_;rw[h.w1];cases dC E _
  ·exact aT _ a
  ·exact a
theorem e0z {l W S l1 y Wb Sb v Sa} (h:Occ E step N nx0 ops l W S l1 y Wb Sb v Sa):∃ W1 S1,DS E step N nx0 ops y Wb Sb v Sa W1 S1:=by
 induction h with
 | here h=>exact⟨_,_,h⟩
 | there _ _ ih=>exact ih
theorem c3r {F F':Fr} {d:Option Nat} {v:AV} (h:mV N F d v=some F') (t:Nat):mJ F' t=if d=some t then v else mJ F t:=by
 cases d with
 | none=>cases h;simp
 | some d =>
  obtain⟨_,a⟩:=bU h;cases a;rw[sK];by_cases e:t=d
  ·subst e;simp
  ·rw[if_neg e,if_neg (fun q=>e (aK q).symm)]
structure oN (P:Program) (E:iU) (step:Stp) (N:Nat) (ops:Array Oper):Prop where
 good:∀ o S v S',step o S=some (v,S')→lQ P N ops o S S' v
 quiet:∀ o S v S',step o S=some (v,S')→dC E o.op=true→(a1i o.op=true∨S'.nx=S.nx)→b0p P ops o S S' v∨e0y P ops o S S' v
variable (hs : oN P E step N ops)
include hs
theorem DS.frm {x W S v Sa W1 S1} (h:DS E step N nx0 ops x W S v Sa W1 S1):Sa.F=S.F∧Frm S Sa∧S1.H=Sa.H∧S1.nx=Sa.nx∧S1.obs=Sa.obs∧∀ t,mJ S1.F t=if (dK ops x.i).dst=some t then v else mJ S.F t:=by
 obtain⟨a,b,_⟩:=hs.good _ _ _ _ h.st;refine⟨a,b,by rw[h.s1],by rw[h.s1],by rw[h.s1],fun t=>?_⟩;rw[c3r h.pt,a]
theorem b0s:∀ {l:List PE} {W:Ws} {S:St} {r:Ws×St},pB E step N ops nx0 l W S=some r→S.nx≤r.2.nx∧∀ p∈S.obs,p∈r.2.obs
 | [],W,S,r,h=>by cases h;exact⟨aF _,fun _ h=>h⟩
 | x::l,W,S,r,h=>by
  obtain⟨v,Sa,W1,S1,h1,h2⟩:=mX h;obtain⟨_,⟨_,f,a⟩,_,g,b,_⟩:=h1.frm hs;obtain⟨i,c⟩:=b0s h2;exact⟨by omega,fun p d=>c p (by rw[b];exact a p d)⟩
theorem a6z {l W S l1 y Wb Sb v Sa} {r:Ws×St} (h:Occ E step N nx0 ops l W S l1 y Wb Sb v Sa) (k:pB E step N ops nx0 l W S=some r):∀ p∈Sa.obs,p∈r.2.obs:=by
 induction h with
 | here h =>
  obtain⟨v,b,W1,d,a,c⟩:=mX k;obtain⟨-,rfl,-,-⟩:=h.uniq a;intro p f;exact(b0s hs c).2 p (by rw[(a.frm hs).2.2.2.2.1];exact f)
 | there h _ ih =>
  obtain⟨v,b,W1,d,a,c⟩:=mX k;obtain⟨-,-,rfl,rfl⟩:=h.uniq a;exact ih c
theorem a1w {l W S l1 y Wb Sb v Sa} (h:Occ E step N nx0 ops l W S l1 y Wb Sb v Sa):S.nx≤Sb.nx:=by
 induction h with
 | here _=>exact aF _
 | there h _ ih=>obtain⟨_,⟨_,a,_⟩,_,b,_⟩:=h.frm hs;omega
theorem c7y {l W S l1 y Wb Sb v Sa} (h:Occ E step N nx0 ops l W S l1 y Wb Sb v Sa) (t:Nat) :
  (mJ Sb.F t=mJ S.F t∧∀ z∈l1,(dK ops z.i).dst≠some t)∨∃ z∈l1,(dK ops z.i).dst=some t∧∃ lz Wz Sz vz Sc,Occ E step N nx0 ops l W S lz z Wz Sz vz Sc∧mJ Sb.F t=vz:=by
 induction h with
 | here _=>exact .inl ⟨rfl,fun z a=>by cases a⟩
 | @there x l W S v Sa W1 S1 l1 y Wb Sb vb Sc h h' ih =>
  obtain⟨_,_,_,_,_,k⟩:=h.frm hs;rcases ih with⟨i1,b⟩|⟨z,i1,b,lz,Wz,Sz,vz,f,c,d⟩
  ·by_cases e:(dK ops x.i).dst=some t
   ·exact .inr ⟨x,aR ..,e,_,_,_,_,_,.here h,by rw[i1,k,if_pos e]⟩
   ·refine .inl ⟨by rw[i1,k,if_neg e],fun z a=>?_⟩;rcases aG.1 a with rfl|a
    ·exact e
    ·exact b z a
  ·exact .inr ⟨z,aT _ i1,b,_,_,_,_,_,.there h c,d⟩
omit hs in
theorem a5c {b:Nat}:∀ {pre:Hp},pQ (mW pre) b=false→∀ H,cK (pre++H) b=cK H b
 | [],_,H=>rfl
 | (k,x)::pre,h,H=>by
  simp only[mW,pQ,Bool.or_eq_false_iff] at h;rw[List.cons_append,cH,if_neg (fun e=>by subst e;simp at h),a5c h.2]
theorem d5j {l W S l1 y Wb Sb v Sa} (h:Occ E step N nx0 ops l W S l1 y Wb Sb v Sa) (hn:nx0≤S.nx) {b:Nat} (hb:b < nx0) (hW:∀ j∈Wb,(∃ z∈l1,z.i=j.1∧dC E (dK ops z.i).op=false)→pQ j.2 b=false):cK Sb.H b=cK S.H b:=by
 induction h with
 | here _=>rfl
 | @there x l W S v Sa W1 S1 l1 y Wb Sb vb Sc h h' ih =>
  obtain⟨_,⟨⟨a,d⟩,m,_⟩,g,o,_,_⟩:=h.frm hs;rw[ih (by omega) (fun j hj ⟨z,z1,z2⟩=>hW j hj ⟨z,aT _ z1,z2⟩),g];cases c:dC E (dK ops x.i).op
  ·have:=h.w1;rw[c] at this;have:=hW _ (e5o h' (x.i,nV Sa.H S.H (mW (Sa.H.take (Sa.H.length-S.H.length)))) (by rw[this];exact aR ..)) ⟨x,aR ..,rfl,c⟩;have e:Sa.H.take (Sa.H.length-S.H.length)=a:=by
    rw[d];simp
   rw[e] at this;cases f:pQ (mW a) b with
   | true=>exact uT this f
   | false=>rw[d,a5c f]
  ·rcases hs.quiet _ _ _ _ h.st c (h.nw c) with q|⟨e,cs,p,q,_⟩
   ·rw[q.2.1]
   ·rw[q];show cK ((S.nx,_)::S.H) b=_;rw[cH,if_neg (by omega)]
end
theorem Act.put_df (a:Act) (d:Option Tmp) (u:Value):(a.put d u).defers=a.defers:=by cases d<;>rfl
theorem Act.put_sz (a:Act) (d:Option Tmp) (u:Value):(a.put d u).tmps.size=a.tmps.size:=by cases d<;>simp[Act.put]
theorem a4f {P:Program} {ops:Array Oper} {o:Oper} {a a':Act} {w:World} {K K':Act→World→Prop} {Q:Exit→Act→World→Prop} (hd:a.defers=[]) (hd':a'.defers=[]) (hz:a.tmps.size=a'.tmps.size) (hsel:∀ cs b,o.op ≠ .select cs b)
  (hl:∀ t∈o.looksAt ops,a.tmps.getD t undef=a'.tmps.getD t undef) (h:fK P ops o a' w K' (fun _ _ _=>False)) (hK0:∀ b w',K' b w'→b.defers=[]) (hK:∀ u w',K' (a'.put o.dst u) w'→K (a.put o.dst u) w'):fK P ops o a w K Q:=by
 have hR:lY a (o.looksAt ops)={ a with tmps:=(lY a' (o.looksAt ops)).tmps }:=by
  unfold lY;congr 1;rw[hz];refine Array.ext (by simp) fun i l m=>?_
  simp only[Array.getElem_map,Array.getElem_range];split
  ·rename_i g;exact hl i g
  ·rfl
 have hW:Region.wanted o (yielded ops a.tmps)=Region.wanted o (yielded ops a'.tmps):=by
  rw[← pT (a:=a),← pT (a:=a'),hR]
 have he:execOp a.eval o=execOp a'.eval o:=by
  rw[← pS (ops:=ops) a hsel,← pS (ops:=ops) a' hsel];refine execOp_congr o hsel fun x _=>?_
  cases x with
  | tmp t=>show (lY a _).tmps.getD t undef=_;rw[hR];rfl
  | _=>rfl
 unfold fK at h ⊢;rw[hW];split
 ·rename_i c;rw[if_pos c] at h;unfold Oper.wp at h ⊢;rw[he];generalize (execOp a'.eval o).run P w=r at h;cases r with
  | ok n w' =>
   cases n with
   | value v=>exact hK _ _ h
   | skip=>exact hK _ _ h
   | defer d =>
    have:=hK0 _ _ h;rw[Act.put_df] at this;cases this
   | enter f args =>
    refine Calls.mono h fun e j he=>?_
    cases e<;>first|exact hK _ _ he|exact he.elim|(obtain⟨_,_,q⟩:=he;exact q.elim)
   | row f args=>exact Rows.mono h fun _ _ he=>hK _ _ he
   | _=>exact h.elim
  | halt x w'=>cases x<;>exact h.elim
 ·rename_i c;rw[if_neg c] at h;exact hK _ _ h
end Go.Eng
namespace Go.Eng
variable [fP]
open Go.RowKit
def qV (G R:GM):GM:=fun i=>match G i with
 | some x=>some x
 | none=>R i
theorem a0q {G R:GM}:lK G (qV G R):=fun i x h=>by simp[qV,h]
theorem c3s {G G' R:GM} (h:lK G G') (k:∀ i x,R i=some x→G' i=none):lK (qV G R) (qV G' R):=fun i x q=>by
 unfold qV at q ⊢;cases a:G i with
 | some y=>rw[a] at q;rw[h i y a];exact q
 | none=>rw[a] at q;rw[k i x q];exact q
theorem Sat0.mono {w:World} {G G':GM} {O:Nat→Prop} {H:Hp} (h:Sat0 w G O H) (hg:lK G G'):Sat0 w G' O H:=by
 refine⟨fun i b d z=>?_,fun i j b c x y d m o p A B he=>?_⟩
 ·obtain⟨x,a,r,s,t⟩:=h.bs i b d z;exact⟨x,hg i x a,r,s,t.mono hg rfl⟩
 ·obtain⟨u,a,_⟩:=h.bs i b d m;obtain⟨v,l,_⟩:=h.bs j c o p;have f:=hg i u a;rw[A] at f;cases f;have g:=hg j v l;rw[B] at g;cases g;exact h.inj i j b c x y d m o p a l he
theorem gP.alloc {w:World} {G:GM} {O:Nat→Prop} {H:Hp} {nx:Nat} (h:gP w G O H nx) (o:Obj):gP (w.alloc o) G O H nx∧oZ w G O (w.alloc o) G O:=by
 refine⟨⟨⟨fun i b a l=>?_,h.inj⟩,h.fresh,fun x m=>?_,h.gh.upd (lK.refl G) (S:=fun _=>False) ⟨rfl,rfl,rfl,by simp,fun k c _=>Below.heap_alloc _ _ _ c⟩ (fun _ _ q=>q.elim) (fun _ q=>q) (fun _ _ q=>q) (fun i b y a p r => .inl ⟨b,a,p,r⟩) (fun _ _ q=>q) (fun _ q=>q.elim),h.ob,aL h.bw (by simp)⟩,lK.refl G,⟨rfl,rfl,rfl,by simp,fun k c _=>Below.heap_alloc _ _ _ c⟩,fun _ h => .inl h⟩
 ·obtain⟨x,d,f,g,j⟩:=h.bs i b a l;exact⟨x,d,f,by simp;omega,j.mono (lK.refl G) (Below.heap_alloc _ _ _ g)⟩
 ·have:=h.olt x m;simp;omega
theorem gP.adopt {w:World} {G:GM} {O:Nat→Prop} {H:Hp} {nx:Nat} (h:gP w G O H nx) (x:GI) (b:cU) (ho:¬ O x.g) (hlt:x.g < w.heap.size) (hlo:fP.b≤x.g) (hb:BS w (fun j=>if j=nx then some x else G j) x b) :
  gP w (fun j=>if j=nx then some x else G j) (fun y=>O y∨y=x.g) ((nx,b)::H) (nx+1):=by
 have t:lK G (fun j=>if j=nx then some x else G j):=fun i y a=>by
  have:=h.lt a;show (if i=nx then _ else _)=_;rw[if_neg (by omega)];exact a
 have u:∀ j c y,cK H j=some c→c.live→G j=some y→y.g≠x.g:=fun j c y m p l e=>by
  obtain⟨C,r,s,_⟩:=h.bs j c m p;rw[l] at r;cases r;rw[e] at s;exact ho s
 refine⟨⟨?_,?_⟩,?_,fun y l=>by rcases l with q|q;exact h.olt y q;rw[q];exact hlt,
  h.gh.upd t (cJ.refl (fun _=>False) w) (fun _ _ q=>q.elim) (fun _ q => .inl q) (pP hb.ng) (fun i c y a p l=>by
   rw[cH] at a;by_cases e:i=nx
   ·simp only[if_pos e,Option.some.injEq] at l;exact .inr (.inr fun q=>ho (by rw[l];exact q))
   ·rw[if_neg e] at a;simp only[if_neg e] at l;exact .inl ⟨c,a,p,l⟩) (fun _ _ q=>q) (fun _ q=>q.elim),fun y q=>q.elim (h.ob y) (fun e=>by rw[e];exact hlo),h.bw⟩
 ·intro i c a p;rw[cH] at a;by_cases e:i=nx
  ·subst e;rw[if_pos rfl] at a;cases a;exact⟨x,if_pos rfl,.inr rfl,hlt,hb⟩
  ·rw[if_neg e] at a;obtain⟨y,r,s,A,B⟩:=h.bs i c a p;exact⟨y,by show (if i=nx then _ else _)=_;rw[if_neg e];exact r,.inl s,A,B.mono t rfl⟩
 ·intro i j c d y z a v m hd l o he;rw[cH] at a m;by_cases e:i=nx<;>by_cases f:j=nx
  ·omega
  ·exfalso;rw[if_neg f] at m;simp only[if_neg f] at o;simp only[if_pos e,Option.some.injEq] at l;exact u j d z m hd o (by rw[← he,← l])
  ·exfalso;rw[if_neg e] at a;simp only[if_neg e] at l;simp only[if_pos f,Option.some.injEq] at o;exact u i c y a v l (by rw[he,← o])
  ·rw[if_neg e] at a;rw[if_neg f] at m;simp only[if_neg e] at l;simp only[if_neg f] at o;exact h.inj i j c d y z a v m hd l o he
 ·intro i a;show (if i=nx then _ else _)=_;rw[if_neg (by omega)];exact h.fresh i (by omega)
theorem mY (a:Act) (d:Option Tmp) (u:Value) (t:Nat):(a.put d u).tmps.getD t undef=if d=some t∧t < a.tmps.size then u else a.tmps.getD t undef:=by
 cases d with
 | none=>simp[Act.put]
 | some d =>
  show (a.tmps.setIfInBounds d u).getD t undef=_;by_cases h:d < a.tmps.size
  ·rw[b0o _ _ _ _ _ h];by_cases e:t=d
   ·subst e;simp[h]
   ·rw[if_neg e,if_neg (fun q=>e (aK q.1).symm)]
  ·have:a.tmps.setIfInBounds d u=a.tmps:=by simp[Array.setIfInBounds,h]
   rw[this,if_neg];rintro⟨q,r⟩;cases q;exact h r
theorem a7a {N:Nat} {F F':Fr} {d:Nat} {v:AV} (h:mV N F (some d) v=some F'):d < N:=by
 obtain⟨a,_⟩:=bU h;simpa [Nat.blt_eq] using a
theorem a1x {ops:Array Oper} {x y:PE} (h:lB ops x y=true) (d:Tmp) (hx:(dK ops x.i).dst=some d):(dK ops y.i).dst≠some d:=by
 intro a;simp only[lB,aD] at h;rw[hx,a] at h;simp[d9o] at h
theorem a7b {ops:Array Oper} {x y:PE} (h:lB ops x y=true):x.i≠y.i:=by
 intro e;simp only[lB,aD] at h;rw[e] at h;simp at h
theorem uV {ops:Array Oper} {x y:PE} (h:lB ops x y=true) (hb:x.m.testBit y.i=false):(∀ t∈(dK ops x.i).looksAt ops,(dK ops y.i).dst≠some t)∧∀ t∈(dK ops y.i).looksAt ops,(dK ops x.i).dst≠some t:=by
 simp only[lB,aD,Bool.or_eq_true,hb,Bool.false_eq_true,false_or,Bool.not_eq_true'] at h;obtain⟨_,b,c⟩:=h;refine⟨fun t a e=>?_,fun t a e=>?_⟩
 ·rw[e] at b;simp[b0l,a] at b
 ·rw[e] at c;simp[b0l,a] at c
section
variable {P : Program} {E : iU} {step : Stp} {N nx0 : Nat} {ops : Array Oper}
theorem rG {l1 l2 l3 D:List PE} {x y:PE} (h:gZ E ops (l1++x::(l2++y::l3)) D=true) (hD:rE ops D):lB ops y x=true:=by
 rw[show l1++x::(l2++y::l3)=(l1++x::l2)++y::l3 by simp] at h;exact(mQ h hD).pair x (by simp)
theorem uW:∀ {l D:List PE},gZ E ops l D=true→rE ops D→(l.map (·.i)).Nodup
 | [],_,_,_=>List.nodup_nil
 | x::l,D,h,hD=>by
  obtain⟨_,h2,h3⟩:=iP h hD;refine List.nodup_cons.2 ⟨fun q=>?_,uW h2 h3⟩;obtain⟨y,a,b⟩:=List.mem_map.1 q;obtain⟨c,d,rfl⟩:=List.append_of_mem a;exact a7b (rG (l1:=[]) h hD) b
theorem b0t:∀ {l D:List PE},gZ E ops l D=true→D.length+l.length=ops.size
 | [],D,h=>by
  simp only[gZ] at h;simpa using aC h
 | x::l,D,h=>by
  simp only[gZ,aD] at h;have:=b0t h.2;simp at this ⊢;omega
theorem pU {l D:List PE} (h:gZ E ops l D=true) (hD:rE ops D) {x:PE} (hx:x∈l):∀ z∈D,x.i≠z.i:=fun z a=>by
 obtain⟨b,c,rfl⟩:=List.append_of_mem hx;exact a7b ((mQ h hD).pair z (by simp[a]))
theorem c7z {l D:List PE} (h:gZ E ops l D=true) (hD:rE ops D) {x y:PE} (hx:x∈l) (hy:y∈l) (hne:x.i≠y.i) (d:Tmp) (hd:(dK ops x.i).dst=some d):(dK ops y.i).dst≠some d:=by
 obtain⟨c,f,rfl⟩:=List.append_of_mem hx;rcases aI.1 hy with q|q
 ·obtain⟨a,b,rfl⟩:=List.append_of_mem q;rw[bN,List.cons_append] at h;exact a1x (rG h hD) d hd
 ·rcases aG.1 q with rfl|q
  ·exact absurd rfl hne
  ·obtain⟨a,b,rfl⟩:=List.append_of_mem q;exact fun e=>a1x (rG h hD) d e hd
theorem b0u {l W S l1 y Wb Sb v Sa l1' y' Wb' Sb' v' Sa'} (h:Occ E step N nx0 ops l W S l1 y Wb Sb v Sa) (k:Occ E step N nx0 ops l W S l1' y' Wb' Sb' v' Sa') (hn:(l.map (·.i)).Nodup) (hi:y.i=y'.i):y=y'∧Sb=Sb'∧v=v'∧Sa=Sa':=by
 induction h generalizing l1' y' Wb' Sb' v' Sa' with
 | @here x l W S v Sa W1 S1 h =>
  cases k with
  | here k=>obtain⟨rfl,rfl,-,-⟩:=h.uniq k;exact⟨rfl,rfl,rfl,rfl⟩
  | there _ k =>
   exfalso;obtain⟨a,rfl⟩:=lC k;simp[hi] at hn
 | @there x l W S v Sa W1 S1 l1 y Wb Sb vb Sc h h' ih =>
  cases k with
  | here k =>
   exfalso;obtain⟨a,rfl⟩:=lC h';simp[hi] at hn
  | there k k' =>
   obtain⟨-,-,rfl,rfl⟩:=h.uniq k;exact ih k' (List.nodup_cons.1 hn).2 hi
theorem b0v (hs:oN P E step N ops) {l W S l1 y Wb Sb v Sa l1' y' Wb' Sb' v' Sa'} (h:Occ E step N nx0 ops l W S l1 y Wb Sb v Sa) (k:Occ E step N nx0 ops l W S l1' y' Wb' Sb' v' Sa') (hi:Sb.nx=Sb'.nx) (h1:Sb.nx < Sa.nx) (k1:Sb'.nx < Sa'.nx):y=y':=by
 induction h generalizing l1' y' Wb' Sb' v' Sa' with
 | @here x l W S v Sa W1 S1 h =>
  cases k with
  | here k=>rfl
  | there k k' =>
   exfalso;obtain⟨-,rfl,rfl,rfl⟩:=h.uniq k;have:=a1w hs k';have:=(h.frm hs).2.2.2.1;omega
 | @there x l W S v Sa W1 S1 l1 y Wb Sb vb Sc h h' ih =>
  cases k with
  | here k =>
   exfalso;obtain⟨-,rfl,rfl,rfl⟩:=h.uniq k;have:=a1w hs h';have:=(h.frm hs).2.2.2.1;omega
  | there k k' =>
   obtain⟨-,-,rfl,rfl⟩:=h.uniq k;exact ih k' hi h1 k1
end
def e5p (E:iU) (G R:GM) (a:Act) (w:World) (o:Oper) (Sb:St) (v:AV) (Sa:St):Prop :=
 dC E o.op=true∧(∀ d,o.dst=some d→dv (qV G R) v=some (a.tmps.getD d undef)) ∧
 ((Sa.H=Sb.H∧Sa.nx=Sb.nx)∨∃ e cs us g,Sa.H=(Sb.nx,.row e cs)::Sb.H∧Sa.nx=Sb.nx+1∧R Sb.nx=some ⟨g,0,0,0,undef⟩∧dG (qV G R) cs=some us∧w.heap[g]?=some (.cells us.toArray e (0,0)))
structure Inv (E:iU) (step:Stp) (N nx0:Nat) (ops:Array Oper) (w0:World) (G0:GM) (O0:Nat→Prop) (r:Ws×St) (l:List PE) (W:Ws) (S:St) (D:List PE) (ea:Nat→Bool) (R:GM) (listed:Array Bool) (a:Act) (w:World) (G:GM) (O:Nat→Prop):Prop where
 dr:pB E step N ops nx0 l W S=some r
 plan:gZ E ops l D=true
 anc:rE ops D
 nxs:nx0≤S.nx
 bw:fP.b≤w0.heap.size
 sat:gP w G O S.H S.nx
 adv:oZ w0 G0 O0 w G O
 gh:∃ a',FR G N S.F a'∧∀ t,(∀ y∈l,ea y.i=true→(dK ops y.i).dst≠some t)→a.tmps.getD t undef=a'.tmps.getD t undef
 df:a.defers=[]
 sz:a.tmps.size=N
 ls:listed.size=ops.size
 li:∀ i,listed.getD i false=true↔(∃ z∈D,z.i=i)∨(∃ y∈l,y.i=i∧ea i=true)
 dn:b5m ops (fun i=>listed.getD i false=true)
 rk:∀ i x,R i=some x→(¬ O x.g∧w0.heap.size≤x.g∧x.g < w.heap.size)∧∃ l1 y Wb Sb v Sa,Occ E step N nx0 ops l W S l1 y Wb Sb v Sa∧ea y.i=true∧Sb.nx=i∧Sb.nx < Sa.nx
 ri:∀ i j x y,R i=some x→R j=some y→x.g=y.g→i=j
 er:∀ l1 y Wb Sb v Sa,Occ E step N nx0 ops l W S l1 y Wb Sb v Sa→ea y.i=true→e5p E G R a w (dK ops y.i) Sb v Sa
end Go.Eng
namespace Go.Eng
variable [fP]
open Go.RowKit
section
variable {P : Program} {E : iU} {step : Stp} {N nx0 : Nat} {ops : Array Oper} {w0 : World} {G0 : GM} {O0 : Nat → Prop} {r : Ws × St}
theorem d5k (hs:oN P E step N ops) (ho:∀ p∈r.2.obs,p) {x:PE} {l D:List PE} {W:Ws} {S:St} {ea:Nat→Bool} {R:GM} {listed:Array Bool} {a:Act} {w:World} {G:GM} {O:Nat→Prop}
  (h:Inv E step N nx0 ops w0 G0 O0 r (x::l) W S D ea R listed a w G O) (he:ea x.i=true):∃ W1 S1 G1 O1 R1,Inv E step N nx0 ops w0 G0 O0 r l W1 S1 (x::D) ea R1 listed a w G1 O1:=by
 obtain⟨v,V,W1,S1,c,h2⟩:=mX h.dr;obtain⟨f1,f2,f3,f4,f5,f6⟩:=c.frm hs;obtain⟨hq,I,m⟩:=h.er _ _ _ _ _ _ (.here c) he;have C:∀ p∈V.obs,p:=fun p hp=>ho p (a6z hs (.here c) h.dr p hp)
 obtain⟨a',J,a1⟩:=h.gh;have hl:uU G S.F a' ((dK ops x.i).looksAt ops):=fun t _=>J.sl t
 obtain⟨p1,p2,p3⟩:=iP h.plan h.anc
 have key:∃ G1 O1 R1 u,gP w G1 O1 S1.H S1.nx∧oZ w0 G0 O0 w G1 O1∧lK G G1∧qV G1 R1=qV G R∧dv G1 v=some u ∧
   (∀ i y,R1 i=some y→R i=some y∧¬ O1 y.g)∧(∀ Y y Z Sb v' Sc,Occ E step N nx0 ops l W1 S1 Y y Z Sb v' Sc→R1 Sb.nx=R Sb.nx)∧(∀ i y,R1 i=some y→¬ (i=S.nx∧S.nx < V.nx)):=by
  rcases hs.quiet _ _ _ _ c.st hq (c.nw hq) with⟨L,M,B,g4,g5⟩|⟨e,cs,vf,L,M,B⟩
  ·obtain⟨u,A,_⟩:=g5 C J.df hl (fun _ _=>rfl) h.sat.toSat0;refine⟨G,O,R,u,by rw[f3,f4,M,B];exact h.sat,h.adv,lK.refl G,rfl,A,fun i y b=>⟨b,(h.rk i y b).1.1⟩,fun _ _ _ _ _ _ _=>rfl,fun i y b q=>?_⟩;rw[B] at q;omega
  ·obtain⟨us,A,_⟩:=B (w:=w) J.df hl;have hH:V.H=(S.nx,.row e cs)::S.H:=by rw[L]
   have hN:V.nx=S.nx+1:=by rw[L]
   rcases m with⟨_,q⟩|⟨e',a2,Q,g,q1,q2,K,q4,q5⟩
   ·omega
   ·rw[hH] at q1;simp only[List.cons.injEq,Prod.mk.injEq,cU.row.injEq,true_and,and_true] at q1;obtain⟨rfl,rfl⟩:=q1;have:Q=us:=by
     have:=cT (a0q (G:=G) (R:=R)) A;rw[q4] at this;exact aK this
    subst this;obtain⟨⟨r1,X,r3⟩,_⟩:=h.rk _ _ K;have hG:lK G (fun j=>if j=S.nx then some ⟨g,0,0,0,undef⟩ else G j):=fun i y d=>by
     have:=h.sat.lt d;show (if i=S.nx then _ else _)=_;rw[if_neg (by omega)];exact d
    refine⟨fun j=>if j=S.nx then some ⟨g,0,0,0,undef⟩ else G j,fun y=>O y∨y=g,fun j=>if j=S.nx then none else R j,vf g,?_,⟨h.adv.g.trans hG,h.adv.u,fun y b=>b.elim (h.adv.o y) (fun e=>by rw[e];exact .inr X)⟩,hG,?_,by rw[M];simp,fun i y b=>?_,fun Y y Z Sb v' Sc f=>?_,fun i y b q=>?_⟩
    ·rw[f3,f4,hH,hN];exact h.sat.adopt ⟨g,0,0,0,undef⟩ (.row e cs) r1 r3 (aL h.bw X) ⟨Q,cT hG A,q5⟩
    ·funext i;unfold qV;by_cases d:i=S.nx
     ·subst d;simp[h.sat.fresh _ (aF _),K]
     ·simp[d]
    ·dsimp only at b;by_cases d:i=S.nx
     ·rw[if_pos d] at b;cases b
     ·rw[if_neg d] at b;refine⟨b,fun o=>?_⟩;rcases o with o|o
      ·exact(h.rk i y b).1.1 o
      ·exact d (h.ri _ _ _ _ b K o)
    ·have:=a1w hs f;show (if Sb.nx=S.nx then none else R Sb.nx)=_;rw[if_neg (by omega)]
    ·dsimp only at b;rw[if_pos q.1] at b;cases b
 obtain⟨G1,O1,R1,u,A,k2,k3,k4,k5,k6,k7,k8⟩:=key;have a0:FR G1 N S1.F (a'.put (dK ops x.i).dst u):=by
  have:=(J.mono k3).put (F':=S1.F) (dst:=(dK ops x.i).dst) (v:=v) (u:=u) (by rw[← f1];exact c.pt) k5;exact this
 refine⟨W1,S1,G1,O1,R1,⟨h2,p2,p3,by have:=f2.2.1;have:=h.nxs;omega,h.bw,A,k2,⟨_,a0,fun t ht=>?_⟩,h.df,h.sz,h.ls,fun i=>?_,h.dn,fun i y b=>?_,fun i j y z b hz=>h.ri i j y z (k6 i y b).1 (k6 j z hz).1,fun Y y Z Sb v' Sc f s=>?_⟩⟩
 ·rw[mY];by_cases hd:(dK ops x.i).dst=some t
  ·have e1:=I t hd;have e2:dv (qV G R) v=some u:=by rw[← k4];exact vS a0q k5
   rw[e2] at e1;have:=c.pt;rw[hd] at this;rw[if_pos ⟨hd,by rw[J.sz];exact a7a this⟩];exact(aK e1).symm
  ·rw[if_neg (fun q=>hd q.1)];refine a1 t fun y b s=>?_
   rcases aG.1 b with rfl|b
   ·exact hd
   ·exact ht y b s
 ·rw[h.li i];constructor
  ·rintro(⟨z,U,z2⟩|⟨y,T,y2,y3⟩)
   ·exact .inl ⟨z,aT _ U,z2⟩
   ·rcases aG.1 T with rfl|T
    ·exact .inl ⟨_,aR ..,y2⟩
    ·exact .inr ⟨y,T,y2,y3⟩
  ·rintro(⟨z,U,z2⟩|⟨y,T,y2,y3⟩)
   ·rcases aG.1 U with rfl|U
    ·exact .inr ⟨_,aR ..,z2,by rw[← z2];exact he⟩
    ·exact .inl ⟨z,U,z2⟩
   ·exact .inr ⟨y,aT _ T,y2,y3⟩
 ·obtain⟨r1,X⟩:=k6 i y b;obtain⟨⟨_,q2,K⟩,Y,y',Z,Sb,v',Sc,q4,q5,q6,q7⟩:=h.rk i y r1;refine⟨⟨X,q2,K⟩,?_⟩;cases q4 with
  | here q =>
   exfalso;obtain⟨-,rfl,-,-⟩:=q.uniq c;exact k8 i y b ⟨q6.symm,q7⟩
  | there q q' =>
   obtain⟨-,-,rfl,rfl⟩:=q.uniq c;exact⟨_,_,_,_,_,_,q',q5,q6,q7⟩
 ·obtain⟨L,M,B⟩:=h.er _ _ _ _ _ _ (.there c f) s;refine⟨L,by rw[k4];exact M,?_⟩;rw[k4,k7 _ _ _ _ _ _ f];exact B
theorem e5q (hs:oN P E step N ops) (hsel:∀ i,i < ops.size→∀ cs b,(dK ops i).op ≠ .select cs b) (ho:∀ p∈r.2.obs,p) {x:PE} {l D:List PE} {W:Ws} {S:St} {ea:Nat→Bool} {R:GM} {listed:Array Bool} {a:Act} {w:World} {G:GM} {O:Nat→Prop}
  (h:Inv E step N nx0 ops w0 G0 O0 r (x::l) W S D ea R listed a w G O) (he:ea x.i=false) {K:Act→World→Prop} {Q:Exit→Act→World→Prop}
  (hK:∀ W1 S1 b w' G' O',Inv E step N nx0 ops w0 G0 O0 r l W1 S1 (x::D) ea R (listed.setIfInBounds x.i true) b w' G' O'→K b w'):fK P ops (dK ops x.i) a w K Q:=by
 obtain⟨v,Sa,W1,S1,A,h2⟩:=mX h.dr;obtain⟨f1,f2,f3,f4,f5,f6⟩:=A.frm hs;have V:∀ p∈Sa.obs,p:=fun p hp=>ho p (a6z hs (.here A) h.dr p hp)
 obtain⟨a',L,a0⟩:=h.gh;obtain⟨p1,p2,p3⟩:=iP h.plan h.anc;have a3:listed.getD x.i false=true→False:=fun q=>by
  rcases (h.li x.i).1 q with⟨z,s,C⟩|⟨y,T,y2,U⟩
  ·exact pU h.plan h.anc (aR ..) z s C.symm
  ·rw[he] at U;cases U
 have X:∀ y∈l,ea y.i=true→lB ops y x=true∧y.m.testBit x.i=false:=fun y f c=>by
  obtain⟨l2,l3,rfl⟩:=List.append_of_mem f;have a4:lB ops y x=true:=rG (l1:=[]) h.plan h.anc;refine⟨a4,?_⟩;cases hb:y.m.testBit x.i with
  | false=>rfl
  | true =>
   have a5:xU E ops ((x::l2).reverse++D) y:=mQ (l1:=x::l2) h.plan h.anc;exact(a3 (a5.anc _ h.dn ((h.li y.i).2 (.inr ⟨y,by simp,rfl,c⟩)) _ hb)).elim
 have I:∀ t∈(dK ops x.i).looksAt ops,a.tmps.getD t undef=a'.tmps.getD t undef:=fun t ht=>a0 t fun y f c=>by
  rcases aG.1 f with rfl|f
  ·rw[he] at c;cases c
  ·obtain⟨q1,q2⟩:=X y f c;exact(uV q1 q2).2 t ht
 obtain⟨_,_,a1⟩:=hs.good _ _ _ _ A.st
 refine a4f (K':=fun b w'=>∃ u G' O',b=a'.put (dK ops x.i).dst u∧dv G' v=some u∧gP w' G' O' Sa.H Sa.nx∧oZ w G O w' G' O') h.df L.df (h.sz.trans L.sz.symm) (hsel x.i p1.lt) I
  (a1 V L h.sat fun u w' G' O' k1 k2 B=>⟨u,G',O',rfl,k1,k2,B⟩) (fun b w' ⟨u,_,_,e,_⟩=>by rw[e,Act.put_df];exact L.df) ?_
 rintro u w' ⟨u2,G',O',e,k1,k2,B⟩;have a6:FR G' N S1.F (a'.put (dK ops x.i).dst u):=by
  rw[e];exact(L.mono B.g).put (by rw[← f1];exact A.pt) k1
 have Y:lK (qV G R) (qV G' R):=c3s B.g fun i y f=>by
  obtain⟨_,l1,y',Wb,Sb,v',Sc,q4,M,q6,q7⟩:=h.rk i y f;cases q4 with
  | here q=>rw[he] at M;cases M
  | there q q' =>
   obtain⟨-,-,rfl,rfl⟩:=q.uniq A;have:=a1w hs q';exact k2.fresh i (by omega)
 refine hK W1 S1 _ _ G' O' ⟨h2,p2,p3,by have:=f2.2.1;have:=h.nxs;omega,h.bw,by rw[f3,f4];exact k2,h.adv.trans B,⟨_,a6,fun t ht=>?_⟩,by rw[Act.put_df];exact h.df,by rw[Act.put_sz];exact h.sz,by simp[h.ls],fun i=>?_,fun i hi p hp=>?_,fun i y f=>?_,h.ri,fun l1 y Wb Sb v' Sc a2 c=>?_⟩
 ·rw[mY,mY,h.sz,L.sz];split
  ·rfl
  ·rename_i hn;by_cases hd:(dK ops x.i).dst=some t
   ·have:=A.pt;rw[hd] at this;exact absurd ⟨hd,a7a this⟩ hn
   ·refine a0 t fun y f c=>?_
    rcases aG.1 f with rfl|f
    ·exact hd
    ·exact ht y f c
 ·have J:x.i < listed.size:=by rw[h.ls];exact p1.lt
  have:(listed.setIfInBounds x.i true).getD i false=true↔i=x.i∨listed.getD i false=true:=by
   by_cases e:i=x.i
   ·subst e;simp[J]
   ·simp[Array.getElem?_setIfInBounds_ne (Ne.symm e),e]
  rw[this,h.li i];constructor
  ·rintro(rfl|⟨z,s,C⟩|⟨y,T,y2,U⟩)
   ·exact .inl ⟨_,aR ..,rfl⟩
   ·exact .inl ⟨z,aT _ s,C⟩
   ·rcases aG.1 T with rfl|T
    ·exact .inl ⟨_,aR ..,y2⟩
    ·exact .inr ⟨y,T,y2,U⟩
  ·rintro(⟨z,s,C⟩|⟨y,T,y2,U⟩)
   ·rcases aG.1 s with rfl|s
    ·exact .inl C.symm
    ·exact .inr (.inl ⟨z,s,C⟩)
   ·exact .inr (.inr ⟨y,aT _ T,y2,U⟩)
 ·have J:x.i < listed.size:=by rw[h.ls];exact p1.lt
  have Z:∀ j,(listed.setIfInBounds x.i true).getD j false=true↔j=x.i∨listed.getD j false=true:=fun j=>by
   by_cases e:j=x.i
   ·subst e;simp[J]
   ·simp[Array.getElem?_setIfInBounds_ne (Ne.symm e),e]
  dsimp only at hi ⊢;rw[Z] at hi ⊢;refine .inr ?_;rcases hi with rfl|hi
  ·obtain⟨z,s,C⟩:=p1.pre p hp;exact(h.li p).2 (.inl ⟨z,s,C⟩)
  ·exact h.dn i hi p hp
 ·obtain⟨⟨q1,q2,q3⟩,l1,y',Wb,Sb,v',Sc,q4,M,q6,q7⟩:=h.rk i y f;refine⟨⟨fun o=>?_,q2,aX q3 B.u.size⟩,?_⟩
  ·rcases B.o _ o with o|o
   ·exact q1 o
   ·omega
  ·cases q4 with
   | here q=>rw[he] at M;cases M
   | there q q' =>
    obtain⟨-,-,rfl,rfl⟩:=q.uniq A;exact⟨_,_,_,_,_,_,q',M,q6,q7⟩
 ·obtain⟨g1,g2,g3⟩:=h.er _ _ _ _ _ _ (.there A a2) c;obtain⟨l2,a7⟩:=lC a2;obtain⟨q1,q2⟩:=X y (by rw[a7];simp) c;refine⟨g1,fun d hd=>?_,g3.imp id ?_⟩
  ·rw[mY,if_neg (fun q=>a1x q1 d hd q.1)];exact vS Y (g2 d hd)
  ·rintro⟨e,cs,us,g,c1,c2,c3,c4,c5⟩;obtain⟨⟨d1,d2,d3⟩,_⟩:=h.rk _ _ c3;exact⟨e,cs,us,g,c1,c2,c3,cT Y c4,(B.u.block _ d3 d1).trans c5⟩
end
end Go.Eng
namespace Go.Eng
variable [fP]
open Go.RowKit
section
variable {P : Program} {E : iU} {step : Stp} {N nx0 : Nat} {ops : Array Oper} {w0 : World} {G0 : GM} {O0 : Nat → Prop} {r : Ws × St}
theorem b0w (listed:Array Bool) (k:Nat) (h:k < listed.size) (j:Nat):(listed.setIfInBounds k true).getD j false=true↔j=k∨listed.getD j false=true:=by
 by_cases e:j=k
 ·subst e;simp[h]
 ·simp[Array.getElem?_setIfInBounds_ne (Ne.symm e),e]
theorem e1a (hs:oN P E step N ops) (ho:∀ p∈r.2.obs,p) {l l1 D:List PE} {y:PE} {W Wb:Ws} {S Sb Sa:St} {v:AV} {ea:Nat→Bool} {R:GM} {listed:Array Bool} {a:Act} {w:World} {G:GM} {O:Nat→Prop}
  (h:Inv E step N nx0 ops w0 G0 O0 r l W S D ea R listed a w G O) (hoc:Occ E step N nx0 ops l W S l1 y Wb Sb v Sa) (hy:listed.getD y.i false=false) (hq:dC E (dK ops y.i).op=true) (hp:∀ p∈vY (dK ops y.i),listed.getD p false=true) {K:Act→World→Prop} {Q:Exit→Act→World→Prop}
  (hK:∀ R' b w',Inv E step N nx0 ops w0 G0 O0 r l W S D (fun i=>Nat.beq i y.i||ea i) R' (listed.setIfInBounds y.i true) b w' G O→K b w'):fK P ops (dK ops y.i) a w K Q:=by
 obtain⟨W1,S1,h1⟩:=e0z hoc;obtain⟨f1,f2,f3,f4,f5,f6⟩:=h1.frm hs;obtain⟨l2,A⟩:=lC hoc;have a8:∀ p∈Sa.obs,p:=fun p hp=>ho p (a6z hs hoc h.dr p hp)
 obtain⟨a',hF,b8⟩:=h.gh;have V:y∈l:=by rw[A];simp
 have X:xU E ops (l1.reverse++D) y:=mQ (l2:=l2) (by rw[← A];exact h.plan) h.anc;have a9:(l.map (·.i)).Nodup:=uW h.plan h.anc;have b0:ea y.i=false:=by
  cases q:ea y.i with
  | false=>rfl
  | true=>rw[(h.li y.i).2 (.inr ⟨y,V,rfl,q⟩)] at hy;cases hy
 have I:∀ z∈l1,y.m.testBit z.i=true→ea z.i=true:=fun z hz hb=>by
  have b9:z∈l:=by rw[A];simp[hz]
  have a4:z.i≠y.i:=fun e=>a7b (X.pair z (by simp[hz])) e.symm
  have hd:b5m ops (fun i=>listed.getD i false=true∨i=y.i):=fun i f p T=>by
   rcases f with f|rfl
   ·exact .inl (h.dn i f p T)
   ·exact .inl (hp p T)
  rcases X.anc _ hd (.inr rfl) _ hb with q|q
  ·rcases (h.li z.i).1 q with⟨z',M,U⟩|⟨c,y1,y2,y3⟩
   ·exact absurd U.symm (pU h.plan h.anc b9 z' M)
   ·exact y3
  ·exact absurd q a4
 have Y:∀ c∈l,ea c.i=true→c∉l1→∀ t∈(dK ops y.i).looksAt ops,(dK ops c.i).dst≠some t:=fun c B o hn t ht=>by
  rw[A] at B;rcases aI.1 B with q|q
  ·exact absurd q hn
  ·rcases aG.1 q with rfl|q
   ·rw[b0] at o;cases o
   ·obtain⟨l3,l4,rfl⟩:=List.append_of_mem q;have a5:lB ops c y=true:=rG (by rw[← A];exact h.plan) h.anc;cases hb:c.m.testBit y.i with
    | false=>exact(uV a5 hb).2 t ht
    | true =>
     exfalso;have b1:xU E ops ((l1++y::l3).reverse++D) c:=mQ (l2:=l4) (by rw[bN,List.cons_append,← A];exact h.plan) h.anc;have:=b1.anc _ h.dn ((h.li c.i).2 (.inr ⟨c,by rw[A];simp,rfl,o⟩)) _ hb;rw[hy] at this;cases this
 have J:uU (qV G R) Sb.F a ((dK ops y.i).looksAt ops):=fun t ht=>by
  rcases c7y hs hoc t with⟨q1,q2⟩|⟨z,M,U,lz,Wz,Sz,vz,Sc,z3,z4⟩
  ·rw[q1,b8 t fun c B o=>?_]
   ·exact vS a0q (hF.sl t)
   ·by_cases hm:c∈l1
    ·exact q2 c hm
    ·exact Y c B o hm t ht
  ·have a5:=X.pair z (by simp[M]);cases hb:y.m.testBit z.i with
   | false=>exact absurd U ((uV a5 hb).1 t ht)
   | true =>
    rw[z4];exact(h.er _ _ _ _ _ _ z3 (I z M hb)).2.1 t U
 have b2:∀ b,rD Sb.F (dK ops y.i).op=some b→cK S.H b=cK Sb.H b:=fun b hb=>by
  have:=h1.dep hq;rw[hb] at this;simp only[c0b,aD,bB,Bool.or_eq_true,Bool.not_eq_true'] at this;refine(d5j hs hoc h.nxs (by simpa [Nat.blt_eq] using this.1) fun j hj ⟨z,M,U,z3⟩=>?_).symm;rcases this.2 j hj with q|q
  ·exfalso;rw[← U] at q;have c4:=I z M q;obtain⟨_,_,_,_,_,k⟩:=b5o h.dr (show z∈l by rw[A];simp[M]);have:=(h.er _ _ _ _ _ _ k c4).1;rw[z3] at this;cases this
  ·exact q
 have b3:y.i < listed.size:=by rw[h.ls];exact X.lt
 have b4:∀ i,(listed.setIfInBounds y.i true).getD i false=true↔(∃ z∈D,z.i=i)∨(∃ c∈l,c.i=i∧(Nat.beq i y.i||ea i)=true):=fun i=>by
  rw[b0w _ _ b3,h.li i];constructor
  ·rintro(rfl|⟨z,M,U⟩|⟨c,y1,y2,y3⟩)
   ·exact .inr ⟨y,V,rfl,by simp⟩
   ·exact .inl ⟨z,M,U⟩
   ·exact .inr ⟨c,y1,y2,by simp[y3]⟩
  ·rintro(⟨z,M,U⟩|⟨c,y1,y2,y3⟩)
   ·exact .inr (.inl ⟨z,M,U⟩)
   ·rcases Bool.or_eq_true _ _ |>.mp y3 with q|q
    ·exact .inl (aC q)
    ·exact .inr (.inr ⟨c,y1,y2,q⟩)
 have b5:b5m ops (fun i=>(listed.setIfInBounds y.i true).getD i false=true):=fun i f p T=>by
  dsimp only at f ⊢;rw[b0w _ _ b3] at f ⊢;refine .inr ?_;rcases f with rfl|f
  ·exact hp p T
  ·exact h.dn i f p T
 have b6:∀ u,∃ a',FR G N S.F a'∧∀ t,(∀ c∈l,(Nat.beq c.i y.i||ea c.i)=true→(dK ops c.i).dst≠some t)→(a.put (dK ops y.i).dst u).tmps.getD t undef=a'.tmps.getD t undef:=fun u =>
  ⟨a',hF,fun t ht=>by
   rw[mY,if_neg (fun q=>ht y V (by simp) q.1)];exact b8 t fun c B o=>ht c B (by simp[o])⟩
 have a3:∀ u d,(dK ops y.i).dst=some d→(a.put (dK ops y.i).dst u).tmps.getD d undef=u:=fun u d hd=>by
  have:=h1.pt;rw[hd] at this;rw[mY,if_pos ⟨hd,by rw[h.sz];exact a7a this⟩]
 have L:∀ u (c:PE),c∈l→c.i≠y.i→∀ d,(dK ops c.i).dst=some d→(a.put (dK ops y.i).dst u).tmps.getD d undef=a.tmps.getD d undef:=fun u c B a4 d hd=>by
  rw[mY,if_neg (fun q=>c7z h.plan h.anc B V a4 d hd q.1)]
 rcases hs.quiet _ _ _ _ h1.st hq (h1.nw hq) with⟨g1,g2,g3,g4,g5⟩|⟨e,cs,vf,g1,g2,g3⟩
 ·obtain⟨u,k1,k2⟩:=g5 a8 h.df J b2 (h.sat.toSat0.mono a0q);refine k2 (hK R _ _ ⟨h.dr,h.plan,h.anc,h.nxs,h.bw,h.sat,h.adv,b6 u,by rw[Act.put_df];exact h.df,by rw[Act.put_sz];exact h.sz,by simp[h.ls],b4,b5,fun i x f=>?_,h.ri,fun Z c a0 C v' Sc s o=>?_⟩)
  ·obtain⟨q1,Z,c,a0,C,v',Sc,q2,q3,q4⟩:=h.rk i x f;exact⟨q1,_,_,_,_,_,_,q2,by simp[q3],q4⟩
  ·by_cases e:c.i=y.i
   ·obtain⟨rfl,rfl,rfl,rfl⟩:=b0u hoc s a9 e.symm;exact⟨hq,fun d hd=>by rw[a3 u d hd];exact k1,.inl ⟨g2,g3⟩⟩
   ·obtain⟨l3,a7⟩:=lC s;obtain⟨c1,c2,c3⟩:=h.er _ _ _ _ _ _ s (by simpa [e] using o);exact⟨c1,fun d hd=>by rw[L u c (by rw[a7];simp) e d hd];exact c2 d hd,c3⟩
 ·obtain⟨us,k1,k2⟩:=g3 (w:=w) h.df J;have hH:Sa.H=(Sb.nx,.row e cs)::Sb.H:=by rw[g1]
  have hN:Sa.nx=Sb.nx+1:=by rw[g1]
  have c5:=a1w hs hoc;have b7:R Sb.nx=none:=by
   cases q:R Sb.nx with
   | none=>rfl
   | some x =>
    exfalso;obtain⟨_,Z,c,a0,C,v',Sc,q2,q3,q4,q5⟩:=h.rk _ _ q;have:=b0v hs hoc q2 q4.symm (by omega) q5;subst this;rw[b0] at q3;cases q3
  have a6:lK (qV G R) (qV G (fun j=>if j=Sb.nx then some ⟨w.heap.size,0,0,0,undef⟩ else R j)):=fun i x f=>by
   unfold qV at f ⊢;cases hg:G i with
   | some y=>rw[hg] at f;exact f
   | none =>
    rw[hg] at f;dsimp only at f ⊢;rw[if_neg (fun e=>by rw[e,b7] at f;cases f)];exact f
  obtain⟨a1,a2⟩:=h.sat.alloc (.cells us.toArray e);refine k2 (hK (fun j=>if j=Sb.nx then some ⟨w.heap.size,0,0,0,undef⟩ else R j) _ _ ⟨h.dr,h.plan,h.anc,h.nxs,h.bw,a1,h.adv.trans a2,b6 _,by rw[Act.put_df];exact h.df,by rw[Act.put_sz];exact h.sz,by simp[h.ls],b4,b5,fun i x f=>?_,fun i j x z f hj he=>?_,fun Z c a0 C v' Sc s o=>?_⟩)
  ·skip
   by_cases e:i=Sb.nx
   ·rw[if_pos e] at f;cases f;exact⟨⟨fun q=>absurd (h.sat.olt _ q) (by simp),h.adv.u.size,by simp⟩,_,_,_,_,_,_,hoc,by simp,e.symm,by omega⟩
   ·rw[if_neg e] at f;obtain⟨⟨q1,q2,q3⟩,Z,c,a0,C,v',Sc,q4,q5,q6⟩:=h.rk i x f;exact⟨⟨q1,q2,aX q3 a2.u.size⟩,_,_,_,_,_,_,q4,by simp[q5],q6⟩
  ·skip
   by_cases e1:i=Sb.nx<;>by_cases e2:j=Sb.nx
   ·omega
   ·exfalso;rw[if_pos e1] at f;rw[if_neg e2] at hj;cases f;have:=(h.rk j z hj).1.2.2;dsimp only at he;omega
   ·exfalso;rw[if_neg e1] at f;rw[if_pos e2] at hj;cases hj;have:=(h.rk i x f).1.2.2;dsimp only at he;omega
   ·rw[if_neg e1] at f;rw[if_neg e2] at hj;exact h.ri i j x z f hj he
  ·by_cases e':c.i=y.i
   ·obtain⟨rfl,rfl,rfl,rfl⟩:=b0u hoc s a9 e'.symm;refine⟨hq,fun d hd=>?_,.inr ⟨e,cs,us,w.heap.size,hH,hN,by simp,cT a6 k1,heap_alloc_new w _⟩⟩;rw[a3 _ d hd,g2];unfold qV;simp[h.sat.fresh _ c5]
   ·obtain⟨l3,a7⟩:=lC s;obtain⟨c1,c2,c3⟩:=h.er _ _ _ _ _ _ s (by simpa [e'] using o);refine⟨c1,fun d hd=>by rw[L _ c (by rw[a7];simp) e' d hd];exact vS a6 (c2 d hd),c3.imp id ?_⟩;rintro⟨e2,c6,c7,g,d1,d2,d3,d4,d5⟩;obtain⟨⟨m1,m2,m3⟩,_⟩:=h.rk _ _ d3;refine⟨e2,c6,c7,g,d1,d2,?_,cT a6 d4,(a2.u.block _ m3 m1).trans d5⟩;show (if C.nx=Sb.nx then _ else R C.nx)=_;rw[if_neg (fun e=>by rw[e,b7] at d3;cases d3)];exact d3
end
end Go.Eng
namespace Go.Eng
variable [fP]
open Go.RowKit
theorem a5d {α} (p q:α→Bool) (h:∀ z,q z=true→p z=true):∀ l:List α,(l.filter q).length≤(l.filter p).length
 | []=>aF _
 | z::l=>by
  have:=a5d p q h l;simp only[List.filter_cons];split
  ·rename_i a;rw[if_pos (h z a)];simp;exact this
  ·split
   ·simp;omega
   ·exact this
theorem a5e {α} (p q:α→Bool) (h:∀ z,q z=true→p z=true) (y:α) (hp:p y=true) (hq:q y=false):∀ l:List α,y∈l→(l.filter q).length < (l.filter p).length
 | z::l,hy=>by
  have h0:=a5d p q h l;simp only[List.filter_cons];rcases aG.1 hy with rfl|hy
  ·rw[hp,hq];simp;omega
  ·have:=a5e p q h y hp hq l hy;split
   ·rename_i a;rw[if_pos (h z a)];simp;exact this
   ·split
    ·simp;omega
    ·exact this
section
variable {P : Program} {E : iU} {step : Stp} {N nx0 : Nat} {ops : Array Oper} {w0 : World} {G0 : GM} {O0 : Nat → Prop} {r : Ws × St}
theorem b5p (hs:oN P E step N ops) (ho:∀ p∈r.2.obs,p) {ea:Nat→Bool} {listed:Array Bool} {a:Act} {w:World}:∀ {l D:List PE} {W:Ws} {S:St} {R:GM} {G:GM} {O:Nat→Prop},
  Inv E step N nx0 ops w0 G0 O0 r l W S D ea R listed a w G O→(∀ i,i < ops.size→∃ z∈D++l,z.i=i) →
  ∃ l' D' W' S' R' G' O',Inv E step N nx0 ops w0 G0 O0 r l' W' S' D' ea R' listed a w G' O'∧(∀ i,i < ops.size→∃ z∈D'++l',z.i=i)∧(l'.filter fun z => !ea z.i).length≤(l.filter fun z => !ea z.i).length∧(l'=[]∨∃ x l2,l'=x::l2∧ea x.i=false)
 | [],D,W,S,R,G,O,h,ha=>⟨_,_,_,_,_,_,_,h,ha,aF _,.inl rfl⟩
 | x::l,D,W,S,R,G,O,h,ha=>by
  cases he:ea x.i with
  | false=>exact⟨_,_,_,_,_,_,_,h,ha,aF _,.inr ⟨x,l,rfl,he⟩⟩
  | true =>
   obtain⟨W1,S1,G1,O1,R1,h1⟩:=d5k hs ho h he;obtain⟨l',D',W',S',R',G',O',c,d,f,g⟩:=b5p hs ho h1 (fun i m=>by
    obtain⟨z,b,j⟩:=ha i m;refine⟨z,?_,j⟩;simp only[aI,aG] at b ⊢;rcases b with b|b|b
    ·exact .inl (.inr b)
    ·exact .inl (.inl b)
    ·exact .inr b)
   refine⟨l',D',W',S',R',G',O',c,d,?_,g⟩;simp only[List.filter_cons,he];exact f
theorem sN {listed:Array Bool} (hl:listed.size=ops.size) (i:Nat):i∈Region.ready .any ops listed↔i < ops.size∧listed.getD i false=false∧∀ p∈vY (dK ops i),listed.getD p false=true:=by
 unfold Region.ready;rw[List.mem_filter,List.mem_range];by_cases h:i < ops.size
 ·have a:ops[i]?=some ops[i]:=by simp[h]
  have b:dK ops i=ops[i]:=by simp[dK,h]
  have c:listed.getD i true=listed.getD i false:=by simp[hl,h]
  rw[a,b,c];simp only[aD,Bool.not_eq_true',Option.map_some,Option.getD_some,h,true_and];refine and_congr Iff.rfl ?_;rw[Array.all_eq_true'];unfold vY;constructor
  ·intro q p d;obtain⟨e,f,rfl⟩:=List.mem_map.1 d;obtain⟨g,j⟩:=List.mem_filter.1 f;have:=q e (by simpa using g);rw[j] at this;simpa using this
  ·intro q e he;cases l:Region.binds .any e with
   | false=>rfl
   | true =>
    rw[q e.on (List.mem_map.2 ⟨e,List.mem_filter.2 ⟨by simpa using he,l⟩,rfl⟩)];rfl
 ·simp[h]
theorem d5l {Q:Exit→Act→World→Prop} {K:Act→World→Prop} {i:Nat} {a:Act} {w:World} (hi:i < ops.size) (h:fK P ops (dK ops i) a w K Q):wpOp P ops Q i K a w:=by
 unfold wpOp;have c:ops[i]?=some (dK ops i):=by simp[dK,hi]
 rw[c];dsimp only;unfold fK at h;split
 ·rename_i b;rw[if_pos b] at h;exact .inl h
 ·rename_i b;rw[if_neg b] at h;exact h
theorem c8a (hs:oN P E step N ops) (hsel:∀ i,i < ops.size→∀ cs b,(dK ops i).op ≠ .select cs b) (ho:∀ p∈r.2.obs,p) {Q:Exit→Act→World→Prop}
  (hQ:∀ a w G O,FR G N r.2.F a→gP w G O r.2.H r.2.nx→oZ w0 G0 O0 w G O→Q .normal a w) :
  ∀ (k:Nat) {l D:List PE} {W:Ws} {S:St} {ea:Nat→Bool} {R:GM} {listed:Array Bool} {a:Act} {w:World} {G:GM} {O:Nat→Prop},Inv E step N nx0 ops w0 G0 O0 r l W S D ea R listed a w G O→(∀ i,i < ops.size→∃ z∈D++l,z.i=i) →
   (l.filter fun z => !ea z.i).length≤k→wpAny P .any ops Q k listed a w:=by
 intro k
 induction k with
 | zero =>
  intro l D W S ea R listed a w G O h T hk;obtain⟨l',D',W',S',R',U,V,c,u,I,X⟩:=b5p hs ho h T;rcases X with rfl|⟨x,l2,rfl,he⟩
  ·have B:Region.ready .any ops listed=[]:=by
    refine List.eq_nil_iff_forall_not_mem.2 fun i f=>?_
    obtain⟨A,g,_⟩:=(sN c.ls i).1 f;obtain⟨z,d,j⟩:=u i A;rw[(c.li i).2 (.inl ⟨z,by simpa using d,j⟩)] at g;cases g
   have e:=c.dr;cases e;obtain⟨a',Y,s⟩:=c.gh;exact⟨B,hQ a w U V ⟨c.df,c.sz,fun t=>by rw[s t (fun y Z=>by cases Z)];exact Y.sl t⟩ c.sat c.adv⟩
  ·simp only[List.filter_cons,he] at I;simp at I;omega
 | succ k ih =>
  intro l D W S ea R listed a w G O h T hk;obtain⟨l',D',W',S',R',U,V,c,u,I,X⟩:=b5p hs ho h T;rcases X with rfl|⟨x,l2,rfl,he⟩
  ·have B:Region.ready .any ops listed=[]:=by
    refine List.eq_nil_iff_forall_not_mem.2 fun i f=>?_
    obtain⟨A,g,_⟩:=(sN c.ls i).1 f;obtain⟨z,d,j⟩:=u i A;rw[(c.li i).2 (.inl ⟨z,by simpa using d,j⟩)] at g;cases g
   have e:=c.dr;cases e;obtain⟨a',Y,s⟩:=c.gh;refine⟨fun _=>hQ a w U V ⟨c.df,c.sz,fun t=>by rw[s t (fun y Z=>by cases Z)];exact Y.sl t⟩ c.sat c.adv,fun i f=>?_⟩;rw[B] at f;cases f
  ·refine⟨fun B=>?_,fun i f=>?_⟩
   ·exfalso;have p1:=(iP c.plan c.anc).1;have:x.i∈Region.ready .any ops listed:=by
     refine(sN c.ls _).2 ⟨p1.lt,?_,fun p hp=>?_⟩
     ·cases q:listed.getD x.i false with
      | false=>rfl
      | true =>
       exfalso;rcases (c.li x.i).1 q with⟨z,d,j⟩|⟨y,y1,y2,y3⟩
       ·exact pU c.plan c.anc (aR ..) z d j.symm
       ·rw[he] at y3;cases y3
     ·obtain⟨z,d,j⟩:=p1.pre p hp;exact(c.li p).2 (.inl ⟨z,d,j⟩)
    rw[B] at this;cases this
   ·obtain⟨A,g,q3⟩:=(sN c.ls i).1 f;obtain⟨y,y1,y2⟩:=u i A;subst y2;have o:y∈x::l2:=by
     rcases aI.1 y1 with q|q
     ·rw[(c.li y.i).2 (.inl ⟨y,q,rfl⟩)] at g;cases g
     ·exact q
    have K:ea y.i=false:=by
     cases q:ea y.i with
     | false=>rfl
     | true=>rw[(c.li y.i).2 (.inr ⟨y,o,rfl,q⟩)] at g;cases g
    refine d5l A ?_;obtain⟨l1,Wb,Sb,v,Sa,m⟩:=b5o c.dr o;cases hq:dC E (dK ops y.i).op
    ·
     have L:y.i=x.i:=by
      cases m with
      | here _=>rfl
      | @there _ _ _ _ _ _ _ _ l1 _ _ _ _ _ hd m =>
       exfalso;obtain⟨l3,rfl⟩:=lC m;have C:xU E ops ((x::l1).reverse++D') y:=mQ (l1:=x::l1) c.plan c.anc;have hb:=C.loud hq x (by simp);have M:b5m ops (fun i=>listed.getD i false=true∨i=y.i):=fun i f p J=>by
        rcases f with f|rfl
        ·exact .inl (c.dn i f p J)
        ·exact .inl (q3 p J)
       rcases C.anc _ M (.inr rfl) _ hb with q|q
       ·rcases (c.li x.i).1 q with⟨z,d,j⟩|⟨y',g1,g2,g3⟩
        ·exact pU c.plan c.anc (aR ..) z d j.symm
        ·rw[he] at g3;cases g3
       ·have:=uW c.plan c.anc;rw[List.map_cons,List.nodup_cons] at this;exact this.1 (List.mem_map.2 ⟨y,by simp,q.symm⟩)
     rw[L];refine e5q hs hsel ho c he fun W1 S1 b w' G1 O1 h1=>ih h1 (fun i f=>?_) ?_
     ·obtain⟨z,d,j⟩:=u i f;refine⟨z,?_,j⟩;simp only[aI,aG] at d ⊢;rcases d with d|d|d
      ·exact .inl (.inr d)
      ·exact .inl (.inl d)
      ·exact .inr d
     ·simp only[List.filter_cons,he] at I;simp at I;omega
    ·refine e1a hs ho c m g hq q3 fun R1 b w' h1=>ih h1 u ?_
     have:=a5e (fun z:PE => !ea z.i) (fun z:PE => !(Nat.beq z.i y.i||ea z.i)) (fun z hz=>by simp at hz ⊢;exact hz.2) y (by simp[K]) (by simp) _ o;omega
theorem b0x (hs:oN P E step N ops):∀ {l:List PE} {W:Ws} {S:St} {r:Ws×St},pB E step N ops nx0 l W S=some r→Frm S r.2
 | [],W,S,r,h=>by cases h;exact Frm.refl _
 | x::l,W,S,r,h=>by
  obtain⟨v,Sa,W1,S1,h1,h2⟩:=mX h;obtain⟨_,a,b,c,d,_⟩:=h1.frm hs;have:Frm Sa S1:=⟨⟨[],b⟩,Nat.le_of_eq c.symm,fun p f=>by rw[d];exact f⟩
  exact a.trans (this.trans (b0x hs h2))
theorem d5m (hs:oN P E step N ops) (hsel:∀ i,i < ops.size→∀ cs b,(dK ops i).op ≠ .select cs b) (hm:P.follows .mixedOrders=true) {id:Nat} {S:St} {pl:List PE} (hp:gZ E ops pl []=true) (hd:pB E step N ops S.nx pl [] S=some r) (ho:∀ p∈r.2.obs,p)
  {a:Act} {w:World} {G:GM} {O:Nat→Prop} (hF:FR G N S.F a) (hS:gP w G O S.H S.nx) {Q:Exit→Act→World→Prop}
  (hQ:∀ a' w' G' O',FR G' N r.2.F a'→gP w' G' O' r.2.H r.2.nx→oZ w G O w' G' O'→Q .normal a' w'):(Code.region id ops true).wp P Q a w:=by
 refine wp_region_any hm (c8a hs hsel ho (w0:={ w with drawn:=w.drawn+1 }) (G0:=G) (O0:=O) (fun a' w' G' O' m o s=>hQ a' w' G' O' m o (oZ.drew.trans s)) ops.size (l:=pl) (D:=[]) (W:=[]) (S:=S) (ea:=fun _=>false) (R:=fun _=>none) (G:=G) (O:=O)
  ⟨hd,hp,fun y f=>(by cases f),aF _,hS.bw,hS.drew,oZ.refl _ _ _,⟨a,hF,fun _ _=>rfl⟩,hF.df,hF.sz,by simp,fun i=>?_,fun i c=>?_,fun i x c=>(by cases c),fun i j x y c=>(by cases c),fun _ _ _ _ _ _ _ he=>(by cases he)⟩ (fun i c=>?_) ?_)
 ·constructor
  ·intro h;rw[Array.getD_eq_getD_getElem?] at h;by_cases q:i < ops.size
   ·simp[q] at h
   ·simp[q] at h
  ·rintro(⟨z,d,_⟩|⟨y,_,_,y3⟩)
   ·cases d
   ·cases y3
 ·exfalso
  replace c:(Array.replicate ops.size false).getD i false=true:=c
  rw[Array.getD_eq_getD_getElem?] at c;by_cases q:i < ops.size
  ·simp[q] at c
  ·simp[q] at c
 ·obtain⟨z,d,g⟩:=a1u hp (fun y f=>(by cases f)) List.nodup_nil (fun z t=>(by cases t)) i c;exact⟨z,d,g⟩
 ·have:=b0t hp;simp only[List.length_nil,aM] at this;exact aL (List.length_filter_le _ pl) (Nat.le_of_eq this)
end
end Go.Eng
namespace Go.Eng
variable [fP]
open Go.RowKit
def toE:Ex→Exit
 | .normal => .normal
 | .exit k => .exit k
 | .ret => .ret
variable {P : Program}
def d5n (P:Program) (N:Nat) (c:Code) (S:St) (ex:Ex) (S':St):Prop :=
 Frm S S'∧((∀ p∈S'.obs,p)→∀ {w:World} {G:GM} {O:Nat→Prop} {a:Act},FR G N S.F a→gP w G O S.H S.nx→∀ {Q:Exit→Act→World→Prop},
  (∀ a' w' G' O',FR G' N S'.F a'→gP w' G' O' S'.H S'.nx→oZ w G O w' G' O'→Q (toE ex) a' w')→c.wp P Q a w)
def c8b (P:Program) (N:Nat) (c:Code) (S:St) (ex:Ex) (S':St):Prop :=
 Frm S S'∧∃ k,((∀ p∈S'.obs,p)→∀ {w:World} {G:GM} {O:Nat→Prop} {a:Act},FR G N S.F a→gP w G O S.H S.nx→∀ {Q:Exit→Act→World→Prop},
  (∀ a' w' G' O',FR G' N S'.F a'→gP w' G' O' S'.H S'.nx→oZ w G O w' G' O'→Q (toE ex) a' w')→Code.rounds P c Q k a w)
theorem a5f {N:Nat} {ops:Array Oper} {step:Stp} (hs:∀ o S v S',step o S=some (v,S')→lQ P N ops o S S' v):∀ {l:List Oper} {S S':St},a6x step N l S=some S' →
  Frm S S'∧((∀ p∈S'.obs,p)→∀ {w:World} {G:GM} {O:Nat→Prop} {a:Act},FR G N S.F a→gP w G O S.H S.nx→∀ {Q:Exit→Act→World→Prop},
  (∀ a' w' G' O',FR G' N S'.F a'→gP w' G' O' S'.H S'.nx→oZ w G O w' G' O'→Q .normal a' w')→wpList P ops Q l a w)
 | [],S,S',h=>by
  cases h;exact⟨Frm.refl _,fun _ w G O a hF hS Q hQ=>hQ a w G O hF hS (oZ.refl _ _ _)⟩
 | o::l,S,S',h=>by
  simp only[a6x] at h;obtain⟨⟨v,Sa⟩,h1,h2⟩:=aA.1 h;obtain⟨F,c,m⟩:=aA.1 h2;obtain⟨r,s,t⟩:=hs _ _ _ _ h1;obtain⟨f,x⟩:=a5f hs m;have b:Frm Sa { Sa with F:=F }:=⟨⟨[],rfl⟩,aF _,fun _ h=>h⟩
  refine⟨s.trans (b.trans f),fun i w G O a hF hS Q hQ=>?_⟩;have:=t (fun p y=>i p (f.2.2 p y)) hF hS (K:=wpList P ops Q l) (Q:=Q) fun u w' G' O' z A j=>x i (a:=a.put o.dst u) (by
   dsimp only at c;rw[r] at c;exact(hF.mono j.g).put c z) A fun B C D E I J L=>hQ B C D E I J (j.trans L)
  unfold fK at this;unfold wpList;split
  ·rename_i d;rw[if_pos d] at this;exact .inl this
  ·rename_i d;rw[if_neg d] at this;exact this
theorem b0y {E:iU} {n:Nat} {ops:Array Oper} {o:Oper} {S:St} {r:AV×St} (h:a5a E (n+1) ops o S=some r) :
  (gG S.F ops o.guard=some false∧r=(.tup [],S))∨(gG S.F ops o.guard=some true∧((∃ c b,o.op = .call c∧c.callee = .builtin b∧zJ E b c.argTypes.toList (evl S.F c.args.toList) S=some r) ∨
   (∃ c f fid,o.op = .call c∧c.callee = .value f∧ev S.F f = .fn fid∧call E n fid (evl S.F c.args.toList) S=some r)∨((∀ cs b,o.op ≠ .select cs b)∧qU E o.op S=some r)∨(∃ s d x i,o.op = .convert s d x∧a6y (ev S.F x)=some i∧dC E (.convert s d x)=false∧E.cv s d i S=some r) ∨
   (∃ c f fid i off,o.op = .call c∧c.callee = .value f∧ev S.F f = .clo fid i off∧call E n fid (evl S.F c.args.toList++[.ptr i off]) S=some r))):=by
 simp only[a5a] at h;split at h
 ·cases h
 ·rename_i l;cases h;exact .inl ⟨l,rfl⟩
 ·rename_i l;refine .inr ⟨l,?_⟩;split at h
  ·rename_i c a;split at h
   ·rename_i b j;exact .inl ⟨c,b,a,j,h⟩
   ·rename_i f j;split at h
    ·rename_i fid m;exact .inr (.inl ⟨c,f,fid,a,j,m,h⟩)
    ·rename_i fid i off m;exact .inr (.inr (.inr (.inr ⟨c,f,fid,i,off,a,j,m,h⟩)))
    ·cases h
   ·cases h
  ·rename_i s d x a;split at h
   ·rename_i i p;cases g:dC E (.convert s d x)<;>rw[g] at h
    ·exact .inr (.inr (.inr (.inl ⟨s,d,x,i,a,by rw[p];rfl,g,h⟩)))
    ·cases h
   ·rename_i i e p;cases g:dC E (.convert s d x)<;>rw[g] at h
    ·exact .inr (.inr (.inr (.inl ⟨s,d,x,i,a,by rw[p];rfl,g,h⟩)))
    ·cases h
   ·exact .inr (.inr (.inl ⟨fun cs b e=>(by rw[a] at e;cases e),by rw[a];exact h⟩))
  ·refine .inr (.inr (.inl ⟨fun cs b e=>?_,h⟩));rw[e] at h;cases h
theorem a7c {G:GM}:∀ {l:List AV} {us:List Value},uS G l us→us.length=l.length
 | [],[],_=>rfl
 | _::_,_::_,h=>by simp[a7c h.2]
theorem a5g {G:GM}:∀ {l:List AV} {us:List Value} (k:Nat),uS G l us→∀ t,dv G (mJ (b0k k l) t)=some (if k≤t then us.toArray.getD (t-k) undef else undef)
 | [],[],k,_,t=>by
  show dv G (.tup [])=_;simp[dv,uQ,undef]
 | v::l,u::us,k,h,t=>by
  rw[b0k,sK];by_cases e:t=k
  ·subst e;simp[h.1]
  ·rw[if_neg e,a5g (k+1) h.2];by_cases q:k≤t
   ·rw[if_pos (by omega),if_pos q];obtain⟨j,hj⟩:∃ j,t-k=j+1:=⟨t-k-1,by omega⟩
    have:t-(k+1)=j:=by omega
    rw[hj,this];simp
   ·rw[if_neg (by omega),if_neg q]
theorem FR.start {G:GM} {args:List AV} {us:List Value} (h:uS G args us) (n:Nat):FR G (args.length+(n-args.length)) (b0k 0 args) { tmps:=us.toArray++Array.replicate (n-us.toArray.size) undef,defers:=[] }:=by
 have a:=a7c h;refine⟨rfl,by simp[a],fun t=>?_⟩;rw[a5g 0 h];simp only[aS,if_true,Nat.sub_zero];congr 1;rw[Array.getD_eq_getD_getElem?,Array.getD_eq_getD_getElem?];by_cases q:t < us.length
 ·rw[Array.getElem?_append_left (by simpa using q)]
 ·rw[Array.getElem?_append_right (by simpa using q),Array.getElem?_eq_none (by simpa using q),Array.getElem?_replicate];split<;>rfl
def d5o (tmps:Array Value):ResultVar→Sem Value
 | .tmp t=>pure (tmps.getD t undef)
 | .cell a t=>do loadVar t (← asAddr (tmps.getD a undef))
theorem a7d {E:iU} (hE:sL P E) {w:World} {G:GM} {O:Nat→Prop} {H:Hp} {N:Nat} {F:Fr} {a:Act} (hS:Sat0 w G O H) (hF:FR G N F a):∀ {l:List ResultVar} {vs:List AV},b0m E F H l=some vs→∃ us,uS G vs us∧(l.mapM (d5o a.tmps)).run P w = .ok us w
 | [],vs,h=>by cases h;exact⟨[],trivial,rfl⟩
 | .tmp t::l,vs,h=>by
  simp only[b0m] at h;obtain⟨ws,h1,rfl⟩:=aB.1 h;obtain⟨us,c,d⟩:=a7d hE hS hF h1;refine⟨_::us,⟨hF.sl t,c⟩,?_⟩;rw[List.mapM_cons];simp only[d5o,Sem.run_bind,Sem.run_pure,Result.andThen_ok,d]
 | .cell x ty::l,vs,h=>by
  simp only[b0m] at h;split at h
  ·rename_i i j m;obtain⟨A,h1,o⟩:=aA.1 h;obtain⟨v,p,r⟩:=aA.1 o;obtain⟨ws,s,rfl⟩:=aB.1 r;obtain⟨us,c,d⟩:=a7d hE hS hF s;have b:=hF.sl x;rw[m] at b;obtain⟨g,y,b⟩:=aB.1 (show Option.map _ (G i)=_ from b);obtain⟨u,f,z⟩:=b9v (hE.tt _ _ h1) hS p y;refine⟨u::us,⟨z,c⟩,?_⟩;rw[List.mapM_cons];simp only[Instr.loadAt,Instr.sureAddr,Sem.run_bind,Sem.run_pure,Result.andThen_ok] at f;simp only[d5o,← b,asAddr,Sem.run_bind,Sem.run_pure,Result.andThen_ok,f,d]
  ·cases h
theorem c8c {G:GM}:∀ {vs:List AV} {us:List Value},vs.all d9p=true→uS G vs us→uQ G vs=some us
 | [],[],_,_=>rfl
 | v::vs,u::us,h,k=>by
  rw[List.all_cons,aD] at h;have:d2 G v=some u:=by
   rw[← pO (fun cs e=>by rw[e] at h;cases h.1)];exact k.1
  simp only[uQ,this,c8c h.2 k.2];rfl
theorem c8d {G:GM} {vs:List AV} {v:AV} {us:List Value} (h:b0n vs=some v) (k:uS G vs us):dv G v=some (if h:us.toArray.size=1 then us.toArray[0] else .tuple us.toArray):=by
 have a:=a7c k;unfold b0n at h;split at h
 ·rcases us with _|⟨u,_|⟨i,us⟩⟩
  ·simp at a
  ·cases h;simp;exact k.1
  ·simp at a
 ·rename_i c;obtain⟨d,f⟩:=bU h;cases f;have:us.toArray.size≠1:=fun e=>by
   have g:us.length=1:=by simpa using e
   rcases vs with _|⟨v,_|⟨j,vs⟩⟩
   ·have b:us.length=0:=a;omega
   ·exact c v rfl
   ·have b:us.length=vs.length+1+1:=a;omega
  rw[dif_neg this];show (uQ G vs).map _=_;rw[c8c d k];rfl
theorem b5q {E:iU} (hE:sL P E) {w:World} {G:GM} {O:Nat→Prop} {H:Hp} {N:Nat} {F:Fr} {a:Act} (hS:Sat0 w G O H) (hF:FR G N F a) {fn:Func} {vs:List AV} {v:AV} (h:b0m E F H fn.results.toList=some vs) (hv:b0n vs=some v):∃ u,(results fn a.tmps).run P w = .ok u w∧dv G v=some u:=by
 obtain⟨d,b,c⟩:=a7d hE hS hF h;refine⟨_,?_,c8d hv b⟩
 have e:results fn a.tmps=(do
   let vs ← fn.results.mapM (d5o a.tmps)
   pure (if h:vs.size=1 then vs[0] else .tuple vs)):=by
  unfold results;congr 1
 rw[e,Array.mapM_eq_mapM_toList];simp only[Sem.run_bind,Sem.run_map,c,Result.andThen_ok,Sem.run_pure]
end Go.Eng
namespace Go.Eng
variable [fP]
open Go.RowKit
variable {P : Program}
def c8e (P:Program) (E:iU) (n:Nat):Prop:=∀ ops o S v S',a5a E n ops o S=some (v,S') →
 (∀ N,lQ P N ops o S S' v)∧(dC E o.op=true→(a1i o.op=true∨S'.nx=S.nx)→b0p P ops o S S' v∨e0y P ops o S S' v)
def c8f (P:Program) (E:iU) (n:Nat):Prop:=∀ f args S v S',call E n f args S=some (v,S')→iC P f args S S' v
def c8g (P:Program) (E:iU) (n:Nat):Prop:=∀ N c S ex S',run E n N c S=some (ex,S')→d5n P N c S ex S'
def c0e (P:Program) (E:iU) (n:Nat):Prop:=∀ N c S ex S',run E n N (.loop c) S=some (ex,S')→c8b P N c S ex S'
theorem a1y {E:iU} {n:Nat} {f:FuncId} {args:List AV} {S:St} {r:AV×St} (h:call E n f args S=some r):∃ fn,E.body f=some fn∧fn.body.isSome=true:=by
 cases n with
 | zero=>cases h
 | succ n =>
  simp only[call] at h;obtain⟨fn,a,b⟩:=aA.1 h;obtain⟨c,d,_⟩:=aA.1 b;exact⟨fn,a,by rw[d];rfl⟩
theorem c3t {E:iU} (hE:sL P E) {n:Nat} (hc:c8f P E n):c8e P E (n+1):=by
 intro w o S v B h;rcases b0y h with⟨l,e⟩|⟨l,⟨c,b,g,j,m⟩|⟨c,f,u,g,j,m,p⟩|⟨g,j⟩|⟨s,d,x,i,g,j,m,p⟩|⟨c,f,u,i,z,g,j,m,p⟩⟩
 ·cases e;exact⟨fun N=>c3n l,fun _ _ => .inl (b5n l)⟩
 ·exact⟨fun N=>c7u g j l (b0j hE.tt hE.bd m),fun a _ => .inl (c3q hE g j a l m)⟩
 ·obtain⟨y,r,t⟩:=a1y p;refine⟨fun N=>c3m hE g j m r t l (hc _ _ _ _ _ p),fun a=>?_⟩;rw[g] at a;simp only[dC,j] at a;cases a
 ·exact⟨fun N=>c0c l (xR hE.tt hE.bd j),fun a A=>c7x hE g j l a A⟩
 ·refine⟨fun N=>c0c l (by rw[g];exact hE.cv _ _ _ _ _ _ p x j m),fun a=>?_⟩;rw[g,m] at a;cases a
 ·obtain⟨y,r,t⟩:=a1y p;refine⟨fun N=>c7v hE g j m r t l (hc _ _ _ _ _ p),fun a=>?_⟩;rw[g] at a;simp only[dC,j] at a;cases a
theorem c3u {E:iU} (hE:sL P E) {n:Nat} (hr:c8g P E n):c8f P E (n+1):=by
 intro f y S v D h;simp only[call] at h;obtain⟨d,I,J⟩:=aA.1 h;obtain⟨c,K,m⟩:=aA.1 J;split at m
 ·rename_i r o;cases m;exact hE.hk _ _ _ _ _ o
 obtain⟨⟨g,a⟩,L,p⟩:=aA.1 m;have l:g ≠ .exit (match g with | .exit k=>k|_=>0)∧((b0m E a.F a.H d.results.toList).bind fun z=>(b0n z).map fun v=>(v,{ a with F:=S.F }))=some (v,D):=by
  cases g with
  | normal=>exact⟨by simp,p⟩
  | ret=>exact⟨by simp,p⟩
  | exit k=>cases p
 obtain⟨s,M⟩:=l;obtain⟨z,N,Q⟩:=aA.1 M;obtain⟨v',t,e⟩:=aB.1 Q;cases e;obtain⟨x,R⟩:=hr _ _ _ _ _ L;refine⟨rfl,⟨x.1,x.2.1,x.2.2⟩,fun W w G O us X Y=>?_⟩;obtain⟨T,e2⟩:=hE.body f d I;refine calls_of_wp T K (R W (FR.start X d.ntmps) Y fun A i b j B C Z=>?_);have key:A.defers=[]∧∃ u,(results d A.tmps).run P i = .ok u i∧(∃ u_1 b j,Ending.returned u = .returned u_1∧dv b v=some u_1∧gP i b j a.H a.nx∧oZ w G O i b j):=by
  obtain⟨u,U,V⟩:=b5q hE C.toSat0 B N t;exact⟨B.df,u,U,u,b,j,rfl,V,C,Z⟩
 cases g with
 | normal=>exact key
 | ret=>exact key
 | exit k=>exact absurd rfl s
theorem c3v {E:iU} {n:Nat} (hr:c8g P E n) (hl:c0e P E n):c0e P E (n+1):=by
 intro N c S R T h;simp only[run] at h;obtain⟨⟨z,U⟩,A,u⟩:=aA.1 h;obtain⟨v,x⟩:=hr _ _ _ _ _ A;cases z with
 | normal =>
  obtain⟨y,k,B⟩:=hl _ _ _ _ _ u;refine⟨v.trans y,k+1,fun b w G O a d f Q g=>?_⟩;exact x (fun p C=>b p (y.2.2 p C)) d f fun o r s t i l m=>B b i l fun D F I J K L M=>g D F I J K L (m.trans M)
 | exit j =>
  cases u;exact⟨v,1,fun b w G O a d f Q g=>x b d f fun o r s t i l m=>g o r s t i l m⟩
 | ret =>
  cases u;exact⟨v,1,fun b w G O a d f Q g=>x b d f fun o r s t i l m=>g o r s t i l m⟩
theorem c8h {E:iU} (hE:sL P E) {n:Nat} (hr:c8g P E n) (hs:c8e P E n) (hl:c0e P E (n+1)):c8g P E (n+1):=by
 intro N c S ex T h;cases c with
 | skip =>
  simp only[run] at h;cases h;exact⟨Frm.refl _,fun m w G O a f l Q g=>wp_skip (g a w G O f l (oZ.refl _ _ _))⟩
 | exit id =>
  simp only[run] at h;cases h;exact⟨Frm.refl _,fun m w G O a f l Q g=>wp_exit (g a w G O f l (oZ.refl _ _ _))⟩
 | ret =>
  simp only[run] at h;cases h;exact⟨Frm.refl _,fun m w G O a f l Q g=>wp_ret (g a w G O f l (oZ.refl _ _ _))⟩
 | seq x y =>
  simp only[run] at h;obtain⟨⟨U,Z⟩,M,r⟩:=aA.1 h;obtain⟨u,z⟩:=hr _ _ _ _ _ M;cases U with
  | normal =>
   obtain⟨k1,k2⟩:=hr _ _ _ _ _ r;refine⟨u.trans k1,fun m w G O a f l Q g=>wp_seq ?_⟩;exact z (fun p hp=>m p (k1.2.2 p hp)) f l fun A B K L D I J=>k2 m D I fun a2 w2 G2 O2 r1 r2 r3=>g a2 w2 G2 O2 r1 r2 (J.trans r3)
  | exit j =>
   cases r;exact⟨u,fun m w G O a f l Q g=>wp_seq (z m f l fun A B K L D I J=>g A B K L D I J)⟩
  | ret =>
   cases r;exact⟨u,fun m w G O a f l Q g=>wp_seq (z m f l fun A B K L D I J=>g A B K L D I J)⟩
 | cond cc x y =>
  simp only[run] at h;cases C:ev S.F cc with
  | bool t =>
   rw[C] at h;have Y:∀ {G:GM} {a:Act},FR G N S.F a→a.eval cc = .bool t:=fun f=>by
    have:=f.ev cc;rw[C] at this;exact(aK this).symm
   cases t with
   | true =>
    obtain⟨u,z⟩:=hr _ _ _ _ _ h;exact⟨u,fun m w G O a f l Q g=>wp_cond_true (Y f) (z m f l g)⟩
   | false =>
    obtain⟨u,z⟩:=hr _ _ _ _ _ h;exact⟨u,fun m w G O a f l Q g=>wp_cond_false (Y f) (z m f l g)⟩
  | _=>rw[C] at h;cases h
 | block id b =>
  simp only[run] at h;obtain⟨⟨U,Z⟩,M,r⟩:=aB.1 h;obtain⟨u,z⟩:=hr _ _ _ _ _ M;have V:Z=T:=by
   cases U with
   | normal=>cases r;rfl
   | ret=>cases r;rfl
   | exit k =>
    dsimp only at r;cases C:Nat.beq k id<;>rw[C] at r<;>(cases r;rfl)
  subst V;refine⟨u,fun m w G O a f l Q g=>wp_block (z m f l fun A B K L D I J=>?_)⟩;cases U with
  | normal=>cases r;exact g A B K L D I J
  | ret=>cases r;exact g A B K L D I J
  | exit k =>
   dsimp only at r;show if k=id then Q .normal A B else Q (.exit k) A B
   cases C:Nat.beq k id<;>rw[C] at r
   ·cases r;rw[if_neg (fun e=>by rw[e] at C;simp at C)];exact g A B K L D I J
   ·cases r;rw[if_pos (aC C)];exact g A B K L D I J
 | loop b =>
  obtain⟨u,k,z⟩:=hl _ _ _ _ _ h;exact⟨u,fun m w G O a f l Q g=>wp_loop_rounds k (z m f l g)⟩
 | region id ops d =>
  simp only[run] at h;obtain⟨s,M,r⟩:=aB.1 h;cases r;cases d with
  | false =>
   obtain⟨u,z⟩:=a5f (P:=P) (N:=N) (ops:=ops) (fun o S v T q=>(hs _ _ _ _ _ q).1 N) M;exact⟨u,fun m w G O a f l Q g=>wp_region_list (z m f l g)⟩
  | true =>
   obtain⟨X,h4⟩:=bU M;rw[aD] at X;obtain⟨⟨W,s'⟩,h5,h6⟩:=aB.1 h4;cases h6;have R:oN P E (a5a E n ops) N ops:=⟨fun o S v T q=>(hs _ _ _ _ _ q).1 N,fun o S v T q=>(hs _ _ _ _ _ q).2⟩
   refine⟨?_,fun m w G O a f l Q g=>d5m R (fun i hi cs b e=>?_) hE.mixed X.1 h5 m f l g⟩
   ·exact b0x R h5
   ·have:=bB.1 X.2 (dK ops i) (by simp[dK,hi]);rw[e] at this;cases this
 | _=>simp only[run] at h;cases h
theorem c8i {E:iU} (hE:sL P E):∀ n,c8g P E n∧c0e P E n∧c8e P E n∧c8f P E n
 | 0=>⟨fun N c S ex S' h=>(by cases h),fun N c S ex S' h=>(by cases h),fun ops o S v S' h=>(by cases h),fun f args S v S' h=>(by cases h)⟩
 | n+1=>by
  obtain⟨h1,h2,h3,h4⟩:=c8i hE n;have a:=c3v h1 h2;exact⟨c8h hE h1 h3 a,a,c3t hE h4,c3u hE h1⟩
theorem a0r {E:iU} (hE:sL P E) {n:Nat} {f:FuncId} {args:List AV} {S S':St} {v:AV} (h:call E n f args S=some (v,S')):iC P f args S S' v:=(c8i hE n).2.2.2 _ _ _ _ _ h
end Go.Eng
namespace Go.Eng
variable [fP]
open Go.RowKit
def b0z:Option TypeDesc→Bool
 | some (.int _)=>true
 | _=>false
def e1b:Option TypeDesc→Bool
 | some (.int .u8)=>true
 | _=>false
theorem a1z {d:Option TypeDesc} (h:b0z d=true):∃ k,d=some (.int k):=by
 unfold b0z at h;split at h
 ·exact⟨_,rfl⟩
 ·cases h
theorem d5p {d:Option TypeDesc} (h:e1b d=true):d=some (.int .u8):=by
 unfold e1b at h;split at h
 ·rfl
 ·cases h
def eqv:AV→Value→Bool
 | .int k n,.int k' n'=>decide (k=k')&&decide (n=n')
 | .bool b,.bool c=>b==c
 | .str s,.string t=>decide (s.data.toList=[])&&decide (t.data.toList=[])
 | .nilp,.pointer none=>true
 | .nils,.slice none 0 0=>true
 | .ext .nilIface,.nilIface=>true
 | .ext .nilFunc,.nilFunc=>true
 | .ext (.map none),.map none=>true
 | .ext (.chan none),.chan none=>true
 | _,_=>false
theorem a5h {s:ByteArray} (h:s.data.toList=[]):s=⟨#[]⟩:=by
 obtain⟨d⟩:=s;congr 1;exact Array.toList_inj.1 h
theorem e1c {a:AV} {v:Value} (h:eqv a v=true):dn G0 a=some v:=by
 unfold eqv at h
 split at h<;>first
  | (cases h;done)
  | rfl
  | (simp only[aD,decide_eq_true_eq] at h;obtain⟨rfl,rfl⟩:=h;rfl)
  | (simp only[beq_iff_eq] at h;subst h;rfl)
  | (simp only[aD,decide_eq_true_eq] at h;rw[a5h h.1,a5h h.2];rfl)
def d5q:List AV→List Value→Bool
 | [],[]=>true
 | a::l,v::r=>eqv a v&&d5q l r
 | _,_=>false
theorem c0f:∀ {l:List AV} {r:List Value},d5q l r=true→dG G0 l=some r
 | [],[],_=>rfl
 | a::l,v::r,h=>by
  simp only[d5q,aD] at h;exact bS.2 ⟨v,r,e1c h.1,c0f h.2,rfl⟩
def a7e (P:Program) (t n:Nat) (z:List AV):Bool :=
 match P.info? t with
 | none=>false
 | some i=>Nat.beq i.size n&&match i.zero with
  | none=>false
  | some v=>d5q z v.cells.toList
def d5r (P:Program):List Field→List (Nat×Nat×Bool)→Bool
 | [],[]=>true
 | f::fs,p::ps=>Nat.beq f.offset p.1&&(match P.info? f.type with
  | none=>false
  | some i=>Nat.beq i.size p.2.1)&&(match P.underlying f.type with
  | none=>false
  | some d=>d.isRow==p.2.2)&&d5r P fs ps
 | _,_=>false
def c0g (P:Program):List Field→Nat→Bool
 | [],_=>true
 | f::fs,k=>Nat.beq f.offset k && !(f.name == "_")&&b0z (P.underlying f.type)&&c0g P fs (k+1)
def b5r:Option TypeDesc→Bool
 | some .string=>true
 | _=>false
theorem c3w {d:Option TypeDesc} (h:b5r d=true):d=some .string:=by
 unfold b5r at h;split at h
 ·rfl
 ·cases h
def c8j:Option TypeDesc→Bool
 | some (.int .i64)=>true
 | _=>false
theorem c8k {d:Option TypeDesc} (h:c8j d=true):d=some (.int .i64):=by
 unfold c8j at h;split at h
 ·rfl
 ·cases h
def c3x:Option TypeInfo→List AV→Bool
 | some i,[.int k n]=>match i.zero with
  | some (.int k' n')=>decide (k=k')&&decide (n=n')
  | _=>false
 | _,_=>false
theorem a7f {d:Option TypeInfo} {l:List AV} (h:c3x d l=true):∃ i k n,d=some i∧i.zero=some (.int k n)∧l=[.int k n]:=by
 unfold c3x at h;split at h
 ·split at h
  ·rename_i c;rw[aD] at h;have a:=bI h.1;have b:=bI h.2;subst a;subst b;exact⟨_,_,_,rfl,c,rfl⟩
  ·cases h
 ·cases h
def kpl (P:Program) (n:Nat):List Field→Bool
 | []=>true
 | f::fs=>Nat.blt f.offset n&&(b0z (P.underlying f.type)||b5r (P.underlying f.type))&&kpl P n fs
theorem c8l {P:Program} {n:Nat}:∀ {fs:List Field},kpl P n fs=true→KPl P fs n
 | [],_=>fun f hf=>by cases hf
 | f::fs,h=>by
  simp only[kpl,aD,Bool.or_eq_true] at h;obtain⟨⟨h1,h2⟩,h3⟩:=h;intro g a;rcases aG.1 a with rfl|a
  ·exact⟨by simpa [Nat.blt_eq] using h1,h2.imp a1z c3w⟩
  ·exact c8l h3 g a
def c8m (P:Program) (t:Nat) (ti:TI):Bool :=
 match ti.tk,P.underlying t with
 | .other,some d => !d.isRow
 | .struct,some (.struct fs)=>d5r P fs.toList ti.fs
 | .array,some (.array n e)=>Nat.beq n ti.len&&Nat.beq e ti.el
 | .slice,some (.slice e)=>Nat.beq e ti.el
 | .int k,some (.int k')=>decide (k=k')
 | .str,some .string=>true
 | .bool,some .bool=>true
 | .ptr,some (.pointer _)=>true
 | .map,some (.map kt et)=>Nat.beq et ti.el&&c8j (P.underlying kt)&&c3x (P.info? ti.el) ti.ez
 | .smap,some (.map kt et)=>Nat.beq et ti.el&&c3x (P.info? ti.el) ti.ez&&match P.underlying kt with
  | some (.struct fs)=>kpl P ti.len fs.toList
  | _=>false
 | .chan,some (.chan _ e)=>match P.info? e with
  | some i=>Nat.beq i.bytes ti.by_
  | none=>false
 | _,_=>false
def e1d (P:Program) (t:Nat) (ti:TI):Bool :=
 a7e P t ti.n ti.z&&c8m P t ti &&
 (!(ti.tk.arr||ti.tk.sl)||(a7e P ti.el ti.es ti.ez&&Nat.beq ti.ez.length ti.es&&match P.info? ti.el with
  | none=>false
  | some i=>Nat.beq i.bytes ti.by_)) &&
 (!ti.eint||b0z (P.underlying ti.el))&&(!ti.eu8||e1b (P.underlying ti.el))&&(!ti.eu8||c3x (P.info? ti.el) [.int .u8 0]) &&
 (!ti.sint||match P.underlying t with
  | some (.struct fs)=>c0g P fs.toList 0&&Nat.beq fs.size ti.n && !(P.stoodInHeld t) && !(P.eqGuardType P.depth t)
  | _=>false) &&
 (!(ti.tk.arr&&ti.eint) || !(P.eqGuardType P.depth t))
theorem a5i {P:Program} {t n:Nat} {z:List AV} (h:a7e P t n z=true):∃ i v,P.info? t=some i∧i.size=n∧i.zero=some v∧dG G0 z=some v.cells.toList:=by
 unfold a7e at h;split at h
 ·cases h
 ·rename_i i b;rw[aD] at h;obtain⟨c,a⟩:=h;split at a
  ·cases a
  ·rename_i v d;exact⟨i,v,b,aC c,d,c0f a⟩
theorem b1a {P:Program}:∀ {l:List Field} {k:Nat},c0g P l k=true→b9t P l k
 | [],_,_=>trivial
 | f::fs,k,h=>by
  simp only[c0g,aD] at h;obtain⟨⟨⟨h1,h2⟩,h3⟩,h4⟩:=h;exact⟨aC h1,by simpa using h2,a1z h3,b1a h4⟩
theorem c0h {P:Program}:∀ {fs:List Field} {ps:List (Nat×Nat×Bool)},d5r P fs ps=true→fs.length=ps.length∧∀ f p,bT ps f=some p→∃ fd i d,fs[f]?=some fd∧fd.offset=p.1∧P.info? fd.type=some i∧i.size=p.2.1∧P.underlying fd.type=some d∧d.isRow=p.2.2
 | [],[],_=>⟨rfl,fun f p h=>by cases f<;>cases h⟩
 | f::fs,p::ps,h=>by
  simp only[d5r,aD] at h;obtain⟨⟨⟨h1,h2⟩,h3⟩,h4⟩:=h;obtain⟨b,c⟩:=c0h h4;refine⟨by simp[b],fun j q a=>?_⟩;cases j with
  | zero =>
   cases a;split at h2
   ·cases h2
   ·rename_i i g;split at h3
    ·cases h3
    ·rename_i d hd;exact⟨f,i,d,rfl,aC h1,g,aC h2,hd,by simpa using h3⟩
  | succ j=>exact c j q a
theorem d5s {P:Program} {t:Nat} {ti:TI} (h:e1d P t ti=true):vT P t ti:=by
 simp only[e1d,aD] at h;obtain⟨⟨⟨⟨⟨⟨⟨E,c⟩,w⟩,A⟩,B⟩,o⟩,m⟩,C⟩:=h;refine⟨a5i E,fun z=>?_,fun he=>?_,fun he=>?_,fun he=>?_,?_,fun he=>?_,fun z he=>?_⟩
 ·have:(ti.tk.arr||ti.tk.sl)=true:=by simpa using z
  rw[this] at w;simp only[Bool.not_true,Bool.false_or,aD] at w;obtain⟨⟨j,l⟩,g⟩:=w;obtain⟨i,v,s,u,F,D⟩:=a5i j;rw[s] at g;refine⟨i,v,s,u,F,?_,D,aC g⟩;have:=dM D;have e:=aC l;rw[u,← e];simpa using this
 ·rw[he] at A;exact a1z (by simpa using A)
 ·rw[he] at B;exact d5p (by simpa using B)
 ·rw[he] at o;obtain⟨i,k,n,a,b,G⟩:=a7f (show c3x (P.info? ti.el) [.int .u8 0]=true by simpa using o);cases G;exact⟨i,a,b⟩
 ·unfold c8m at c;split at c
  ·rename_i d a b;rw[a];exact⟨d,b,by simpa using c⟩
  ·rename_i r a b;rw[a];obtain⟨j,l⟩:=c0h c;refine⟨r,b,by simpa using j,fun f p N=>?_⟩;obtain⟨I,i,d,s,u⟩:=l f p N;exact⟨I,i,d,by simpa using s,u⟩
  ·rename_i n e a b;rw[aD] at c;rw[a];show _=_;rw[b,aC c.1,aC c.2]
  ·rename_i e a b;rw[a];show _=_;rw[b,aC c]
  ·rename_i k O a b;rw[a];show _=_;rw[b,bI c]
  ·rename_i a b;rw[a];exact b
  ·rename_i a b;rw[a];exact b
  ·rename_i e a b;rw[a];exact⟨e,b⟩
  ·rename_i x J a b;simp only[aD] at c;obtain⟨⟨j,l⟩,g⟩:=c;have:=aC j;subst this;rw[a];exact⟨x,b,c8k l,a7f g⟩
  ·rename_i x J a b;simp only[aD] at c;obtain⟨⟨j,l⟩,g⟩:=c;have:=aC j;subst this;rw[a];split at g
   ·rename_i r y;exact⟨x,r,b,y,c8l g,a7f l⟩
   ·cases g
  ·rename_i K e a b;rw[a];split at c
   ·rename_i i L;exact⟨K,e,i,b,L,aC c⟩
   ·cases c
  ·cases c
 ·rw[he] at m;simp only[Bool.not_true,Bool.false_or] at m;split at m
  ·rename_i r e;simp only[aD] at m;obtain⟨⟨⟨j,l⟩,g⟩,M⟩:=m;exact⟨r,e,b1a j,aC l,by simpa using g,by simpa using M⟩
  ·cases m
 ·rw[z,he] at C;simpa using C
def c8n (P:Program):TT→Bool
 | .leaf=>true
 | .node k ti l r=>e1d P k ti&&c8n P l&&c8n P r
theorem a7g {P:Program}:∀ {T:TT},c8n P T=true→∀ t ti,T.get t=some ti→vT P t ti
 | .leaf,_,t,ti,h=>by cases h
 | .node k x l r,h,t,ti,hg=>by
  simp only[c8n,aD] at h;obtain⟨⟨h1,h2⟩,h3⟩:=h;simp only[TT.get] at hg;cases a:Nat.beq t k<;>rw[a] at hg
  ·cases b:Nat.blt t k<;>rw[b] at hg
   ·exact a7g h3 t ti hg
   ·exact a7g h2 t ti hg
  ·cases hg;rw[aC a];exact d5s h1
end Go.Eng
namespace Go.Eng
open Go.Proofs
variable [fP]
def FT.flat:FT→List (Nat×Func)
 | .leaf=>[]
 | .node k f l r=>(k,f)::(l.flat++r.flat)
theorem FT.get_mem:∀ {T:FT} {t:Nat} {f:Func},T.get t=some f→(t,f)∈T.flat
 | .leaf,t,f,h=>by cases h
 | .node k x l r,t,f,h=>by
  simp only[FT.get] at h;simp only[FT.flat,aG,aI,Prod.mk.injEq];cases hb:Nat.beq t k<;>rw[hb] at h
  ·cases hc:Nat.blt t k<;>rw[hc] at h
   ·exact .inr (.inr (FT.get_mem h))
   ·exact .inr (.inl (FT.get_mem h))
  ·cases h;exact .inl ⟨aC hb,rfl⟩
omit [fP] in
theorem e5r:c8n Tryz.prog tt=true:=by kernel_rfl
omit [fP] in
theorem e5s:(ft.flat.map fun p=>Tryz.prog.funcs[p.1]?)=ft.flat.map fun p=>some p.2:=by kernel_rfl
omit [fP] in
theorem e5t:(ft.flat.all fun p => !(p.2.name == "runtime.NumGoroutine"))=true:=by kernel_rfl
omit [fP] in
theorem mixed:Tryz.prog.follows .mixedOrders=true:=by kernel_rfl
theorem b5s {bd:Bd} (hb:BD bd) {hk:HK} {cv:TypeId→TypeId→Nat→St→Option (AV×St)} (hh:∀ f args S v S',hk f args S=some (v,S')→iC Tryz.prog f args S S' v)
  (hc:∀ s d i S v S',cv s d i S=some (v,S')→∀ x,a6y (ev S.F x)=some i→dC (EBc bd hk cv) (.convert s d x)=false→kZ Tryz.prog (EBc bd hk cv) (.convert s d x) S S' v):sL Tryz.prog (EBc bd hk cv) where
 tt t ti h:=a7g e5r t ti h
 body f fn h:=by
  have b:=FT.get_mem (T:=ft) h;have c:=bB.1 e5t _ b;refine⟨?_,by simpa using c⟩;have g:∀ (l:List (Nat×Func)),(l.map fun p=>Tryz.prog.funcs[p.1]?)=(l.map fun p=>some p.2)→∀ q∈l,Tryz.prog.funcs[q.1]?=some q.2:=by
   intro l
   induction l with
   | nil=>intro _ q a;cases a
   | cons x l ih =>
    intro e q a;simp only[List.map_cons,List.cons.injEq] at e;rcases aG.1 a with rfl|a
    ·exact e.1
    ·exact ih e.2 q a
  exact g _ e5s _ b
 mixed:=mixed
 bd:=hb
 hk:=hh
 cv:=hc
theorem kE {bd:Bd} (hb:BD bd) {hk:HK} (hh:∀ f args S v S',hk f args S=some (v,S')→iC Tryz.prog f args S S' v):sL Tryz.prog (oL bd hk):=b5s hb hh fun _ _ _ _ _ _ h=>by cases h
theorem a2a {bd:Bd} (hb:BD bd):sL Tryz.prog (EB bd):=kE hb fun _ _ _ _ _ h=>by cases h
end Go.Eng
namespace Go.Eng
variable [fP]
open Go.RowKit
abbrev Ren:=List Nat
def wA (a b:Option Nat):Bool:=match a,b with
 | some a,some b=>Nat.beq a b
 | _,_=>false
def c8o (ρ:Ren):AV→AV→Bool
 | .int k n,.int k' n'=>(k==k')&&decide (n=n')
 | .sym k e,.sym k' e'=>(k==k')&&decide (e=e')
 | .bool b,.bool c=>b==c
 | .str s,.str t=>decide (s.data.toList=t.data.toList)
 | .ptr i o,.ptr j o'=>Nat.beq o o'&&wA (bT ρ i) (some j)
 | .nilp,.nilp=>true
 | .slk i o n c,.slk j o' n' c'=>Nat.beq o o'&&Nat.beq n n'&&Nat.beq c c'&&wA (bT ρ i) (some j)
 | .slc i o n,.slc j o' n'=>Nat.beq o o'&&Nat.beq n n'&&wA (bT ρ i) (some j)
 | .nils,.nils=>true
 | .mp i,.mp j=>wA (bT ρ i) (some j)
 | .fn f,.fn g=>Nat.beq f g
 | .clo f i o,.clo g j o'=>Nat.beq f g&&Nat.beq o o'&&wA (bT ρ i) (some j)
 | .opq i,.opq j=>wA (bT ρ i) (some j)
 | .opl i e,.opl j e'=>decide (e=e')&&wA (bT ρ i) (some j)
 | .ext .nilIface,.ext .nilIface=>true
 | .ext .nilFunc,.ext .nilFunc=>true
 | .ext (.map none),.ext (.map none)=>true
 | .ext (.chan none),.ext (.chan none)=>true
 | _,_=>false
def uX (ρ:Ren):List AV→List AV→Bool
 | [],[]=>true
 | a::l,b::m=>c8o ρ a b&&uX ρ l m
 | _,_=>false
def c0i (ρ:Ren):cU→cU→Bool
 | .row e l,.row e' m=>Nat.beq e e'&&uX ρ l m
 | .gro e s l,.gro e' s' m=>Nat.beq e e'&&Nat.beq s s'&&uX ρ l m
 | .fro e l,.fro e' m=>Nat.beq e e'&&uX ρ l m
 | _,_=>false
def c0j (ρ:Ren) (H:Hp):Hp→Bool
 | []=>true
 | (k,b)::l=>(match bT ρ k with
  | some i=>match cK H i with
   | some b'=>c0i ρ b b'
   | none=>false
  | none=>false)&&c0j ρ H l
def lD:List Nat→Bool
 | []=>true
 | i::l => !(pQ l i)&&lD l
def c8p (ρ:Ren) (n:Nat) (H:Hp) (nx:Nat) (B:Hp):Bool:=c0j ρ H B&&lD ρ&&Nat.beq ρ.length n&&ρ.all fun i=>Nat.blt i nx
def GM.ren (ρ:Ren) (G:GM):GM:=fun k=>(bT ρ k).bind G
section
variable {ρ : Ren} {G : GM}
theorem mZ {i j:Nat} (h:wA (bT ρ i) (some j)=true):GM.ren ρ G i=G j:=by
 unfold wA at h;split at h
 ·rename_i a b c d;cases d;have:=aC h;subst this;show (bT ρ i).bind G=_;rw[c];rfl
 ·cases h
theorem c8q {a b:AV} (h:c8o ρ a b=true):dn (GM.ren ρ G) a=dn G b:=by
 unfold c8o at h;split at h
 ·simp only[aD,beq_iff_eq,decide_eq_true_eq] at h;obtain⟨rfl,rfl⟩:=h;rfl
 ·simp only[aD,beq_iff_eq,decide_eq_true_eq] at h;obtain⟨rfl,rfl⟩:=h;rfl
 ·simp only[beq_iff_eq] at h;subst h;rfl
 ·rename_i s t;have:s=t:=by
   obtain⟨s⟩:=s;obtain⟨t⟩:=t;congr 1;exact Array.toList_inj.1 (bI h)
  subst this;rfl
 ·rw[aD] at h;have:=aC h.1;subst this;simp only[dn,mZ (G:=G) h.2]
 ·rfl
 ·simp only[aD] at h;obtain⟨⟨⟨d,f⟩,g⟩,c⟩:=h;have:=aC d;subst this;have:=aC f;subst this;have:=aC g;subst this;simp only[dn,mZ (G:=G) c]
 ·simp only[aD] at h;obtain⟨⟨d,f⟩,c⟩:=h;have:=aC d;subst this;have:=aC f;subst this;simp only[dn,mZ (G:=G) c]
 ·rfl
 ·simp only[dn,mZ (G:=G) h]
 ·have:=aC h;subst this;rfl
 ·simp only[aD] at h;obtain⟨⟨d,f⟩,c⟩:=h;have:=aC d;subst this;have:=aC f;subst this;simp only[dn,mZ (G:=G) c]
 ·simp only[dn,mZ (G:=G) h]
 ·simp only[aD,decide_eq_true_eq] at h;obtain⟨rfl,c⟩:=h;simp only[dn,mZ (G:=G) c]
 ·rfl
 ·rfl
 ·rfl
 ·rfl
 ·cases h
theorem mR:∀ {l m:List AV},uX ρ l m=true→dG (GM.ren ρ G) l=dG G m
 | [],[],_=>rfl
 | a::l,b::m,h=>by
  simp only[uX,aD] at h;simp only[dG,c8q (G:=G) h.1,mR h.2]
theorem pC {w:World} {x:GI} {b b':cU} (h:c0i ρ b b'=true):(b.live∧b'.live)∧(BS w G x b'→BS w (GM.ren ρ G) x b):=by
 unfold c0i at h;split at h
 ·rw[aD] at h;have:=aC h.1;subst this;refine⟨⟨trivial,trivial⟩,?_⟩;rintro⟨a,d,c⟩;exact⟨a,by rw[mR h.2];exact d,c⟩
 ·simp only[aD] at h;have:=aC h.1.1;subst this;have:=aC h.1.2;subst this;refine⟨⟨trivial,trivial⟩,?_⟩;rintro⟨f,d,a,g,c,i⟩;exact⟨f,d,a,g,by rw[mR h.2];exact c,i⟩
 ·rw[aD] at h;have:=aC h.1;subst this;refine⟨⟨trivial,trivial⟩,?_⟩;rintro⟨f,a,g,j,c,i⟩;exact⟨f,a,g,j,by rw[mR h.2];exact c,i⟩
 ·cases h
theorem nA {H:Hp}:∀ {B:Hp},c0j ρ H B=true→∀ k b,cK B k=some b→∃ i b',bT ρ k=some i∧cK H i=some b'∧c0i ρ b b'=true
 | [],_,k,b,hk=>by cases hk
 | (j,c)::l,h,k,b,hk=>by
  simp only[c0j,aD] at h;rw[cH] at hk;by_cases e:k=j
  ·rw[if_pos e] at hk;cases hk;subst e;obtain⟨h1,_⟩:=h;split at h1
   ·rename_i i d;split at h1
    ·rename_i b' a;exact⟨i,b',d,a,h1⟩
    ·cases h1
   ·cases h1
  ·rw[if_neg e] at hk;exact nA h.2 k b hk
theorem eM {l:List Nat}:∀ {k i:Nat},bT l k=some i→i∈l:=by
 induction l with
 | nil=>intro k i h;cases k<;>cases h
 | cons x l ih =>
  intro k i h;cases k with
  | zero=>cases h;exact aR ..
  | succ k=>exact aT _ (ih h)
theorem c8r {l:List Nat} {i:Nat} (h:pQ l i=false):i∉l:=by
 induction l with
 | nil=>simp
 | cons x l ih =>
  simp only[pQ,Bool.or_eq_false_iff] at h;intro q;rcases aG.1 q with rfl|q
  ·simp at h
  ·exact ih h.2 q
theorem a5j:∀ {l:List Nat},lD l=true→∀ j k i,bT l j=some i→bT l k=some i→j=k
 | [],_,j,k,i,h1,_=>by cases j<;>cases h1
 | x::l,h,j,k,i,h1,h2=>by
  simp only[lD,aD,Bool.not_eq_true'] at h;have hx:=c8r h.1;cases j with
  | zero =>
   cases k with
   | zero=>rfl
   | succ k=>cases h1;exact absurd (eM (l:=l) (k:=k) h2) hx
  | succ j =>
   cases k with
   | zero=>cases h2;exact absurd (eM (l:=l) (k:=j) h1) hx
   | succ k=>rw[a5j h.2 j k i h1 h2]
theorem c8s {l:List Nat}:∀ {k:Nat},l.length≤k→bT l k=none:=by
 induction l with
 | nil=>intro k _;cases k<;>rfl
 | cons x l ih =>
  intro k h;cases k with
  | zero=>simp at h
  | succ k=>exact ih (by simpa using h)
theorem gP.gc {w:World} {O:Nat→Prop} {H B:Hp} {nx n:Nat} (h:gP w G O H nx) (hg:c8p ρ n H nx B=true):gP w (GM.ren ρ G) O B n:=by
 simp only[c8p,aD] at hg;obtain⟨⟨⟨l,v⟩,z⟩,P⟩:=hg;refine⟨⟨fun k b g R=>?_,fun j k b c x y K S g T L M he=>?_⟩,fun i N=>?_,h.olt,fun k U g=>by
   obtain⟨i,d,f,m,a⟩:=nA l 0 _ g
   (cases d<;>cases a),h.ob,h.bw⟩
 ·obtain⟨i,d,f,m,a⟩:=nA l k b g;obtain⟨⟨_,o⟩,Q⟩:=pC (w:=w) (x:=⟨0,0,0,0,undef⟩) (G:=G) a;obtain⟨x,A,C,D,E⟩:=h.bs i d m o;exact⟨x,by show (bT ρ k).bind G=_;rw[f];exact A,C,D,(pC a).2 E⟩
 ·obtain⟨i,d,f,m,a⟩:=nA l j b K;obtain⟨s,F,t,I,J⟩:=nA l k c g;have u:=(pC (w:=w) (x:=x) (G:=G) a).1.2;have o:=(pC (w:=w) (x:=x) (G:=G) J).1.2;have p:G i=some x:=by have:(bT ρ j).bind G=some x:=L;rw[f] at this;exact this
  have r:G s=some y:=by have:(bT ρ k).bind G=some y:=M;rw[t] at this;exact this
  have:=h.inj i s d F x y m u I o p r he;subst this;exact a5j v j k i f t
 ·show (bT ρ i).bind G=none;rw[c8s (by rw[aC z];exact N)];rfl
end
end Go.Eng
