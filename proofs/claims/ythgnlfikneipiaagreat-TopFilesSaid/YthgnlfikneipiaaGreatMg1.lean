/- Texts of the proof, joined. -/
import Derived.WalkKit
import Derived.Lib.Hide
import Derived.Deep.QuietTactic
import Derived.BigQuiet
import Derived.WalkSpells
import Derived.WalkLawsBesides
import Derived.Lib.SlBytesConst
import Derived.Laws.CopyOwn
import Derived.Maps.AppendAt
import Derived.ProofKit
import Derived.OpenShut
import Derived.ShutString
import Derived.ChangeOld
import Derived.JoinedCond
import Derived.SizedLaws
import Derived.Deep.Slices
import Derived.Deep.CondSized
import Derived.Deep.MidRow
import Derived.ChangeKeysEq
import Derived.MapKept
set_option linter.unusedSimpArgs false
set_option linter.unusedVariables false
set_option linter.unusedSectionVars false
set_option maxRecDepth 100000
set_option maxHeartbeats 4000000
namespace Go
abbrev aA:=@Option.bind_eq_some_iff
abbrev aB:=@Option.map_eq_some_iff
abbrev aC:=@Nat.eq_of_beq_eq_true
abbrev aD:=@Bool.and_eq_true
abbrev aE:=@List.length_append
abbrev aF:=@Nat.le_refl
abbrev aG:=@List.mem_cons
abbrev aH:=@List.length_drop
abbrev aI:=@List.mem_append
abbrev aJ:=@List.length_take
abbrev aK:=@Option.some.inj
abbrev aL:=@Nat.le_trans
abbrev aM:=@Nat.zero_add
abbrev aN:=@Nat.le_of_ble_eq_true
abbrev aO:=@List.getElem?_eq_getElem
abbrev aP:=@List.length_map
abbrev aQ:=@IntKind.wrap_i64
abbrev aR:=@List.mem_cons_self
abbrev aS:=@Nat.zero_le
abbrev aT:=@List.mem_cons_of_mem
abbrev aU:=@List.getElem?_eq_some_iff
abbrev aV:=@List.take_length
abbrev aW:=@List.length_cons
abbrev aX:=@Nat.lt_of_lt_of_le
abbrev aY:=@Option.bind_some
abbrev aZ:=@List.take_of_length_le
abbrev bA:=@List.append_nil
abbrev bB:=@List.all_eq_true
abbrev bC:=@List.take_succ_eq_append_getElem
abbrev bD:=@Array.length_toList
abbrev bE:=@List.getElem?_append_left
abbrev bF:=@List.not_mem_nil
abbrev bG:=@Lib.hid
abbrev bH:=@Nat.succ_lt_succ
abbrev bI:=@of_decide_eq_true
abbrev bJ:=@beq_eq_false_iff_ne
abbrev bK:=@World.ownsRow_nil
abbrev bL:=@List.flatMap_append
abbrev bM:=@List.flatMap_cons
abbrev bN:=@List.append_assoc
abbrev bO:=@Nat.mul_le_mul_right
abbrev bP:=@List.getElem_mem
end Go
namespace Go.Proofs.YthgnlfikneipiaaGreat
open Go.RowKit
def bT {α:Type} [Inhabited α] (l:List α) (k:Nat):α:=l.getD k default
theorem cO {α:Type} [Inhabited α] (l:List α) (k:Nat) (h:k < l.length):bT l k=l[k]:=by simp[bT,List.getD,h]
theorem xM {α:Type} [Inhabited α] (l:List α) (k:Nat) (x:α) (h:l[k]?=some x):bT l k=x:=by simp[bT,List.getD,h]
theorem cP {α:Type} [Inhabited α] (x:α) (l:List α):bT (x::l) 0=x:=rfl
theorem gK {α:Type} [Inhabited α] (x:α) (l:List α) (k:Nat):bT (x::l) (k+1)=bT l k:=rfl
structure bR (S:List Nat) (w w':World):Prop where
 os:w'.os=w.os
 tape:w'.tape=w.tape
 output:w'.output=w.output
 size:w.heap.size≤w'.heap.size
 block:∀ k,k < w.heap.size→k∉S→w'.heap[k]?=w.heap[k]?
theorem bR.refl (S:List Nat) (w:World):bR S w w:=⟨rfl,rfl,rfl,aF _,fun _ _ _=>rfl⟩
theorem bR.trans {S S' T:List Nat} {a b c:World} (h:bR S a b) (k:bR S' b c) (hs:∀ x∈S,x∈T) (hs':∀ x∈S',x∈T∨a.heap.size≤x):bR T a c :=
 ⟨k.os.trans h.os,k.tape.trans h.tape,k.output.trans h.output,aL h.size k.size,fun i d f=>by
  rw[k.block i (aX d h.size) (fun e=>by rcases hs' i e with q|q;exact f q;omega),h.block i d (fun e=>f (hs i e))]⟩
theorem bR.mono {S T:List Nat} {a b:World} (h:bR S a b) (hs:∀ x∈S,x∈T∨a.heap.size≤x):bR T a b :=
 (bR.refl T a).trans h (fun x c=>c) hs
theorem bR.drew {S:List Nat} {a b:World} (h:bR S a b):bR S a b.drew:=⟨h.os,h.tape,h.output,h.size,h.block⟩
theorem bR.drewN {S:List Nat} {a b:World} (h:bR S a b) (n:Nat):bR S a (b.drewN n):=⟨h.os,h.tape,h.output,h.size,h.block⟩
theorem bR.alloc {S:List Nat} {a b:World} (h:bR S a b) (o:Obj):bR S a (b.alloc o) :=
 ⟨h.os,h.tape,h.output,by have:=h.size;simp;omega,fun k c d=>by rw[Below.heap_alloc _ _ _ (aX c h.size)];exact h.block k c d⟩
theorem bR.setCell {S:List Nat} {a b:World} (h:bR S a b) (p:Addr) (u:Value) (hp:p.block∈S∨a.heap.size≤p.block):bR S a (b.setCell p u) :=
 ⟨h.os,h.tape,h.output,by have:=h.size;simp;omega,fun k d c=>by
  rw[Below.heap_setCell _ _ _ _ (fun e=>by subst e;rcases hp with q|q;exact c q;omega)];exact h.block k d c⟩
theorem bR.of_grown {w w':World} {row:Option Nat} (hg:w.grownBy w' row):bR row.toList w w' :=
 ⟨hg.os,hg.tape,hg.output,hg.size,fun k a b=>hg.block k a (fun e=>b (by rw[← e];simp))⟩
theorem bR.below {w w':World} (h:bR [] w w'):Below w.heap.size w w':=⟨h.os,h.tape,h.output,h.size,fun k a=>h.block k a (by simp)⟩
theorem bR.cell {S:List Nat} {w w':World} (h:bR S w w') {p:Addr} {v:Value} (hv:w.cell? p=some v) (hp:p.block∉S):w'.cell? p=some v :=
 (World.cell?_of_block (w:=w) (h.block p.block (World.block_lt_of_cell? w p hv) hp)).trans hv
theorem bR.heap {S:List Nat} {w w':World} (h:bR S w w') {k:Nat} {o:Obj} (hv:w.heap[k]?=some o) (hp:k∉S):w'.heap[k]?=some o :=
 (h.block k (Array.getElem?_eq_some_iff.1 hv).1 hp).trans hv
def Rd {α:Type} [Inhabited α] (c:α→Value) (w:World) (v:Value) (l:List α):Prop :=
 ∃ a cap,v = .slice a l.length cap∧l.length≤cap∧cap≤maxLen ∧
  (l≠[]→∃ b off,a=some ⟨b,off,none⟩∧∀ j,j < l.length→w.cell? ⟨b,off+j,none⟩=some (c (bT l j)))
def blk:Value→List Nat
 | .slice (some a) _ _=>[a.block]
 | _=>[]
theorem Rd.upd {α:Type} [Inhabited α] {c:α→Value} {w w':World} {v:Value} {l:List α} (h:Rd c w v l) {S:List Nat} (hu:bR S w w') (hs:∀ x∈blk v,x∉S):Rd c w' v l:=by
 obtain⟨a,d,rfl,i,m,o⟩:=h;refine⟨a,d,rfl,i,m,fun g=>?_⟩;obtain⟨b,f,rfl,p⟩:=o g;exact⟨b,f,rfl,fun j r=>hu.cell (p j r) (hs b (by simp[blk]))⟩
theorem Rd.upd0 {α:Type} [Inhabited α] {c:α→Value} {w w':World} {v:Value} {l:List α} (h:Rd c w v l) (hu:bR [] w w'):Rd c w' v l :=
 h.upd hu (by simp)
abbrev bv (x:UInt8):Value := .int .u8 (x.toNat:Int)
abbrev eQ (w:World) (v:Value) (l:List UInt8):Prop:=Rd bv w v l
def fB {α:Type} (c:α→Value) (base:Nat) (e:TypeId) (w:World) (v:Value) (l:List α):Prop:=w.ownsRow base e 1 v l.length (l.map c)
theorem fB.rd {α:Type} [Inhabited α] {c:α→Value} {base:Nat} {e:TypeId} {w:World} {v:Value} {l:List α} (h:fB c base e w v l):Rd c w v l:=by
 obtain⟨s,i⟩:=h;rcases i with⟨rfl,f⟩|⟨g,a,b,rfl,t,m,o,p,hs,r⟩
 ·exact⟨none,0,by rw[f],by omega,aS _,fun q=>absurd (List.eq_nil_of_length_eq_zero f) q⟩
 ·refine⟨_,a,rfl,o,p,fun _=>⟨g,0,rfl,fun j d=>?_⟩⟩;rw[cell_of_row w g (0+j) b e (0,0) m];have:(l.map c)[j]?=some (c (bT l j)):=by rw[List.getElem?_map,aO d,cO l j d];rfl
  rw[← r,List.getElem?_take] at this;simpa [d] using this
theorem mI (v:Value):blk v=v.ownBlock.toList:=by
 cases v with
 | slice a _ _=>cases a<;>rfl
 | _=>rfl
theorem fB.upd {α:Type} {c:α→Value} {base:Nat} {e:TypeId} {w w':World} {v:Value} {l:List α} (h:fB c base e w v l) {S:List Nat} (hu:bR S w w') (hs:∀ x∈blk v,x∉S):fB c base e w' v l:=by
 obtain⟨f,a⟩:=h;refine⟨f,?_⟩;rcases a with a|⟨g,b,d,rfl,i,j,r⟩
 ·exact .inl a
 ·exact .inr ⟨g,b,d,rfl,i,hu.heap j (hs g (by simp[blk])),r⟩
theorem fB.ge {α:Type} {c:α→Value} {base:Nat} {e:TypeId} {w:World} {v:Value} {l:List α} (h:fB c base e w v l):∀ x∈blk v,base≤x∧x < w.heap.size:=by
 intro x a;rw[mI] at a;exact World.ownsRow.lt h x (by simpa using a)
theorem fB.base_le {α:Type} {c:α→Value} {base base':Nat} {e:TypeId} {w:World} {v:Value} {l:List α} (h:fB c base e w v l) (hb:base'≤base):fB c base' e w v l:=by
 obtain⟨f,a⟩:=h;refine⟨f,?_⟩;rcases a with a|⟨g,b,d,rfl,i,j,r⟩
 ·exact .inl a
 ·exact .inr ⟨g,b,d,rfl,by omega,j,r⟩
theorem Rd.lit {α:Type} [Inhabited α] {c:α→Value} {w:World} (l:List α) {C:Array Value} {e:TypeId} {fr:Nat×Nat} {g n k:Nat} (hg:g=w.heap.size) (hC:C=(l.map c).toArray) (hn:n=l.length) (hk:n≤k) (hm:k≤maxLen) :
  Rd c (w.alloc (.cells C e fr)) (.slice (some ⟨g,0,none⟩) n k) l:=by
 subst hg;subst hn;subst hC;refine⟨_,_,rfl,hk,hm,fun _=>⟨_,0,rfl,fun j a=>?_⟩⟩;rw[cell_of_row _ w.heap.size (0+j) _ e fr (heap_alloc_new w _)];simp[cO l j a,a]
theorem Rd.nil {α:Type} [Inhabited α] {c:α→Value} (w:World):Rd c w (.slice none 0 0) ([]:List α) :=
 ⟨none,0,rfl,aF _,aS _,fun h=>absurd rfl h⟩
theorem Rd.alloc {α:Type} [Inhabited α] {c:α→Value} {w:World} {v:Value} {l:List α} (h:Rd c w v l) (o:Obj):Rd c (w.alloc o) v l:=h.upd0 ((bR.refl _ _).alloc _)
theorem c6x {P:Program} {t e:TypeId} (ht:P.underlying t=some (.slice e)) (he:P.underlying e=some (.int .u8)) (w:World) (C:Array Value) (g n c:Nat) (hg:g=w.heap.size) :
  (convert t t (.slice (some ⟨g,0,none⟩) n c)).run P (w.alloc (.cells C e)) = .ok (.slice (some ⟨g,0,none⟩) n c) (w.alloc (.cells C e (C.size,C.size+1))):=by
 subst hg;exact Lib.run_convert_bytes_const w t e C n c ht he
def cU (w:World) (g:Nat) (e:TypeId) (xs:List Value):Prop:=w.heap[g]?=some (.cells xs.toArray e (0,0))
theorem cU.lt {w:World} {g:Nat} {e:TypeId} {xs:List Value} (h:cU w g e xs):g < w.heap.size:=(Array.getElem?_eq_some_iff.1 h).1
theorem cU.upd {w w':World} {g:Nat} {e:TypeId} {xs:List Value} (h:cU w g e xs) {S:List Nat} (hu:bR S w w') (hs:g∉S):cU w' g e xs:=hu.heap h hs
theorem cU.cell {w:World} {g:Nat} {e:TypeId} {xs:List Value} (h:cU w g e xs) (i:Nat):w.cell? ⟨g,i,none⟩=xs[i]?:=by
 rw[cell_of_row w g i _ e (0,0) h];simp
theorem cU.frozen {w:World} {g:Nat} {e:TypeId} {xs:List Value} (h:cU w g e xs) (i:Nat):w.frozen? ⟨g,i,none⟩=false:=frozen_of_row w g i _ e h
theorem cU.set_ {w:World} {g:Nat} {e:TypeId} {xs:List Value} (h:cU w g e xs) (i:Nat) (u:Value):cU (w.setCell ⟨g,i,none⟩ u) g e (xs.set i u):=by
 have:=heap_setCell_same w g i _ e u h;unfold cU;rw[this];simp
theorem cU.new (w:World) (e:TypeId) (xs:List Value):cU (w.alloc (.cells xs.toArray e)) w.heap.size e xs:=heap_alloc_new w _
section
variable {P : Program} {ops : Array Oper} {rest : List Oper} {o : Oper} {a : Act} {w : World} {Q : Exit → Act → World → Prop}
theorem a1e (z:Value) (hz:z.cells=#[z]) (n:Nat):(madeCells z.cells n)=(List.replicate n z).toArray:=by
 apply Array.toList_inj.1;rw[hz,toList_madeCells_one]
theorem c6y {t e:TypeId} {z:Value} {bytes:Nat} (ht:P.underlying t=some (.slice e)) (hi:(P.info? e).map (fun i=>(i.zero,i.size,i.bytes))=some (some z,1,bytes)) (hz:z.cells=#[z])
  (u:World) (n m:Nat) (L C:Int) (hL:L=(n:Int)) (hC:C=(m:Int)) (hnm:n≤m) (hb:bytes*m≤281474976710656) (hm:m≤9223372036854775807) :
  (Instr.makeSlice t (.int .i64 L) (.int .i64 C)).run P u = .ok (.slice (some ⟨u.heap.size,0,none⟩) n m) (u.alloc (.cells (List.replicate m z).toArray e)):=by
 obtain⟨i,a,b,c,d⟩:=info_parts hi;subst hL;subst hC;have h:=run_make (P:=P) u t e i z ht a b .i64 .i64 (n:Int) (m:Int) (by omega) (by omega) (by rw[d,← Int.natCast_mul];omega) (by omega);rw[h,c,Nat.mul_one,Int.toNat_natCast,Int.toNat_natCast,a1e z hz]
theorem qY {α:Type} {c:α→Value} (hc:∀ x,(c x).oneCell'=true) (l:List α):∀ u∈l.map c,u.oneCell'=true:=by
 intro u a;obtain⟨x,_,rfl⟩:=List.mem_map.1 a;exact hc x
theorem dB (b off j:Nat):(⟨b,off,none⟩:Addr).add j=⟨b,off+j,none⟩:=by unfold Addr.add;split<;>simp_all
theorem lW {t ty e:TypeId} {size:Nat} (ht:P.underlying t=some (.slice e)) (hi:(P.info? e).map (·.size)=some size) (ao bo:Option Addr) (n cap k:Nat) (hn:n≤cap) :
  (Builtin.append_ #[t,t] ty #[.slice ao n cap,.slice bo 0 k]).run P w = .ok (.slice ao n cap) w:=by
 obtain⟨i,hi,a⟩:∃ i,P.info? e=some i∧i.size=size:=by
  cases b:P.info? e with
  | none=>simp[b] at hi
  | some i=>exact⟨i,rfl,by simpa [b] using hi⟩
 have c:n+0≤cap:=by omega
 cases ao<;>cases bo<;>simp[Builtin.append_,run_underlying ht,Builtin.lenOf,Builtin.firstCells,sizeOf,typeInfo,hi,storeCells,loadCells,loadCellsFrom,hn]
theorem lJ {α:Type} [Inhabited α] {c:α→Value} (hc:∀ x,(c x).oneCell'=true) {t ty e:TypeId} {z:Value} {bytes base:Nat} (ht:P.underlying t=some (.slice e)) (hi:(P.info? e).map (fun i=>(i.zero,i.size,i.bytes))=some (some z,1,bytes)) (hz:z.cells=#[z])
  (v u:Value) (l m:List α) (hv:fB c base e w v l) (hu:Rd c w u m) (hb:(l.length+m.length)*bytes≤140737488355328) (hl:l.length+m.length≤maxLen) (hbase:base≤w.heap.size) :
  ∃ v' w',(Builtin.append_ #[t,t] ty #[v,u]).run P w = .ok v' w'∧fB c base e w' v' (l++m)∧bR (blk v) w w'∧(∀ x∈blk v',x∈blk v∨w.heap.size≤x):=by
 obtain⟨i,E,J,F,K⟩:=info_parts hi;obtain⟨A,p,rfl,L,M,d⟩:=hu;by_cases y:m=[]
 ·subst y;have B:(P.info? e).map (·.size)=some 1:=by simp[E,F]
  obtain⟨C,n,k,rfl,D⟩:∃ C n k,v = .slice C n k∧n≤k:=by
   rcases hv.2 with⟨rfl,_⟩|⟨g,G,R,rfl,_,_,q,_⟩
   ·exact⟨none,0,0,rfl,aF _⟩
   ·exact⟨_,_,_,rfl,q⟩
  exact⟨_,w,lW ht B C A n k p D,by rw[bA];exact hv,bR.refl _ _,fun x a => .inl a⟩
 ·obtain⟨b,r,rfl,h⟩:=d y;have f:∀ j u,(m.map c)[j]?=some u→w.cell? ((⟨b,r,none⟩:Addr).add j)=some u:=fun j u I=>by
   rw[dB];rw[List.getElem?_map] at I;obtain⟨x,a,rfl⟩:=aB.1 I;rw[h j (aU.1 a).1,xM m j x a]
  obtain⟨v',w',N,O,Q,_,s⟩:=run_append_own_at (P:=P) w base t ty e i z 1 bytes ht E J F K (by rw[hz];rfl) (by decide) v l.length (l.map c) hv ⟨b,r,none⟩ m.length p (m.map c) (by simp) f (qY hc m) hl hb hbase;have o:fB c base e w' v' (l++m):=by
   unfold fB;rw[aE,List.map_append];exact O
  refine⟨v',w',N,o,by rw[mI];exact bR.of_grown Q,?_⟩;intro x a;rw[mI] at a;rcases s with s|s
  ·rw[s,← mI] at a;exact .inl a
  ·rw[s] at a;simp at a;exact .inr (by omega)
theorem fZ {α:Type} [Inhabited α] {c:α→Value} (hc:∀ x,(c x).oneCell'=true) (hgd:o.guard=none) (s x:Operand) {t e:TypeId} (ho:o.op = .call { callee := .builtin .append,args:=#[s,x],argTypes:=#[t,t] })
  {z:Value} {bytes base:Nat} (ht:P.underlying t=some (.slice e)) (hi:(P.info? e).map (fun i=>(i.zero,i.size,i.bytes))=some (some z,1,bytes)) (hz:z.cells=#[z])
  (v u:Value) (l m:List α) (hs:a.eval s=v) (hx:a.eval x=u) (hv:fB c base e w v l) (hu:Rd c w u m) (hb:(l.length+m.length)*bytes≤140737488355328) (hl:l.length+m.length≤maxLen) (hbase:base≤w.heap.size)
  (h:∀ v' w',fB c base e w' v' (l++m)→bR (blk v) w w'→(∀ x∈blk v',x∈blk v∨w.heap.size≤x)→wpList P ops Q rest (a.put o.dst v') w'):wpList P ops Q (o::rest) a w:=by
 obtain⟨v',w',b,d,f,g⟩:=lJ (P:=P) (ty:=o.type) hc ht hi hz v u l m hv hu hb hl hbase;refine wpList_plain hgd fun K j=>?_
 unfold Oper.wp execOp;simp only[ho,resolve,invoke,builtin,Sem.run_bind,Sem.run_pure,Result.andThen_ok,List.map_toArray,List.map_cons,List.map_nil,hs,hx,b];exact j _ _ (h v' w' d f g)
end
theorem iB {α:Type} [Inhabited α] (l:List α) (n j:Nat) (h:j < n):bT (l.take n) j=bT l j:=by simp[bT,List.getD,h]
theorem jM {α:Type} [Inhabited α] (l m:List α) (j:Nat) (h:j < l.length):bT (l++m) j=bT l j:=by simp[bT,List.getD,bE h]
theorem iX {α:Type} [Inhabited α] (l m:List α) (j:Nat) (h:l.length≤j):bT (l++m) j=bT m (j-l.length):=by simp[bT,List.getD,List.getElem?_append_right h]
theorem kD {α:Type} [Inhabited α] (l:List α) (n j:Nat):bT (l.drop n) j=bT l (n+j):=by simp[bT,List.getD]
theorem Rd.take {α:Type} [Inhabited α] {c:α→Value} {w:World} {a:Option Addr} {n cap:Nat} {l:List α} (h:Rd c w (.slice a n cap) l) (k:Nat) (hk:k≤l.length):Rd c w (.slice a k cap) (l.take k):=by
 obtain⟨u,g,he,v,i,m⟩:=h;injection he with p r s;subst p;subst r;subst s;refine⟨_,_,by rw[aJ,Nat.min_eq_left hk],by rw[aJ];omega,i,fun f=>?_⟩;obtain⟨b,d,rfl,o⟩:=m (fun q=>f (by rw[q];simp));refine⟨b,d,rfl,fun j t=>?_⟩;rw[aJ] at t;rw[iB l k j (by omega)];exact o j (by omega)
theorem Rd.drop {α:Type} [Inhabited α] {c:α→Value} {w:World} {a:Option Addr} {n cap:Nat} {l:List α} (h:Rd c w (.slice a n cap) l) (k:Nat) (hk:k≤l.length) :
  Rd c w (.slice (if cap=k then a else a.map (·.add k)) (n-k) (cap-k)) (l.drop k):=by
 obtain⟨u,i,he,v,x,m⟩:=h;injection he with p r s;subst p;subst r;subst s;refine⟨_,_,by rw[aH],by rw[aH];omega,by omega,fun g=>?_⟩;have d:k < l.length:=by
  rcases Nat.lt_or_ge k l.length with q|q
  ·exact q
  ·exact absurd (List.drop_eq_nil_of_le q) g
 obtain⟨b,f,rfl,o⟩:=m (fun q=>by subst q;simp at d);refine⟨b,f+k,by rw[if_neg (by omega)];simp[dB],fun j t=>?_⟩;rw[aH] at t;rw[kD,Nat.add_assoc];exact o _ (by omega)
theorem bR.seq {a b c:World} (h:bR [] a b) (k:bR [] b c):bR [] a c:=h.trans k (by simp) (by simp)
theorem fB.form {α:Type} {c:α→Value} {base:Nat} {e:TypeId} {w:World} {v:Value} {l:List α} (h:fB c base e w v l) (hne:l≠[]) :
  ∃ g k ys,v = .slice (some ⟨g,0,none⟩) l.length k∧base≤g∧cU w g e (l.map c++ys)∧l.length≤k∧k≤maxLen:=by
 obtain⟨r,d⟩:=h;rcases d with⟨_,f⟩|⟨g,a,b,rfl,i,j,m,o,hs,p⟩
 ·exact absurd (List.eq_nil_of_length_eq_zero f) hne
 ·refine⟨g,a,b.toList.drop l.length,rfl,i,?_,m,o⟩;rw[← p,Nat.mul_one,List.take_append_drop];unfold cU;simpa using j
end Go.Proofs.YthgnlfikneipiaaGreat
namespace Go.Proofs.YthgnlfikneipiaaGreat
open Go.ChangeShapes Go.WideShapes Go.ChangeAt Go.RowKit
theorem uD {H:Type} {enc:TypeId×Value→H} {P:Program} (hl:laidOutB P=true) {W W':World} (hb:Below W.heap.size W W') :
  ∀ (ts:List TypeId) (vs:List Value) (ds:List (DataW H)) (ps:List MemPlace),(∀ t∈ts,P.readableRec t=true∧t < P.types.size) →
   DataW.TrodAll enc P W 0 (fun _=>true) true ts vs ds ps→DataW.TrodAll enc P W' 0 (fun b=>decide (b < W.heap.size)) true ts vs ds ps
 | [],[],[],ps,_,h=>h
 | t::ts,v::vs,d::ds,ps,hr,h=>by
  obtain⟨p,q,h1,h2,rfl⟩:=h;have a:∀ x∈p,x.block < W.heap.size:=by obtain⟨m,f⟩:=h1;exact DataW.trod_lt m _ _ _ f
  exact⟨p,q,Below.trod hl (hr t (by simp)).1 (hr t (by simp)).2 h1 hb a,uD hl hb ts vs ds q (fun g c=>hr g (aT _ c)) h2,rfl⟩
 | [],[],_::_,_,_,h|[],_::_,_,_,_,h|_::_,[],_,_,_,h|_::_,_::_,[],_,_,h=>by simp[DataW.TrodAll] at h
theorem zH {H:Type} {enc:TypeId×Value→H} {P:Program} {W:World} {sp:Nat→Bool} :
  ∀ (ts:List TypeId) (vs:List Value) (ds:List (DataW H)) (ps:List MemPlace),DataW.TrodAll enc P W 0 sp true ts vs ds ps→ds.length=ts.length
 | [],[],[],ps,h=>rfl
 | t::ts,v::vs,d::ds,ps,h=>by
  obtain⟨p,q,h1,h2,rfl⟩:=h;simp[zH ts vs ds q h2]
 | [],[],_::_,_,h|[],_::_,_,_,h|_::_,[],_,_,h|_::_,_::_,[],_,h=>by simp[DataW.TrodAll] at h
def a9w (P:Program) (f:FuncId) (fn:Func) (H:Type) (enc:TypeId×Value→H) (k:List (DataW H)→Prop):Prop :=
 ∀ (W:World) (base:Nat) (args:Array Value) (ds:List (DataW H)) (ps:List MemPlace),
  (∀ (j:Nat) t v,fn.params[j]?=some t→args[j]?=some v→Value.okWide P W .any base t v) →
  DataW.TrodAll enc P W 0 (fun _=>true) true fn.params.toList args.toList ds ps →
  (DataW.weightsEach P fn.params.toList ds).all (·≤reachBytes)=true→k ds →
  Calls P f args W fun e W'=>e = .returned (.bool true)∧bR [] W W'
theorem c6z {H:Type} {enc:TypeId×Value→H} {P:Program} {fn:Func} {s:ChangeSpec} (hl:laidOutB P=true) (hr:∀ t∈fn.params.toList,P.readableRec t=true∧t < P.types.size)
  (hs:s.vars=[]) (tb:TypeId) (hres:fn.resultTypes=#[tb]) (hb:P.underlying tb=some .bool)
  (hfn:∀ (ds:List (DataW H)),ds.length=fn.params.size→(s.fn H ds).results=[.lit (.bool true)]∧(s.fn H ds).args=ds∧(s.fn H ds).vars=[])
  {W W':World} {args:Array Value} {ds gs:List (DataW H)} {before:List MemPlace}
  (hW:DataW.Whole enc P fn.params.toList s.vars false W args.toList ds gs before) (hu:bR [] W W') :
  s.post enc P fn false true false false W args (.bool true) W':=by
 have b:=hW;obtain⟨p,q,c,d,rfl,f,g⟩:=hW;have a:=zH _ _ _ _ c;rw[hs] at d;obtain⟨rfl,rfl⟩:=trodVars_none d;obtain⟨i,j,l⟩:=hfn ds (by simpa using a);refine⟨ds,[],p++[],[],p,[],b,?_,?_,?_,hu.below.frame _,fun h=>by cases h⟩
 ·rw[bA,i,hres];exact trodAll_mk1 (shut_bool hb _)
 ·rw[bA,j];exact uD hl hu.below _ _ _ _ hr c
 ·rw[bA,l,hs];rfl
theorem c7a {C:Checked} {os:Os} {f:FuncId} {fn:Func} {s:ChangeSpec} {H:Type} {enc:TypeId×Value→H}
  (own:ownKnob C.prog.godebug=none) (started:os.Started) (noInit:C.prog.inits.idxOf? f=none) (hf:C.prog.funcs[f]?=some fn)
  (witness:∃ (w:World) (tape:Tape) (i:Input),w.os=os∧(w.forCall tape i).Shaped C.prog∧i.vars=[]∧Input.okWide C.prog (w.forCall tape i) .any w.heap.size f i ∧
   s.pre6 enc C.prog fn [] false (w.forCall tape i).memory i.args∧({}:Assume).holds C.prog (lone (Frame.enter C.prog f i.args .normal) [] (w.forCall tape i)))
  (hl:laidOutB C.prog=true) (hr:∀ t∈fn.params.toList,C.prog.readableRec t=true∧t < C.prog.types.size)
  (hs:s.vars=[]) (tb:TypeId) (hres:fn.resultTypes=#[tb]) (hb:C.prog.underlying tb=some .bool)
  (hfn:∀ (ds:List (DataW H)),ds.length=fn.params.size→(s.fn H ds).results=[.lit (.bool true)]∧(s.fn H ds).args=ds∧(s.fn H ds).vars=[])
  (walk:a9w C.prog f fn H enc (fun _=>True)) :
  ReturnsInHanded {} C os f .any (s.pre6 enc C.prog fn [] false) (s.post enc C.prog fn false true false false):=by
 refine returnsInHanded_of_change_sized own started noInit hf witness ?_;intro W b args ds u g c hW v d x;have h:=hW;obtain⟨p,q,l,m,rfl,o,r⟩:=h;have a:=m;rw[hs] at a;obtain⟨rfl,rfl⟩:=trodVars_none a;have j:s.plain.varTypes C.prog=[]:=by unfold DataSpec.varTypes;show List.filterMap _ s.vars=[];rw[hs];rfl
 rw[j,bA,bA] at d;refine(walk W b args ds p c l d trivial).mono fun e W' ⟨he,hu⟩=>?_
 subst he;exact⟨_,rfl,c6z hl hr hs tb hres hb hfn hW hu⟩
end Go.Proofs.YthgnlfikneipiaaGreat
namespace Go.Proofs.YthgnlfikneipiaaGreat
open Go.ChangeShapes Go.WideShapes Go.ChangeAt Go.RowKit Go.Deep
open Go.ChangeMaps (open_string shut_string)
theorem a9x {α:Type} [Inhabited α] (n:Nat) (p:Nat→α→Prop) (h:∀ i,i < n→∃ x,p i x):∃ l:List α,l.length=n∧∀ i,i < n→p i (bT l i):=by
 induction n with
 | zero=>exact⟨[],rfl,fun i a=>absurd a (by omega)⟩
 | succ n ih =>
  obtain⟨l,b,c⟩:=ih (fun i a=>h i (by omega));obtain⟨x,d⟩:=h n (by omega);refine⟨l++[x],by simp[b],fun i a=>?_⟩;by_cases e:i=n
  ·subst e;rw[xM _ _ x (by rw[List.getElem?_append_right (by omega)];simp[b])];exact d
  ·rw[xM _ _ (bT l i) (by rw[bE (by omega),cO l i (by omega)];exact aO (by omega))];exact c i (by omega)
def e5l {H:Type} (d:DataW H) (n:Nat):Prop:=n=0∨∃ es sp,d = .slice es sp∧es.length=n
section
variable {H : Type} {enc : TypeId × Value → H} {P : Program} {w : World} {b0 : Nat} {held : Bool}
theorem d4u {α:Type} [Inhabited α] (c:α→Value) (good:α→Prop) {t e:TypeId} {v:Value} {d:DataW H} {p:List MemPlace} (ht:P.underlying t=some (.slice e)) (hc:P.cellsOf e=1)
  (hel:∀ n v y,DataW.trod enc P w 0 (fun _=>true) held n e [v]=some y→∃ x,v=c x∧good x)
  (hval:Value.okWide P w .any b0 t v) (h:DataW.Trod enc P w 0 (fun _=>true) held t v d p) :
  ∃ l:List α,Rd c w v l∧(∀ x∈l,good x)∧(∀ (ts:List TypeId) (ds:List (DataW H)) (j:Nat),(DataW.weightsEach P ts ds).all (·≤reachBytes)=true→ts[j]?=some t→ds[j]?=some d→l.length*P.bytesOf e≤reachBytes)∧e5l d l.length:=by
 obtain⟨U,len0,L,rfl⟩:=okWide_slice ht hval;obtain⟨M,R⟩:=h;rcases open_slice1 ht hc R with⟨f,F⟩|⟨a,len,S,m,n,V,D,W,f,X,Y,T,B,F,G⟩
 ·simp[Value.cells] at f;obtain⟨rfl,rfl,rfl⟩:=f;exact⟨[],Rd.nil w,by simp,by intros;simp,.inl rfl⟩
 ·simp[Value.cells] at f;obtain⟨rfl,rfl,rfl⟩:=f;simp only[if_true] at B;subst B;obtain⟨l,o,N⟩:=a9x len0 (fun i x=>V i=c x∧good x) (fun i u=>hel _ _ _ (G i (by omega)).2);refine⟨l,?_,?_,?_,?_⟩
  ·refine⟨_,_,by rw[o],by omega,T,fun I=>?_⟩;have J:0 < len0:=by rw[← o];exact List.length_pos_iff.2 I
   obtain⟨b,r,s⟩:=a;have g:s=none:=by simpa [Addr.add] using World.cell?_spot (G 0 (by omega)).1
   subst g;refine⟨b,r,rfl,fun j Z=>?_⟩;have K:=(G j (by omega)).1;have O:=N j (by omega);have Q:(⟨b,r,none⟩:Addr).add j=⟨b,r+j,none⟩:=by unfold Addr.add;split<;>simp_all
   rw[Q,O.1] at K;exact K
  ·intro x C;obtain⟨i,u,rfl⟩:=List.mem_iff_getElem.1 C;have:=(N i (by omega)).2;rwa[cO l i u] at this
  ·intro ts ds j z E A;have hd:=congrArg Prod.fst F;simp only at hd;rw[hd] at A;have:=sized_slice z E A ht;simp only[aP,List.length_range] at this;exact aL (bO _ (by omega)) this
  ·exact .inr ⟨_,_,congrArg Prod.fst F,by simp[o]⟩
theorem e0t {k:IntKind} {e:TypeId} (he:P.underlying e=some (.int k)) (n:Nat) (v:Value) (y:DataW H×List MemPlace) (h:DataW.trod enc P w 0 (fun _=>true) held n e [v]=some y) :
  ∃ x:Int,v = .int k x∧(Lit.int k x).wf=true:=by
 cases n with
 | zero=>simp[DataW.trod] at h
 | succ n =>
  simp only[DataW.trod,he] at h;cases v<;>simp at h;rename_i b x;obtain⟨⟨rfl,a⟩,c⟩:=h;exact⟨x,rfl,a⟩
theorem d4v {e:TypeId} (he:P.underlying e=some (.int .u8)) (n:Nat) (v:Value) (y:DataW H×List MemPlace) (h:DataW.trod enc P w 0 (fun _=>true) held n e [v]=some y) :
  ∃ x:UInt8,v=bv x∧True:=by
 obtain⟨x,rfl,a⟩:=e0t he n v y h;have b:0≤x∧x≤255:=by simpa [Lit.wf,IntKind.min,IntKind.max,IntKind.signed,IntKind.bits] using a
 refine⟨UInt8.ofNat x.toNat,?_,trivial⟩;have:(UInt8.ofNat x.toNat).toNat=x.toNat:=by simp;omega
 rw[bv,this];congr 1;omega
theorem b5c {t e:TypeId} {v:Value} {d:DataW H} {p:List MemPlace} (ht:P.underlying t=some (.slice e)) (he:P.underlying e=some (.int .u8)) (hc:P.cellsOf e=1) (hby:P.bytesOf e=1)
  (hval:Value.okWide P w .any b0 t v) (h:DataW.Trod enc P w 0 (fun _=>true) held t v d p) :
  ∃ l:List UInt8,eQ w v l∧(∀ (ts:List TypeId) (ds:List (DataW H)) (j:Nat),(DataW.weightsEach P ts ds).all (·≤reachBytes)=true→ts[j]?=some t→ds[j]?=some d→l.length≤140737488351232)∧e5l d l.length:=by
 obtain⟨l,f,_,g,i⟩:=d4u bv (fun _=>True) ht hc (d4v he) hval h;refine⟨l,f,fun ts ds j a b c=>?_,i⟩;have:=g ts ds j a b c;rw[hby,Nat.mul_one] at this;exact this
abbrev iv (x:Int):Value := .int .i64 x
def gR (x:Int):Prop := -9223372036854775808≤x∧x≤9223372036854775807
theorem e0u {x:Int} (h:(Lit.int .i64 x).wf=true):gR x:=by simpa [gR,Lit.wf,IntKind.min,IntKind.max,IntKind.signed,IntKind.bits] using h
theorem a9y {t:TypeId} {v:Value} {d:DataW H} {p:List MemPlace} (ht:P.underlying t=some (.int .i64)) (hval:Value.okWide P w .any b0 t v) (h:DataW.Trod enc P w 0 (fun _=>true) held t v d p) :
  ∃ x:Int,v=iv x∧gR x:=by
 obtain⟨a,rfl,_,_,b⟩:=open_int ht hval h;exact⟨a,rfl,e0u b⟩
end
end Go.Proofs.YthgnlfikneipiaaGreat
namespace Go.Eng
structure GI where
 g:Nat
 cap:Nat
 sz:Nat
 off:Nat
 v:Value
abbrev GM:=Nat→Option GI
def lK (G G':GM):Prop:=∀ i x,G i=some x→G' i=some x
structure cJ (O:Nat→Prop) (w w':World):Prop where
 os:w'.os=w.os
 tape:w'.tape=w.tape
 output:w'.output=w.output
 size:w.heap.size≤w'.heap.size
 block:∀ k,k < w.heap.size→¬ O k→w'.heap[k]?=w.heap[k]?
class fP where
 ν:Nat→Int
 gx:Nat→World→List Value→(Nat→Prop)→Prop
 b:Nat
 gm:∀ {k:Nat} {w w':World} {us:List Value} {F S:Nat→Prop},gx k w us F→cJ S w w'→(∀ x,F x→¬ S x)→(∀ x,S x→b≤x)→gx k w' us F
structure eK where
 c:Int
 ts:List (Nat×Int)
 deriving Inhabited,DecidableEq
abbrev Bd:=List (Int×Int)
def bT {α}:List α→Nat→Option α
 | [],_=>none
 | x::_,0=>some x
 | _::l,n+1=>bT l n
def c3c (i:Nat) (a:Int):List (Nat×Int)→List (Nat×Int)
 | []=>[(i,a)]
 | (j,b)::l=>bif Nat.beq i j then (bif decide (a+b=0) then l else (i,a+b)::l) else bif Nat.blt i j then (i,a)::(j,b)::l else (j,b)::c3c i a l
def b5d (s:Int):List (Nat×Int)→List (Nat×Int)→List (Nat×Int)
 | [],m=>m
 | (i,a)::l,m=>c3c i (s*a) (b5d s l m)
def eK.add (x y:eK):eK:=⟨x.c+y.c,b5d 1 x.ts y.ts⟩
def eK.sub (x y:eK):eK:=⟨x.c-y.c,b5d (-1) y.ts x.ts⟩
def d4w (bd:Bd):List (Nat×Int)→Option (Int×Int)
 | []=>some (0,0)
 | (i,a)::l=>(bT bd i).bind fun p=>(d4w bd l).map fun q=>bif decide (0≤a) then (a*p.1+q.1,a*p.2+q.2) else (a*p.2+q.1,a*p.1+q.2)
def eK.bnd (bd:Bd) (x:eK):Option (Int×Int):=(d4w bd x.ts).map fun p=>(x.c+p.1,x.c+p.2)
def eK.inK (bd:Bd) (k:IntKind) (x:eK):Bool:=match x.bnd bd with
 | some p=>decide (k.min≤p.1)&&decide (p.2≤k.max)
 | none=>false
def eK.lt (bd:Bd) (x y:eK):Option Bool:=match (x.sub y).bnd bd with
 | some p=>bif decide (p.2 < 0) then some true else bif decide (0≤p.1) then some false else none
 | none=>none
def eK.eq (bd:Bd) (x y:eK):Option Bool:=match (x.sub y).bnd bd with
 | some p=>bif decide (p.2 < 0)||decide (0 < p.1) then some false else bif decide (p.1=0)&&decide (p.2=0) then some true else none
 | none=>none
def oI (d:Int):List (Nat×Int)→List (Nat×Int)×List (Nat×Int)
 | []=>([],[])
 | (i,a)::l=>bif decide (a % d=0) then ((i,a / d)::(oI d l).1,(oI d l).2) else ((oI d l).1,(i,a)::(oI d l).2)
def eK.dm (bd:Bd) (d:Int) (x:eK):Option (eK×eK) :=
 let q:eK:=⟨x.c / d,(oI d x.ts).1⟩
 let r:eK:=⟨x.c % d,(oI d x.ts).2⟩
 match r.bnd bd with
 | some p=>bif decide (0 < d)&&decide (0≤p.1)&&decide (p.2 < d) then some (q,r) else none
 | none=>none
section
variable [V : fP]
def gX:List (Nat×Int)→Int
 | []=>0
 | (i,a)::l=>a*V.ν i+gX l
def eK.val (x:eK):Int:=x.c+gX x.ts
def BD (bd:Bd):Prop:=∀ i p,bT bd i=some p→p.1≤V.ν i∧V.ν i≤p.2
theorem a1f (i:Nat) (a:Int):∀ l,gX (c3c i a l)=a*V.ν i+gX l
 | []=>rfl
 | (j,b)::l=>by
  simp only[c3c];cases h:Nat.beq i j
  ·cases h2:Nat.blt i j
   ·show b*V.ν j+gX (c3c i a l)=_;rw[a1f i a l];simp only[gX];omega
   ·rfl
  ·have:=aC h;subst this;have e:(a+b)*V.ν i=a*V.ν i+b*V.ν i:=Int.add_mul a b _;cases h2:decide (a+b=0)
   ·show (a+b)*V.ν i+gX l=_;simp only[gX];omega
   ·have c:=bI h2;rw[c] at e;show gX l=_;simp only[gX];omega
theorem vQ (s:Int):∀ l m,gX (b5d s l m)=s*gX l+gX m
 | [],m=>by simp[b5d,gX]
 | (i,a)::l,m=>by
  simp only[b5d,a1f,gX,vQ s l m,Int.mul_add,Int.mul_assoc];omega
theorem eK.val_add (x y:eK):(x.add y).val=x.val+y.val:=by
 simp only[eK.val,eK.add,vQ];omega
theorem eK.val_sub (x y:eK):(x.sub y).val=x.val-y.val:=by
 simp only[eK.val,eK.sub,vQ];omega
theorem b9n {bd:Bd} (h:BD bd):∀ {l:List (Nat×Int)} {p:Int×Int},d4w bd l=some p→p.1≤gX l∧gX l≤p.2
 | [],p,e=>by cases e;exact⟨Int.le_refl _,Int.le_refl _⟩
 | (i,a)::l,p,e=>by
  simp only[d4w] at e;obtain⟨q,h1,h2⟩:=aA.1 e;obtain⟨r,j,d⟩:=aB.1 h2;have c:=h i q h1;have m:=b9n h j;simp only[gX];cases hd:decide (0≤a)<;>rw[hd] at d<;>subst d
  ·have b:a≤0:=by have:=of_decide_eq_false hd;omega
   have f:=Int.mul_le_mul_of_nonpos_left b c.1;have g:=Int.mul_le_mul_of_nonpos_left b c.2;exact⟨by show a*q.2+r.1≤_;omega,by show _≤a*q.1+r.2;omega⟩
  ·have b:=bI hd;have f:=Int.mul_le_mul_of_nonneg_left c.1 b;have g:=Int.mul_le_mul_of_nonneg_left c.2 b;exact⟨by show a*q.1+r.1≤_;omega,by show _≤a*q.2+r.2;omega⟩
theorem eK.bnd_ok {bd:Bd} (h:BD bd) {x:eK} {p:Int×Int} (e:x.bnd bd=some p):p.1≤x.val∧x.val≤p.2:=by
 obtain⟨q,a,rfl⟩:=aB.1 e;have:=b9n h a;simp only[eK.val];exact⟨by show x.c+q.1≤_;omega,by show _≤x.c+q.2;omega⟩
theorem d4x (k:IntKind) (x:Int) (h1:k.min≤x) (h2:x≤k.max):k.wrap x=x:=by
 cases k<;>simp[IntKind.min,IntKind.max,IntKind.signed,IntKind.bits] at h1 h2<;>simp[IntKind.wrap,IntKind.signed,IntKind.bits]<;>omega
theorem eK.inK_ok {bd:Bd} (h:BD bd) {k:IntKind} {x:eK} (e:x.inK bd k=true):k.wrap x.val=x.val:=by
 unfold eK.inK at e;split at e
 ·rename_i p a;rw[aD] at e;have:=eK.bnd_ok h a;have b:=bI e.1;have c:=bI e.2;exact d4x k _ (by omega) (by omega)
 ·cases e
theorem a1g (d:Int):∀ l,gX l=d*gX (oI d l).1+gX (oI d l).2
 | []=>by simp[oI,gX]
 | (i,a)::l=>by
  have ih:=a1g d l;simp only[oI];cases h:decide (a % d=0)
  ·simp only[cond_false,gX];omega
  ·have f:=bI h;have b:a=d*(a / d):=by have:=Int.mul_ediv_add_emod a d;omega
   simp only[cond_true,gX];have c:a*V.ν i=d*(a / d*V.ν i):=by
    rw[← Int.mul_assoc,← b]
   rw[c,ih,Int.mul_add];omega
theorem eK.dm_ok {bd:Bd} (h:BD bd) {d:Int} {x q r:eK} (e:x.dm bd d=some (q,r)):0 < d∧x.val=d*q.val+r.val∧0≤r.val∧r.val < d:=by
 unfold eK.dm at e;dsimp only at e;split at e
 ·rename_i p b;cases a:decide (0 < d)&&decide (0≤p.1)&&decide (p.2 < d)<;>rw[a] at e<;>cases e;simp only[aD,decide_eq_true_eq] at a;have f:=eK.bnd_ok h b;refine⟨a.1.1,?_,by omega,by omega⟩;simp only[eK.val];rw[a1g d x.ts,Int.mul_add];have:=Int.mul_ediv_add_emod x.c d;omega
 ·cases e
theorem b9o {d x q r:Int} (h:0 < d) (e:x=d*q+r) (h0:0≤r) (h1:r < d):x.fdiv d=q∧x % d=r:=by
 subst e;refine⟨?_,?_⟩
 ·rw[Int.fdiv_eq_ediv_of_nonneg _ (by omega),Int.mul_add_ediv_left _ _ (by omega),Int.ediv_eq_zero_of_lt h0 h1];omega
 ·rw[Int.mul_add_emod_self_left,Int.emod_eq_of_lt h0 h1]
theorem eK.lt_ok {bd:Bd} (h:BD bd) {x y:eK} {b:Bool} (e:x.lt bd y=some b):b=decide (x.val < y.val):=by
 unfold eK.lt at e;split at e
 ·rename_i p d;have:=eK.bnd_ok h d;rw[eK.val_sub] at this;cases a:decide (p.2 < 0)<;>rw[a] at e
  ·cases c:decide (0≤p.1)<;>rw[c] at e
   ·cases e
   ·cases e;have:=bI c;exact(decide_eq_false (by omega)).symm
  ·cases e;have:=bI a;exact(decide_eq_true (by omega)).symm
 ·cases e
theorem eK.eq_ok {bd:Bd} (h:BD bd) {x y:eK} {b:Bool} (e:x.eq bd y=some b):b=(x.val==y.val):=by
 unfold eK.eq at e;split at e
 ·rename_i p d;have:=eK.bnd_ok h d;rw[eK.val_sub] at this;cases a:decide (p.2 < 0)||decide (0 < p.1)<;>rw[a] at e
  ·cases c:decide (p.1=0)&&decide (p.2=0)<;>rw[c] at e
   ·cases e
   ·cases e;simp only[aD,decide_eq_true_eq] at c;exact(beq_iff_eq.2 (by omega)).symm
  ·cases e;simp only[Bool.or_eq_true,decide_eq_true_eq] at a;exact(bJ.2 (by omega)).symm
 ·cases e
end
inductive AV where
 | int (k:IntKind) (n:Int)
 | sym (k:IntKind) (e:eK)
 | bool (b:Bool)
 | str (s:ByteArray)
 | ptr (i off:Nat)
 | nilp
 | slk (i off n c:Nat)
 | slc (i o n:Nat)
 | nils
 | mp (i:Nat)
 | fn (f:FuncId)
 | clo (f:FuncId) (i off:Nat)
 | ext (v:Value)
 | opq (i:Nat)
 | opl (i:Nat) (e:eK)
 | agg (cs:List AV)
 | tup (vs:List AV)
 deriving Inhabited
inductive cU where
 | dead
 | row (e:TypeId) (cs:List AV)
 | gro (e:TypeId) (sz:Nat) (cs:List AV)
 | fro (e:TypeId) (cs:List AV)
 | mp (es:List (Int×AV)) (clock:Nat)
 | gho (k:Nat) (az:List AV)
 deriving Inhabited
inductive TK where
 | other|struct|array|slice|str|bool|ptr|map|smap|chan
 | int (k:IntKind)
 deriving Inhabited
def TK.agg:TK→Bool
 | .struct | .array=>true
 | _=>false
def TK.arr:TK→Bool
 | .array=>true
 | _=>false
def TK.sl:TK→Bool
 | .slice=>true
 | _=>false
def TK.isStr:TK→Bool
 | .str=>true
 | _=>false
def TK.mp:TK→Bool
 | .map=>true
 | _=>false
def TK.smp:TK→Bool
 | .smap=>true
 | _=>false
def TK.ch:TK→Bool
 | .chan=>true
 | _=>false
def TK.st:TK→Bool
 | .struct=>true
 | _=>false
structure TI where
 tk:TK
 n:Nat
 z:List AV
 el:Nat
 es:Nat
 ez:List AV
 by_:Nat
 eint:Bool
 eu8:Bool
 sint:Bool
 len:Nat
 fs:List (Nat×Nat×Bool)
 deriving Inhabited
inductive TT where
 | leaf
 | node (k:Nat) (ti:TI) (l r:TT)
 deriving Inhabited
def TT.get:TT→Nat→Option TI
 | .leaf,_=>none
 | .node k ti l r,t=>bif Nat.beq t k then some ti else bif Nat.blt t k then l.get t else r.get t
abbrev Fr:=List (Nat×AV)
abbrev Hp:=List (Nat×cU)
structure St where
 F:Fr
 H:Hp
 nx:Nat
 orc:List Bool
 obs:List Prop
inductive Ex where
 | normal|exit (id:Nat)|ret
structure iU where
 tt:Nat→Option TI
 body:FuncId→Option Func
 bd:Bd
 hk:FuncId→List AV→St→Option (AV×St)
 cv:TypeId→TypeId→Nat→St→Option (AV×St)
def cK {α}:List (Nat×α)→Nat→Option α
 | [],_=>none
 | (k,x)::l,i=>bif Nat.beq i k then some x else cK l i
def b9p (cs:List AV) (off:Nat) (vs:List AV):List AV:=cs.take off++vs++cs.drop (off+vs.length)
def c7b:Value→AV
 | .int k n => .int k n
 | .bool b => .bool b
 | .string s => .str s
 | .pointer none => .nilp
 | .slice none 0 0 => .nils
 | v => .ext v
def d4y:List Value→List AV
 | []=>[]
 | v::l=>c7b v::d4y l
def c7c:Value→AV
 | .agg cs => .agg (d4y cs.toList)
 | v=>c7b v
def mJ (F:Fr) (t:Nat):AV:=(cK F t).getD (.tup [])
def ev (F:Fr):Operand→AV
 | .tmp t=>mJ F t
 | .const v=>c7c v
 | .global g => .ext (.pointer (some ⟨g,0,none⟩))
 | .func f => .fn f
def AV.cells:AV→List AV
 | .agg cs=>cs
 | v=>[v]
def cmp (op:BinOp) (x y:Int):Option Bool :=
 match op with
 | .eql=>some (x==y) | .neq=>some (x != y) | .lss=>some (decide (x < y)) | .leq=>some (decide (x≤y)) | .gtr=>some (decide (x > y)) | .geq=>some (decide (x≥y))
 | _=>none
def a4s (op:BinOp) (k:IntKind) (x y:Int):Option Int :=
 match op with
 | .add=>some (k.wrap (x+y)) | .sub=>some (k.wrap (x-y)) | .mul=>some (k.wrap (x*y))
 | .quo=>bif y==0 then none else some (k.wrap (x.tdiv y))
 | .rem=>bif y==0 then none else some (x.tmod y)
 | .shl=>bif decide (y < 0) then none else some (k.wrap (x*2 ^ (min y.toNat k.bits)))
 | .shr=>bif decide (y < 0) then none else some (x.fdiv (2 ^ (min y.toNat k.bits)))
 | .and=>some (k.wrap (BitVec.ofInt k.bits x &&& BitVec.ofInt k.bits y).toNat)
 | .or=>some (k.wrap (BitVec.ofInt k.bits x ||| BitVec.ofInt k.bits y).toNat)
 | .xor=>some (k.wrap (BitVec.ofInt k.bits x ^^^ BitVec.ofInt k.bits y).toNat)
 | _=>none
def AV.num:AV→Option (IntKind×eK)
 | .int k n=>some (k,⟨n,[]⟩)
 | .sym k e=>some (k,e)
 | _=>none
def eK.kn (x:eK):Bool:=match x.ts with
 | []=>true
 | _=>false
def uE (k:IntKind) (e:eK):AV:=match e.ts with
 | [] => .int k e.c
 | _ => .sym k e
def e0v (bd:Bd) (op:BinOp) (x y:eK):Option Bool :=
 match op with
 | .eql=>x.eq bd y
 | .neq=>(x.eq bd y).map (!·)
 | .lss=>x.lt bd y
 | .leq=>(y.lt bd x).map (!·)
 | .gtr=>y.lt bd x
 | .geq=>(x.lt bd y).map (!·)
 | _=>none
def b5e (bd:Bd) (op:BinOp) (k:IntKind) (x y:eK):Option eK :=
 match op with
 | .add=>bif (x.add y).inK bd k then some (x.add y) else none
 | .sub=>bif (x.sub y).inK bd k then some (x.sub y) else none
 | .shr=>bif y.kn&&decide (0≤y.c) then (x.dm bd (2 ^ (min y.c.toNat k.bits))).map (·.1) else none
 | _=>none
def c7d (bd:Bd) (k:IntKind) (e:eK):Option AV :=
 bif e.kn then some (.int k (k.wrap e.c)) else bif e.inK bd k then some (.sym k e) else bif !k.signed then (e.dm bd (2 ^ k.bits)).map fun p=>uE k p.2 else none
def eq1:TK→AV→AV→Option Bool
 | .bool,.bool a,.bool b=>some (a==b)
 | .ptr,.nilp,.nilp=>some true
 | .ptr,.ptr ..,.nilp=>some false
 | .slice,.nils,.nils=>some true
 | .slice,.slc ..,.nils=>some false
 | .slice,.slk ..,.nils=>some false
 | _,_,_=>none
def xN (bd:Bd):List AV→List AV→Option Bool
 | [],[]=>some true
 | a::l,b::m=>match a.num,b.num with
  | some (k,x),some (k',y)=>bif !(k==k') then none else
   (bif x.kn&&y.kn then some (x.c==y.c) else x.eq bd y).bind fun t=>bif t then xN bd l m else some false
  | _,_=>none
 | _,_=>none
def c7e (op:BinOp) (b:Bool):Option Bool :=
 match op with
 | .eql=>some b
 | .neq=>some (!b)
 | _=>none
def c7f (bd:Bd) (ti:TI) (op:BinOp) (x y:AV):Option AV :=
 match x.num,y.num with
 | some (k,a),some (k',b) =>
  bif (k==k')||(op == .shl)||(op == .shr) then
  (bif a.kn&&b.kn then (match cmp op a.c b.c with
    | some t=>some (.bool t)
    | none=>(a4s op k a.c b.c).map fun c => .int k c)
   else bif k==k' then (match e0v bd op a b with
    | some t=>some (.bool t)
    | none=>(b5e bd op k a b).map fun z=>uE k z) else none)
  else none
 | _,_ =>
 match x,y with
 | .str a,.str b=>match op with
  | .eql=>some (.bool (a.data.toList==b.data.toList))
  | .neq=>some (.bool (!(a.data.toList==b.data.toList)))
  | .lss=>some (.bool (Op.bytesLess a.data.toList b.data.toList))
  | .geq=>some (.bool (!Op.bytesLess a.data.toList b.data.toList))
  | _=>none
 | .agg a,.agg b=>bif (ti.tk.arr&&ti.eint&&Nat.beq ti.es 1&&Nat.beq a.length ti.len&&Nat.beq b.length ti.len)||(ti.sint&&Nat.beq a.length ti.n&&Nat.beq b.length ti.n) then (xN bd a b).bind fun r=>(c7e op r).map fun t => .bool t else none
 | a,b=>(eq1 ti.tk a b).bind fun t=>(c7e op t).map fun t => .bool t
def gY:AV→Bool
 | .ext v=>v.oneCell'
 | .agg _ | .tup _=>false
 | _=>true
def a4t (place:Nat→Option (Nat×Nat)):List AV→List (Nat×AV)→Option (List AV)
 | z,[]=>some z
 | z,(i,v)::r=>(place i).bind fun p=>bif v.cells.all gY&&Nat.beq v.cells.length p.2&&Nat.ble (p.1+p.2) z.length then a4t place (b9p z p.1 v.cells) r else none
def rep (z:List AV):Nat→List AV
 | 0=>[]
 | n+1=>z++rep z n
def evs (F:Fr):List (Nat×Operand)→List (Nat×AV)
 | []=>[]
 | (i,o)::l=>(i,ev F o)::evs F l
def evl (F:Fr):List Operand→List AV
 | []=>[]
 | o::l=>ev F o::evl F l
def cU.cs:cU→List AV
 | .row _ cs=>cs
 | .gro _ _ cs=>cs
 | .fro _ cs=>cs
 | _=>[]
def one:List AV→Option AV
 | [v]=>some v
 | _=>none
def part (a:Bool) (n:Nat) (cs:List AV):Option AV :=
 bif Nat.beq cs.length n then (bif a then some (.agg cs) else one cs) else none
def a1h (H:Hp) (ti:TI) (i off:Nat):Option AV :=
 bif Nat.blt 0 ti.n then (cK H i).bind fun b=>part ti.tk.agg ti.n ((b.cs.drop off).take ti.n) else none
def cU.put (b:cU) (off:Nat) (vs:List AV):Option cU :=
 bif Nat.ble (off+vs.length) b.cs.length then
  match b with
  | .row e cs=>some (.row e (b9p cs off vs))
  | .gro e sz cs=>some (.gro e sz (b9p cs off vs))
  | _=>none
 else none
def oJ (H:Hp) (i off:Nat) (vs:List AV):Option Hp :=
 (cK H i).bind fun b=>(b.put off vs).map fun b=>(i,b)::H
def nU:AV→Option Nat
 | .int _ (.ofNat n)=>some n
 | _=>none
def opN (F:Fr) (d:Nat):Option Operand→Option Nat
 | none=>some d
 | some o=>nU (ev F o)
def cU.holds (b:cU) (sz o n:Nat):Bool :=
 match b with
 | .gro _ s cs=>Nat.beq s sz&&Nat.ble ((o+n)*sz) cs.length
 | .fro _ cs=>Nat.beq 1 sz&&Nat.ble (o+n) cs.length
 | _=>false
def holds (H:Hp) (i sz o n:Nat):Bool :=
 match cK H i with
 | some b=>b.holds sz o n
 | none=>false
def a0d (n:Int) (a:AV):List (Int×AV)→List (Int×AV)
 | []=>[(n,a)]
 | (k,b)::l=>bif decide (n=k) then (k,a)::l else (k,b)::a0d n a l
def c7g (n:Int):List (Int×AV)→Option AV
 | []=>none
 | (k,b)::l=>bif decide (n=k) then some b else c7g n l
def a6q (E:iU) (t:TypeId) (m k x:AV) (S:St):Option (AV×St) :=
 (E.tt t).bind fun ti=>bif ti.tk.mp&&gY x then (match m,k with
  | .mp i,.int .i64 n=>match cK S.H i with
   | some (.mp es _)=>some (.tup [],{ S with H:=(i,.mp (a0d n x es) (a0d n x es).length)::S.H })
   | _=>none
  | _,_=>none) else bif ti.tk.smp&&gY x then (match m,k with
  | .mp i,.agg cs=>match cK S.H i with
   | some (.mp [] _)=>bif Nat.beq cs.length ti.len&&cs.all gY then some (.tup [],{ S with H:=(i,.dead)::S.H }) else none
   | _=>none
  | _,_=>none) else none
def b5f (E:iU) (t:TypeId) (m k:AV) (S:St):Option AV :=
 (E.tt t).bind fun ti=>bif ti.tk.mp then (match m,k with
  | .mp i,.int .i64 n=>match cK S.H i with
   | some (.mp es _)=>match c7g n es with
    | some a=>some a
    | none=>one ti.ez
   | _=>none
  | _,_=>none) else bif ti.tk.smp then (match m,k with
  | .mp i,.agg cs=>match cK S.H i with
   | some (.mp [] _)=>bif Nat.beq cs.length ti.len&&cs.all gY then one ti.ez else none
   | _=>none
  | _,_=>none) else none
def oX (H:Hp) (es:Nat):AV→Option (List AV)
 | .nils=>some []
 | .slk i off n _=>(cK H i).bind fun b =>
  let cs:=(b.cs.drop off).take (n*es)
  bif Nat.beq cs.length (n*es) then some cs else none
 | .slc i o n=>bif holds H i es o n then (cK H i).bind fun b=>some ((b.cs.drop (o*es)).take (n*es)) else none
 | _=>none
def mU:AV→Option Nat
 | .nils=>some 0
 | .slk _ _ n _=>some n
 | .slc _ _ n=>some n
 | _=>none
def u8s:List AV→Option (List UInt8)
 | []=>some []
 | .int .u8 (.ofNat n)::l=>bif Nat.blt n 256 then (u8s l).map (UInt8.ofNat n::·) else none
 | _=>none
def qU (E:iU) (o:Op) (S:St):Option (AV×St) :=
 match o with
 | .move x | .assign x=>some (ev S.F x,S)
 | .pick c a b=>match ev S.F c with
  | .bool t=>some (bif t then ev S.F a else ev S.F b,S)
  | _=>none
 | .alloc t=>(E.tt t).bind fun ti=>some (.ptr S.nx 0,{ S with H:=(S.nx,.row t ti.z)::S.H,nx:=S.nx+1 })
 | .box t x=>bif (ev S.F x).cells.all gY then some (.ptr S.nx 0,{ S with H:=(S.nx,.row t (ev S.F x).cells)::S.H,nx:=S.nx+1 }) else none
 | .build t ps=>(E.tt t).bind fun ti=>bif ti.tk.agg then
   (a4t (fun i=>bif ti.tk.arr then some (i*ti.es,ti.es) else (bT ti.fs i).map fun p=>(p.1,p.2.1)) ti.z (evs S.F ps.toList)).map fun cs=>(.agg cs,S) else none
 | .buildSlice t n ps=>(E.tt t).bind fun ti=>bif ti.tk.sl&&Nat.ble (n*ti.es) 16777216&&Nat.blt 0 ti.es then
   (a4t (fun i=>some (i*ti.es,ti.es)) (rep ti.ez n) (evs S.F ps.toList)).map fun cs=>(.slk S.nx 0 n n,{ S with H:=(S.nx,.row ti.el cs)::S.H,nx:=S.nx+1 }) else none
 | .load t x=>match ev S.F x with
  | .ptr i off=>(E.tt t).bind fun ti=>(a1h S.H ti i off).map fun u=>(u,S)
  | _=>none
 | .store t x y=>match ev S.F x with
  | .ptr i off=>(E.tt t).bind fun ti=>let vs:=(ev S.F y).cells
   bif Nat.beq vs.length ti.n&&Nat.blt 0 ti.n&&vs.all gY then (oJ S.H i off vs).map fun h=>(.tup [],{ S with H:=h }) else none
  | _=>none
 | .nilCheck x=>match ev S.F x with
  | .ptr i off=>some (.ptr i off,S)
  | _=>none
 | .binOp op t x y _=>(E.tt t).bind fun ti=>(c7f E.bd ti op (ev S.F x) (ev S.F y)).map fun r=>(r,S)
 | .unOp op _ x=>match op,ev S.F x with
  | .not,.bool b=>some (.bool !b,S)
  | .xor,.int k n=>some (.int k (k.wrap ((BitVec.ofInt k.bits (if k.signed then -1 else k.max) ^^^ BitVec.ofInt k.bits n).toNat)),S)
  | _,_=>none
 | .convert s d x=>(E.tt s).bind fun si=>(E.tt d).bind fun ti=>match ti.tk,(ev S.F x).num with
  | .int k,some (_,e)=>(c7d E.bd k e).map fun v=>(v,S)
  | .slice,none=>match ev S.F x with
   | .str b=>bif si.tk.isStr&&ti.eu8&&Nat.ble b.size 1048576 then some (.slc S.nx 0 b.size,{ S with H:=(S.nx,.fro ti.el (b.data.toList.map fun c => .int .u8 (c.toNat:Nat)))::S.H,nx:=S.nx+1 }) else none
   | .slk i off n c=>(cK S.H i).bind fun b=>match b with
    | .row e cs=>bif Nat.beq s d&&ti.eu8&&Nat.beq off 0&&Nat.beq c n&&Nat.beq e ti.el&&Nat.beq cs.length n then some (.slc S.nx 0 n,{ S with H:=(S.nx,.fro ti.el cs)::(i,.dead)::S.H,nx:=S.nx+1 }) else none
    | _=>none
   | _=>none
  | .str,none=>match ev S.F x with
   | .nils=>bif si.tk.sl&&si.eu8 then some (.str .empty,S) else none
   | a=>bif si.tk.sl&&si.eu8 then (mU a).bind fun n=>bif Nat.blt 0 n then (oX S.H 1 a).bind fun cs=>(u8s cs).map fun l=>(.str ⟨l.toArray⟩,S) else none else none
  | _,_=>none
 | .makeSlice t l c=>(E.tt t).bind fun ti=>(nU (ev S.F l)).bind fun n=>(nU (ev S.F c)).bind fun m =>
   bif ti.tk.sl&&Nat.ble n m&&Nat.ble (m*ti.by_) 1048576&&Nat.ble m 1048576 then some (.slk S.nx 0 n m,{ S with H:=(S.nx,.row ti.el (rep ti.ez m))::S.H,nx:=S.nx+1 }) else none
 | .slice t x lo hi mx=>match mx with
  | some mo=>(E.tt t).bind fun ti=>(opN S.F 0 lo).bind fun l=>(nU (ev S.F mo)).bind fun m=>(hi.bind fun o=>nU (ev S.F o)).bind fun h =>
   match ev S.F x with
   | .slc i o n=>bif ti.tk.sl&&holds S.H i ti.es o n&&Nat.ble l h&&Nat.ble h m&&Nat.ble m n then some (.slk i (bif Nat.beq m l then o*ti.es else (o+l)*ti.es) (h-l) (m-l),S) else none
   | .nils=>bif ti.tk.sl&&Nat.beq l 0&&Nat.beq h 0&&Nat.beq m 0 then some (.nils,S) else none
   | _=>none
  | none=>(E.tt t).bind fun ti=>(opN S.F 0 lo).bind fun l =>
   match ev S.F x with
   | .slc i o n=>(opN S.F n hi).bind fun h=>bif ti.tk.sl&&holds S.H i ti.es o n&&Nat.ble l h&&Nat.ble h n then
     (bif Nat.beq l 0||Nat.blt l n then some (.slc i (o+l) (h-l),S) else some (.slc S.nx 0 0,{ S with nx:=S.nx+1 })) else none
   | .nils=>(opN S.F 0 hi).bind fun h=>bif ti.tk.sl&&Nat.beq l 0&&Nat.beq h 0 then some (.nils,S) else none
   | .slk i off n c=>(opN S.F n hi).bind fun h=>bif ti.tk.sl&&Nat.ble l h&&Nat.ble h c then some (.slk i (bif Nat.beq c l then off else off+l*ti.es) (h-l) (c-l),S) else none
   | .ptr i off=>(opN S.F ti.len hi).bind fun h=>bif ti.tk.arr&&Nat.ble l h&&Nat.ble h ti.len then some (.slk i (bif Nat.beq ti.len l then off else off+l*ti.es) (h-l) (ti.len-l),S) else none
   | _=>none
 | .fieldAddr t x f=>match ev S.F x with
  | .ptr i off=>(E.tt t).bind fun ti=>bif ti.tk.st then (bT ti.fs f).bind fun p=>bif Nat.blt 0 p.2.1 then some (.ptr i (off+p.1),S) else none else none
  | _=>none
 | .field t x f=>match ev S.F x with
  | .agg cs=>(E.tt t).bind fun ti=>bif ti.tk.st then (bT ti.fs f).bind fun p=>(part p.2.2 p.2.1 ((cs.drop p.1).take p.2.1)).map fun u=>(u,S) else none
  | _=>none
 | .indexAddr t x i=>(E.tt t).bind fun ti=>(nU (ev S.F i)).bind fun k=>match ev S.F x with
  | .slc b o n=>bif ti.tk.sl&&holds S.H b ti.es o n&&Nat.blt k n then some (.ptr b ((o+k)*ti.es),S) else none
  | .slk b off n _=>bif ti.tk.sl&&Nat.blt k n then some (.ptr b (off+k*ti.es),S) else none
  | .ptr b off=>bif ti.tk.arr&&Nat.blt k ti.len then some (.ptr b (off+k*ti.es),S) else none
  | _=>none
 | .index t x i=>(E.tt t).bind fun ti=>(nU (ev S.F i)).bind fun k=>match ev S.F x with
  | .str s=>bif ti.tk.isStr then (bT s.data.toList k).map fun b=>(.int .u8 (b.toNat:Nat),S) else none
  | .agg cs=>bif ti.tk.arr&&ti.eint&&Nat.beq ti.es 1&&Nat.blt k ti.len then (bT cs k).map fun u=>(u,S) else none
  | _=>none
 | .extract x k=>match ev S.F x with
  | .tup vs=>(bT vs k).map fun v=>(v,S)
  | _=>none
 | .makeFunc fn a c=>match fn with
  | .func f=>bif a.isEmpty&&c.isEmpty then some (.fn f,S) else bif a.isEmpty then (match c.toList with
   | [x]=>match ev S.F x with
    | .ptr i off=>some (.clo f i off,S)
    | _=>none
   | _=>none) else none
  | _=>none
 | .makeMap t r=>match r with
  | none=>(E.tt t).bind fun ti=>bif ti.tk.mp||ti.tk.smp then some (.mp S.nx,{ S with H:=(S.nx,.mp [] 0)::S.H,nx:=S.nx+1 }) else none
  | some _=>none
 | .makeChan t s=>(E.tt t).bind fun ti=>(nU (ev S.F s)).bind fun n=>bif ti.tk.ch&&Nat.ble n 1048576&&Nat.ble (ti.by_*n) 1048576 then some (.opq S.nx,{ S with H:=(S.nx,.dead)::S.H,nx:=S.nx+1 }) else none
 | .mapUpdate t m k x=>a6q E t (ev S.F m) (ev S.F k) (ev S.F x) S
 | .insert t m k x=>a6q E t (ev S.F m) (ev S.F k) (ev S.F x) S
 | .lookup t x k ok=>bif ok then none else (b5f E t (ev S.F x) (ev S.F k) S).map fun a=>(a,S)
 | _=>none
def dC (E:iU):Op→Bool
 | .store _ _ _=>false
 | .makeMap _ _=>false
 | .makeChan _ _=>false
 | .mapUpdate _ _ _ _=>false
 | .insert _ _ _ _=>false
 | .lookup _ _ _ _=>false
 | .convert _ d _=>match E.tt d with
  | some ti=>match ti.tk with
   | .int _=>true
   | _=>false
  | none=>false
 | .call c=>match c.callee with
  | .builtin .len | .builtin .cap | .builtin .min | .builtin .max=>true
  | _=>false
 | _=>true
def a1i:Op→Bool
 | .alloc _ | .box _ _ | .buildSlice _ _ _ | .makeSlice _ _ _=>true
 | _=>false
def zI (H:Hp) (ti:TI):AV→Option (Nat×List AV×Hp)
 | .nils=>some (0,[],H)
 | .slk i off n c=>match cK H i with
  | some (.row e cs)=>bif Nat.beq off 0&&Nat.beq e ti.el&&Nat.beq cs.length (c*ti.es)&&Nat.ble n c&&Nat.ble c 1048576 then some (n,cs.take (n*ti.es),(i,.dead)::H) else none
  | _=>none
 | .slc i o n=>match cK H i with
  | some (.gro e sz cs)=>bif Nat.beq o 0&&Nat.beq e ti.el&&Nat.beq sz ti.es&&Nat.ble (n*ti.es) cs.length then some (n,cs.take (n*ti.es),(i,.dead)::H) else none
  | _=>none
 | _=>none
def b9q (H:Hp) (es:Nat):AV→Option (Nat×Nat)
 | .slk i off _ _=>some (i,off)
 | .slc i o n=>bif holds H i es o n then some (i,o*es) else none
 | _=>none
def d4z (H:Hp) (es:Nat):AV→Bool
 | .nils=>true
 | .slk _ _ n c=>Nat.ble n c
 | .slc i o n=>holds H i es o n
 | _=>false
def zJ (E:iU) (b:Builtin) (ts:List TypeId) (args:List AV) (S:St):Option (AV×St) :=
 match ts with
 | []=>none
 | t::ts=>(E.tt t).bind fun ti =>
 match b,args with
 | .len,[x]=>match ti.tk,x with
  | .array,_=>some (.int .i64 (ti.len:Nat),S)
  | .str,.str s=>some (.int .i64 (s.size:Nat),S)
  | .slice,.opl _ e=>some (uE .i64 e,S)
  | .slice,x=>(mU x).map fun n=>(.int .i64 (n:Nat),S)
  | _,_=>none
 | .cap,[x]=>match ti.tk,x with
  | .slice,.slk _ _ _ c=>some (.int .i64 (c:Nat),S)
  | .slice,.nils=>some (.int .i64 0,S)
  | _,_=>none
 | .min,[x,y]=>match x.num,y.num with
  | some (k,a),some (_,b)=>bif a.kn&&b.kn then some (.int k (if b.c < a.c then b.c else a.c),S) else (b.lt E.bd a).map fun t=>(uE k (bif t then b else a),S)
  | _,_=>none
 | .max,[x,y]=>match x.num,y.num with
  | some (k,a),some (_,b)=>bif a.kn&&b.kn then some (.int k (if b.c > a.c then b.c else a.c),S) else (a.lt E.bd b).map fun t=>(uE k (bif t then b else a),S)
  | _,_=>none
 | .append,[s,.str b]=>match ts with
  | [t']=>(E.tt t').bind fun xi=>bif ti.tk.sl&&xi.tk.isStr then
    (bif Nat.beq b.size 0 then (bif d4z S.H ti.es s then some (s,S) else none) else
    (zI S.H ti s).bind fun r=>bif ti.eu8&&Nat.beq ti.es 1&&Nat.beq ti.by_ 1&&Nat.ble (r.1+b.size) 1048576 then
     some (.slc S.nx 0 (r.1+b.size),{ S with H:=(S.nx,.gro ti.el ti.es (r.2.1++b.data.toList.map fun c => .int .u8 (c.toNat:Nat)))::r.2.2,nx:=S.nx+1 }) else none) else none
  | _=>none
 | .append,[s,x]=>bif ti.tk.sl&&Nat.blt 0 ti.es&&(match ts with|[t']=>Nat.beq t' t|_=>false) then
   (mU x).bind fun m=>bif Nat.beq m 0 then (bif d4z S.H ti.es s then some (s,S) else none) else
   (oX S.H ti.es x).bind fun new=>(zI S.H ti s).bind fun r =>
    bif new.all gY&&Nat.ble ((r.1+m)*ti.by_) 1048576&&Nat.ble (r.1+m) 1048576 then
    some (.slc S.nx 0 (r.1+m),{ S with H:=(S.nx,.gro ti.el ti.es (r.2.1++new))::r.2.2,nx:=S.nx+1 }) else none
   else none
 | .copy,[d,x]=>bif ti.tk.sl&&Nat.blt 0 ti.es then (mU d).bind fun n=>(mU x).bind fun m =>
   bif Nat.beq (min m n) 0 then some (.int .i64 0,S) else
   (oX S.H ti.es x).bind fun new=>bif (new.take (min m n*ti.es)).all gY then
   (b9q S.H ti.es d).bind fun p=>(oJ S.H p.1 p.2 (new.take (min m n*ti.es))).map fun h=>(.int .i64 (min m n:Nat),{ S with H:=h }) else none else none
 | .clear,[d]=>bif ti.tk.sl then (mU d).bind fun n=>bif Nat.beq n 0 then some (.tup [],S) else
   bif (rep ti.ez n).all gY then (b9q S.H ti.es d).bind fun p=>(oJ S.H p.1 p.2 (rep ti.ez n)).map fun h=>(.tup [],{ S with H:=h }) else none else none
 | _,_=>none
end Go.Eng
namespace Go.Eng
variable [fP]
def GI.ov (x:GI):Option Value:=bif x.v.oneCell' then some x.v else none
def GI.os (x:GI) (n:Int):Option Value:=match x.v with
 | .slice a m c=>bif decide ((m:Int)=n) then some (.slice a m c) else none
 | _=>none
def dn (G:GM):AV→Option Value
 | .int k n=>some (.int k n)
 | .sym k e=>some (.int k e.val)
 | .bool b=>some (.bool b)
 | .str s=>some (.string s)
 | .ptr i off=>(G i).map fun x => .pointer (some ⟨x.g,off,none⟩)
 | .nilp=>some (.pointer none)
 | .slk i off n c=>(G i).map fun x => .slice (some ⟨x.g,off,none⟩) n c
 | .slc i o n=>(G i).map fun x => .slice (some ⟨x.g,x.off+o*x.sz,none⟩) n (x.cap-o)
 | .nils=>some (.slice none 0 0)
 | .mp i=>(G i).map fun x => .map (some x.g)
 | .fn f=>some (.func (.func f) #[] #[])
 | .clo f i off=>(G i).map fun x => .func (.func f) #[] #[.pointer (some ⟨x.g,off,none⟩)]
 | .ext v=>some v
 | .opq i=>(G i).bind GI.ov
 | .opl i e=>(G i).bind fun x=>x.os e.val
 | .agg _ | .tup _=>none
def dG (G:GM):List AV→Option (List Value)
 | []=>some []
 | a::l=>(dn G a).bind fun u=>(dG G l).map (u::·)
def d2 (G:GM):AV→Option Value
 | .agg cs=>(dG G cs).map fun us => .agg us.toArray
 | a=>dn G a
def uQ (G:GM):List AV→Option (List Value)
 | []=>some []
 | a::l=>(d2 G a).bind fun u=>(uQ G l).map (u::·)
def dv (G:GM):AV→Option Value
 | .tup vs=>(uQ G vs).map fun us => .tuple us.toArray
 | a=>d2 G a
theorem lK.refl (G:GM):lK G G:=fun _ _ h=>h
theorem lK.trans {A B C:GM} (h:lK A B) (k:lK B C):lK A C:=fun i x q=>k i x (h i x q)
section
variable {G G' : GM}
theorem vR (h:lK G G'):∀ {a u},dn G a=some u→dn G' a=some u:=by
 intro a u e;cases a<;>simp only[dn,aB,aA] at e ⊢<;>first|exact e|(obtain⟨x,b,q⟩:=e;exact⟨x,h _ _ b,q⟩)
theorem bS {a:AV} {l:List AV} {us:List Value}:dG G (a::l)=some us↔∃ u r,dn G a=some u∧dG G l=some r∧us=u::r:=by
 simp only[dG,aA,aB];constructor
 ·rintro⟨u,h,r,b,rfl⟩;exact⟨u,r,h,b,rfl⟩
 ·rintro⟨u,r,h,b,rfl⟩;exact⟨u,h,r,b,rfl⟩
theorem cT (h:lK G G'):∀ {l us},dG G l=some us→dG G' l=some us:=by
 intro l;induction l with
 | nil=>intro us e;exact e
 | cons a l ih=>intro us e;obtain⟨u,r,b,c,rfl⟩:=bS.1 e;exact bS.2 ⟨u,r,vR h b,ih c,rfl⟩
theorem dM:∀ {l:List AV} {us},dG G l=some us→us.length=l.length:=by
 intro l;induction l with
 | nil=>intro us e;cases e;rfl
 | cons a l ih=>intro us e;obtain⟨u,r,c,b,rfl⟩:=bS.1 e;simp[ih b]
theorem eL {l m:List AV} {us}:dG G (l++m)=some us↔∃ x y,dG G l=some x∧dG G m=some y∧us=x++y:=by
 induction l generalizing us with
 | nil=>simp[dG]
 | cons a l ih =>
  rw[List.cons_append,bS];constructor
  ·rintro⟨u,r,b,c,rfl⟩;obtain⟨x,y,d,f,rfl⟩:=ih.1 c;exact⟨u::x,y,bS.2 ⟨u,x,b,d,rfl⟩,f,rfl⟩
  ·rintro⟨x,y,b,c,rfl⟩;obtain⟨u,r,d,f,rfl⟩:=bS.1 b;exact⟨u,r++y,d,ih.2 ⟨r,y,f,c,rfl⟩,rfl⟩
theorem lP {l:List AV} {us} (h:dG G l=some us) (n:Nat):dG G (l.take n)=some (us.take n):=by
 have e:=h;rw[← List.take_append_drop n l] at e;obtain⟨x,y,a,b,rfl⟩:=eL.1 e;have q:=dM a;rw[aJ] at q;rw[a];congr 1;by_cases c:n≤l.length
 ·rw[List.take_left' (by omega)]
 ·have:y=[]:=by have:=dM b;rw[aH] at this;exact List.eq_nil_of_length_eq_zero (by omega)
  subst this;rw[bA,aZ (by omega)]
theorem qZ {l:List AV} {us} (h:dG G l=some us) (n:Nat):dG G (l.drop n)=some (us.drop n):=by
 have e:=h;rw[← List.take_append_drop n l] at e;obtain⟨x,y,b,a,rfl⟩:=eL.1 e;have q:=dM b;rw[aJ] at q;rw[a];congr 1;by_cases c:n≤l.length
 ·rw[List.drop_left' (by omega)]
 ·have:y=[]:=by have:=dM a;rw[aH] at this;exact List.eq_nil_of_length_eq_zero (by omega)
  subst this;rw[bA,List.drop_of_length_le (by omega)]
theorem sI {l vs:List AV} {us ws} (h:dG G l=some us) (k:dG G vs=some ws) (off:Nat):dG G (b9p l off vs)=some (us.take off++ws++us.drop (off+ws.length)):=by
 rw[dM k];exact eL.2 ⟨_,_,eL.2 ⟨_,_,lP h off,k,rfl⟩,qZ h _,rfl⟩
theorem d5a {l:List AV} {v us} (h:dG G l=some us) (k:one l=some v):∃ u,us=[u]∧dn G v=some u:=by
 rcases l with _|⟨a,_|⟨b,l⟩⟩
 ·cases k
 ·cases k;obtain⟨u,r,c,d,rfl⟩:=bS.1 h;cases d;exact⟨u,rfl,c⟩
 ·cases k
theorem a0l {G:GM} {a:AV} (h:∀ cs,a ≠ .agg cs):d2 G a=dn G a:=by cases a<;>first|rfl|exact absurd rfl (h _)
theorem pO {G:GM} {a:AV} (h:∀ cs,a ≠ .tup cs):dv G a=d2 G a:=by cases a<;>first|rfl|exact absurd rfl (h _)
theorem oY {a:AV} {u} (h:dn G a=some u):d2 G a=some u:=by cases a<;>first|exact h|cases h
theorem a1j {a:AV} {u} (h:d2 G a=some u):dv G a=some u:=by cases a<;>first|exact h|cases h
theorem cZ {a:AV} {u} (h:dn G a=some u):dv G a=some u:=a1j (oY h)
theorem b9r (h:lK G G') {a u} (e:d2 G a=some u):d2 G' a=some u:=by
 cases a with
 | agg cs=>simp only[d2,aB] at e ⊢;obtain⟨x,b,rfl⟩:=e;exact⟨x,cT h b,rfl⟩
 | _=>rw[a0l (by simp)] at e ⊢;exact vR h e
theorem c7h (h:lK G G'):∀ {l us},uQ G l=some us→uQ G' l=some us:=by
 intro l;induction l with
 | nil=>intro us e;exact e
 | cons a l ih =>
  intro us e;simp only[uQ,aA,aB] at e ⊢;obtain⟨u,b,r,c,rfl⟩:=e;exact⟨u,b9r h b,r,ih c,rfl⟩
theorem vS (h:lK G G') {a u} (e:dv G a=some u):dv G' a=some u:=by
 cases a with
 | tup vs=>simp only[dv,aB] at e ⊢;obtain⟨x,b,rfl⟩:=e;exact⟨x,c7h h b,rfl⟩
 | _=>rw[pO (by simp)] at e ⊢;exact b9r h e
theorem b9s (v:Value):dn G (c7b v)=some v:=by
 unfold c7b;split<;>rfl
theorem a9z:∀ l:List Value,dG G (d4y l)=some l
 | []=>rfl
 | v::l=>bS.2 ⟨v,l,b9s v,a9z l,rfl⟩
theorem d5b {v:Value} (h:∀ cs,v ≠ .agg cs):c7c v=c7b v:=by cases v<;>first|rfl|exact absurd rfl (h _)
theorem b0a (v:Value):dv G (c7c v)=some v:=by
 cases v with
 | agg cs=>show (dG G (d4y cs.toList)).map _=_;rw[a9z];simp
 | _=>rw[d5b (by simp)];exact cZ (b9s _)
theorem eK.val_kn {e:eK} (h:e.kn=true):e.val=e.c:=by
 unfold eK.kn at h;split at h
 ·rename_i q;simp[eK.val,q,gX]
 ·cases h
theorem jG {a:AV} {k e u} (h:a.num=some (k,e)) (q:dv G a=some u):u = .int k e.val:=by
 cases a<;>cases h
 ·rw[eK.val_kn rfl];exact(aK q).symm
 ·exact(aK q).symm
theorem rA (k:IntKind) (e:eK):dv G (uE k e)=some (.int k e.val):=by
 unfold uE;split
 ·rename_i q;rw[eK.val_kn (by simp[eK.kn,q])];rfl
 ·rfl
theorem b0b {a:AV} {n u} (h:nU a=some n) (e:dv G a=some u):∃ k,u = .int k (n:Int):=by
 unfold nU at h;split at h
 ·cases h;exact⟨_,(aK e).symm⟩
 ·cases h
theorem c7i {x:GI} {u} (h:x.ov=some u):u.oneCell'=true:=by
 unfold GI.ov at h;cases a:x.v.oneCell'<;>rw[a] at h<;>cases h;exact a
theorem a0m {x:GI} {n:Int} {u} (h:x.os n=some u):∃ a m c,x.v = .slice a m c∧(m:Int)=n∧u = .slice a m c:=by
 unfold GI.os at h;split at h
 ·rename_i a m c d;cases b:decide ((m:Int)=n)<;>rw[b] at h<;>cases h;exact⟨a,m,c,d,bI b,rfl⟩
 ·cases h
theorem a1k {a:AV} {u} (h:gY a=true) (e:dn G a=some u):u.oneCell'=true:=by
 cases a<;>simp only[dn,aB,aA] at e<;>first
  | (obtain⟨x,_,rfl⟩:=e;rfl)
  | (obtain⟨x,_,q⟩:=e;exact c7i q)
  | (obtain⟨x,_,q⟩:=e;obtain⟨a,m,c,_,_,rfl⟩:=a0m q;rfl)
  | (cases e;first|rfl|exact h)
  | cases e
theorem xO:∀ {l:List AV} {us},l.all gY=true→dG G l=some us→∀ u∈us,u.oneCell'=true:=by
 intro l;induction l with
 | nil=>intro us _ e;cases e;simp
 | cons a l ih =>
  intro us h e u b;obtain⟨v,r,c,d,rfl⟩:=bS.1 e;rw[List.all_cons,aD] at h;rcases aG.1 b with rfl|b
  ·exact a1k h.1 c
  ·exact ih h.2 d u b
theorem a1l {a:AV} {u} (h:a.cells.all gY=true) (e:dv G a=some u):dG G a.cells=some u.cells.toList:=by
 cases a with
 | agg cs =>
  replace e:(dG G cs).map (fun c=>Value.agg c.toArray)=some u:=e
  obtain⟨c,b,rfl⟩:=aB.1 e;exact b
 | tup vs=>simp[AV.cells,gY] at h
 | _ =>
  rw[pO (by simp),a0l (by simp)] at e;have k:=e;have b:=a1k (by simpa [AV.cells] using h) k;refine bS.2 ⟨u,[],k,rfl,?_⟩;cases u<;>first|rfl|cases b
end
end Go.Eng
namespace Go.Eng
variable [fP]
open Go.RowKit
theorem cJ.refl (O:Nat→Prop) (w:World):cJ O w w:=⟨rfl,rfl,rfl,aF _,fun _ _ _=>rfl⟩
theorem cJ.trans {O O1:Nat→Prop} {a b c:World} (h:cJ O a b) (k:cJ O1 b c) (ho:∀ x,O1 x→O x∨a.heap.size≤x):cJ O a c :=
 ⟨k.os.trans h.os,k.tape.trans h.tape,k.output.trans h.output,aL h.size k.size,fun i d f=>by
  rw[k.block i (aX d h.size) (fun e=>by rcases ho i e with q|q;exact f q;omega),h.block i d f]⟩
structure oZ (w:World) (G:GM) (O:Nat→Prop) (w':World) (G':GM) (O':Nat→Prop):Prop where
 g:lK G G'
 u:cJ O w w'
 o:∀ x,O' x→O x∨w.heap.size≤x
theorem oZ.refl (w:World) (G:GM) (O:Nat→Prop):oZ w G O w G O:=⟨lK.refl G,cJ.refl O w,fun _ h => .inl h⟩
theorem oZ.trans {w G O w1 G1 O1 w2 G2 O2} (h:oZ w G O w1 G1 O1) (k:oZ w1 G1 O1 w2 G2 O2):oZ w G O w2 G2 O2 :=
 ⟨h.g.trans k.g,h.u.trans k.u h.o,fun x q=>by
  rcases k.o x q with q|q
  ·exact h.o x q
  ·exact .inr (aL h.u.size q)⟩
theorem oZ.drew {w:World} {G:GM} {O:Nat→Prop}:oZ w G O { w with drawn:=w.drawn+1 } G O:=⟨lK.refl G,⟨rfl,rfl,rfl,aF _,fun _ _ _=>rfl⟩,fun _ h => .inl h⟩
def gL (G:GM):List (Int×AV)→Option (List (Int×Value))
 | []=>some []
 | (k,a)::l=>(dn G a).bind fun u=>(gL G l).map ((k,u)::·)
def eS:List (Int×Value)→Nat→List MapEntry
 | [],_=>[]
 | (k,u)::l,b=>⟨.int .i64 k,u,b⟩::eS l (b+1)
def BS (w:World) (G:GM) (x:GI):cU→Prop
 | .dead=>True
 | .row e cs=>∃ us,dG G cs=some us∧w.heap[x.g]?=some (.cells us.toArray e (0,0))
 | .gro e sz cs=>(x.sz=sz∧x.off=0)∧0 < sz∧∃ us ys,dG G cs=some us∧w.heap[x.g]?=some (.cells (us++ys).toArray e (0,0))∧us.length+ys.length=x.cap*sz∧x.cap≤maxLen
 | .fro e cs=>(x.sz=1∧x.off=0)∧∃ us ys fr,dG G cs=some us∧w.heap[x.g]?=some (.cells (us++ys).toArray e fr)∧us.length+ys.length=x.cap
 | .mp es clock=>∃ us,gL G es=some us∧clock=es.length∧w.heap[x.g]?=some (.map (eS us 0).toArray clock)
 | .gho _ _=>False
theorem b0c {G G':GM} (h:lK G G'):∀ {l us},gL G l=some us→gL G' l=some us:=by
 intro l;induction l with
 | nil=>intro us e;exact e
 | cons a l ih =>
  obtain⟨k,a⟩:=a;intro us e;simp only[gL,aA,aB] at e ⊢;obtain⟨u,b,r,c,rfl⟩:=e;exact⟨u,vR h b,r,ih c,rfl⟩
theorem BS.mono {w w':World} {G G':GM} {x:GI} {b:cU} (h:BS w G x b) (hg:lK G G') (hh:w'.heap[x.g]?=w.heap[x.g]?):BS w' G' x b:=by
 cases b with
 | dead=>trivial
 | row e cs=>obtain⟨a,f,d⟩:=h;exact⟨a,cT hg f,hh.trans d⟩
 | gro e sz cs=>obtain⟨j,f,a,l,d,i,m⟩:=h;exact⟨j,f,a,l,cT hg d,hh.trans i,m⟩
 | fro e cs=>obtain⟨j,a,l,o,d,i,m⟩:=h;exact⟨j,a,l,o,cT hg d,hh.trans i,m⟩
 | mp es c=>obtain⟨a,f,d,i⟩:=h;exact⟨a,b0c hg f,d,hh.trans i⟩
 | gho k az=>exact h.elim
def cU.live:cU→Prop
 | .dead=>False
 | .gho _ _=>False
 | _=>True
structure Sat0 (w:World) (G:GM) (O:Nat→Prop) (H:Hp):Prop where
 bs:∀ i b,cK H i=some b→b.live→∃ x,G i=some x∧O x.g∧x.g < w.heap.size∧BS w G x b
 inj:∀ i j b c x y,cK H i=some b→b.live→cK H j=some c→c.live→G i=some x→G j=some y→x.g=y.g→i=j
def Gh (w:World) (G:GM) (O:Nat→Prop) (H:Hp) (N:Nat→Prop):Prop :=
 ∀ k az,cK H 0=some (.gho k az)→∃ us F,dG G az=some us∧fP.gx k w us F∧(∀ x,F x→O x∧¬ N x)∧∀ i b x,cK H i=some b→b.live→G i=some x→¬ F x.g
structure gP (w:World) (G:GM) (O:Nat→Prop) (H:Hp) (nx:Nat):Prop extends Sat0 w G O H where
 fresh:∀ i,nx≤i→G i=none
 olt:∀ x,O x→x < w.heap.size
 gh:Gh w G O H (fun _=>False)
 ob:∀ x,O x→fP.b≤x
 bw:fP.b≤w.heap.size
theorem Gh.weak {w:World} {G:GM} {O:Nat→Prop} {H:Hp} {N M:Nat→Prop} (h:Gh w G O H N) (k:∀ x,M x→N x):Gh w G O H M:=fun j i l=>by
 obtain⟨c,F,d,f,a,g⟩:=h j i l;exact⟨c,F,d,f,fun x b=>⟨(a x b).1,fun q=>(a x b).2 (k x q)⟩,g⟩
theorem Gh.upd {w w':World} {G G':GM} {O O':Nat→Prop} {H H':Hp} {N S M:Nat→Prop} (h:Gh w G O H N) (hg:lK G G') (hu:cJ S w w') (hS:∀ x,O x→S x→N x∨∃ i b y,cK H i=some b∧b.live∧G i=some y∧y.g=x)
  (hO:∀ x,O x→O' x) (h0:∀ k az,cK H' 0=some (.gho k az)→cK H 0=some (.gho k az)) (hH:∀ i b x,cK H' i=some b→b.live→G' i=some x→(∃ c,cK H i=some c∧c.live∧G i=some x)∨N x.g∨¬ O x.g) (hM:∀ x,O x→M x→N x) (hb:∀ x,S x→fP.b≤x):Gh w' G' O' H' M:=fun k az u=>by
 obtain⟨p,F,r,s,d,o⟩:=h k az (h0 k az u);refine⟨p,F,cT hg r,?_,fun x a=>⟨hO x (d x a).1,fun q=>(d x a).2 (hM x (d x a).1 q)⟩,fun i b x v hb a m=>?_⟩
 ·refine fP.gm s hu (fun x a hs=>?_) hb;rcases hS x (d x a).1 hs with q|⟨i,b,y,f,j,l,t⟩
  ·exact(d x a).2 q
  ·exact o i b y f j l (by rw[t];exact a)
 ·rcases hH i b x v hb a with⟨c,f,j,l⟩|q|q
  ·exact o i c x f j l m
  ·exact(d _ m).2 q
  ·exact q (d _ m).1
theorem cH {α} (k:Nat) (x:α) (l:List (Nat×α)) (i:Nat):cK ((k,x)::l) i=if i=k then some x else cK l i:=by
 simp only[cK];by_cases h:i=k
 ·subst h;simp
 ·rw[if_neg h];cases a:Nat.beq i k
  ·rfl
  ·exact absurd (aC a) h
theorem BS.ng {w:World} {G:GM} {x:GI} {b:cU} (h:BS w G x b) (k:Nat) (az:List AV):b ≠ .gho k az:=fun e=>by subst e;exact h.elim
theorem pP {i:Nat} {b:cU} {H:Hp} (hb:∀ k az,b ≠ .gho k az) (k:Nat) (az:List AV) (h:cK ((i,b)::H) 0=some (.gho k az)):cK H 0=some (.gho k az):=by
 rw[cH] at h;split at h
 ·exact absurd (aK h) (hb k az)
 ·exact h
theorem gP.bind {w:World} {G:GM} {O:Nat→Prop} {H:Hp} {nx:Nat} (h:gP w G O H nx) (x:GI) :
  gP w (fun j=>if j=nx then some x else G j) O H (nx+1)∧oZ w G O w (fun j=>if j=nx then some x else G j) O:=by
 have o:∀ i y,G i=some y→i < nx:=fun i y a=>by
  rcases Nat.lt_or_ge i nx with q|q
  ·exact q
  ·rw[h.fresh i q] at a;cases a
 have l:lK G (fun j=>if j=nx then some x else G j):=fun i y a=>by
  have:=o i y a;show (if i=nx then _ else _)=_;rw[if_neg (by omega)];exact a
 have d:∀ i b,cK H i=some b→b.live→i≠nx:=fun i b a p e=>by
  subst e;obtain⟨y,m,_⟩:=h.bs _ b a p;rw[h.fresh _ (aF _)] at m;cases m
 refine⟨⟨⟨fun i b a p=>?_,fun i j b c y z a f r s g t he=>?_⟩,fun i a=>?_,h.olt,h.gh.upd l (cJ.refl (fun _=>False) w) (fun _ _ q=>q.elim) (fun _ q=>q) (fun _ _ q=>q) (fun i b y a f g => .inl ⟨b,a,f,by simp only[if_neg (d i b a f)] at g;exact g⟩) (fun _ _ q=>q) (fun _ q=>q.elim),h.ob,h.bw⟩,l,cJ.refl O w,fun _ q => .inl q⟩
 ·obtain⟨y,m,u,v,A⟩:=h.bs i b a p;exact⟨y,l i y m,u,v,A.mono l rfl⟩
 ·simp only[if_neg (d i b a f)] at g;simp only[if_neg (d j c r s)] at t;exact h.inj i j b c y z a f r s g t he
 ·show (if i=nx then _ else _)=_;rw[if_neg (by omega)];exact h.fresh i (by omega)
variable {w : World} {G : GM} {O : Nat → Prop} {H : Hp} {nx : Nat}
theorem gP.drew (h:gP w G O H nx):gP { w with drawn:=w.drawn+1 } G O H nx:=⟨⟨h.bs,h.inj⟩,h.fresh,h.olt,h.gh.upd (lK.refl G) (S:=fun _=>False) ⟨rfl,rfl,rfl,aF _,fun _ _ _=>rfl⟩ (fun _ _ q=>q.elim) (fun _ q=>q) (fun _ _ q=>q) (fun i b y a c d => .inl ⟨b,a,c,d⟩) (fun _ _ q=>q) (fun _ q=>q.elim),h.ob,h.bw⟩
theorem gP.lt (h:gP w G O H nx) {i x} (hi:G i=some x):i < nx:=by
 rcases Nat.lt_or_ge i nx with q|q
 ·exact q
 ·rw[h.fresh i q] at hi;cases hi
theorem gP.new (h:gP w G O H nx) (o:Obj) (x:GI) (b:cU) (hx:x.g=w.heap.size) (hb:BS (w.alloc o) (fun j=>if j=nx then some x else G j) x b) :
  gP (w.alloc o) (fun j=>if j=nx then some x else G j) (fun y=>O y∨y=w.heap.size) ((nx,b)::H) (nx+1) ∧
  oZ w G O (w.alloc o) (fun j=>if j=nx then some x else G j) (fun y=>O y∨y=w.heap.size):=by
 have s:lK G (fun j=>if j=nx then some x else G j):=fun i y a=>by
  have:=h.lt a;show (if i=nx then _ else _)=_;rw[if_neg (by omega)];exact a
 refine⟨⟨⟨?_,?_⟩,?_,fun y l=>by simp;rcases l with q|q;have:=h.olt y q;omega;omega,
  h.gh.upd s (S:=fun _=>False) ⟨rfl,rfl,rfl,by simp,fun k v _=>Below.heap_alloc _ _ _ v⟩ (fun _ _ q=>q.elim) (fun _ q => .inl q) (pP hb.ng) (fun i c y a t l=>by
   rw[cH] at a;by_cases e:i=nx
   ·simp only[if_pos e,Option.some.injEq] at l;exact .inr (.inr fun q=>by have:=h.olt _ q;rw[← l,hx] at this;omega)
   ·rw[if_neg e] at a;simp only[if_neg e] at l;exact .inl ⟨c,a,t,l⟩) (fun _ _ q=>q) (fun _ q=>q.elim),fun y q=>q.elim (h.ob y) (fun e=>by rw[e];exact h.bw),aL h.bw (by simp)⟩,s,⟨rfl,rfl,rfl,by simp,fun k v _=>Below.heap_alloc _ _ _ v⟩,fun y l=>l.imp id (fun e=>by omega)⟩
 ·intro i c a t;rw[cH] at a;by_cases e:i=nx
  ·subst e;rw[if_pos rfl] at a;cases a;exact⟨x,if_pos rfl,.inr hx,by simp;omega,hb⟩
  ·rw[if_neg e] at a;obtain⟨y,m,B,u,C⟩:=h.bs i c a t;exact⟨y,by show (if i=nx then _ else _)=_;rw[if_neg e];exact m,.inl B,by simp;omega,C.mono s (Below.heap_alloc _ _ _ u)⟩
 ·intro i j c d y z a A r hd l p he;rw[cH] at a r;by_cases e:i=nx<;>by_cases f:j=nx
  ·omega
  ·exfalso;rw[if_neg f] at r;simp only[if_neg f] at p;simp only[if_pos e,Option.some.injEq] at l;obtain⟨D,m,_,u,_⟩:=h.bs j d r hd;rw[p] at m;cases m;rw[← l,hx] at he;omega
  ·exfalso;rw[if_neg e] at a;simp only[if_neg e] at l;simp only[if_pos f,Option.some.injEq] at p;obtain⟨D,m,_,u,_⟩:=h.bs i c a A;rw[l] at m;cases m;rw[← p,hx] at he;omega
  ·rw[if_neg e] at a;rw[if_neg f] at r;simp only[if_neg e] at l;simp only[if_neg f] at p;exact h.inj i j c d y z a A r hd l p he
 ·intro i a;show (if i=nx then _ else _)=_;rw[if_neg (by omega)];exact h.fresh i (by omega)
theorem gP.set (h:gP w G O H nx) {w':World} {i:Nat} {b b':cU} {x:GI} (hi:cK H i=some b) (hl:b.live) (hx:G i=some x) (hu:cJ (fun y=>y=x.g) w w') (hb:BS w' G x b') :
  gP w' G O ((i,b')::H) nx∧oZ w G O w' G O:=by
 obtain⟨D,t,p,r,-⟩:=h.bs i b hi hl;rw[hx] at t;cases t
 refine⟨⟨⟨?_,?_⟩,h.fresh,fun y l=>aX (h.olt y l) hu.size,
  h.gh.upd (lK.refl G) hu (fun y _ q => .inr ⟨i,b,x,hi,hl,hx,q.symm⟩) (fun _ q=>q) (pP hb.ng) (fun j c y a m l=>by
   rw[cH] at a;by_cases e:j=i
   ·subst e;rw[hx] at l;cases l;exact .inl ⟨b,hi,hl,hx⟩
   ·rw[if_neg e] at a;exact .inl ⟨c,a,m,l⟩) (fun _ _ q=>q) (fun y q=>by rw[q];exact h.ob _ p),h.ob,aL h.bw hu.size⟩,lK.refl G,⟨hu.os,hu.tape,hu.output,hu.size,fun k o C=>hu.block k o (fun e=>C (by rw[e];exact p))⟩,fun _ q => .inl q⟩
 ·intro j c a m;rw[cH] at a;by_cases e:j=i
  ·subst e;rw[if_pos rfl] at a;cases a;exact⟨x,hx,p,aX r hu.size,hb⟩
  ·rw[if_neg e] at a;obtain⟨y,u,A,v,B⟩:=h.bs j c a m;refine⟨y,u,A,aX v hu.size,B.mono (lK.refl G) (hu.block _ v (fun q=>e ?_))⟩;exact h.inj j i c b y x a m hi hl u hx q
 ·intro j k c d y z a m o hd l s he;rw[cH] at a o;by_cases e:j=i<;>by_cases f:k=i
  ·omega
  ·rw[if_neg f] at o;subst e;exact h.inj j k b d y z hi hl o hd l s he
  ·rw[if_neg e] at a;subst f;exact h.inj j k c b y z a m hi hl l s he
  ·rw[if_neg e] at a;rw[if_neg f] at o;exact h.inj j k c d y z a m o hd l s he
theorem gP.kill (h:gP w G O H nx) (i:Nat):gP w G O ((i,.dead)::H) nx:=by
 refine⟨⟨?_,?_⟩,h.fresh,h.olt,h.gh.upd (lK.refl G) (cJ.refl (fun _=>False) w) (fun _ _ q=>q.elim) (fun _ q=>q) (pP (by simp)) (fun j c y a b l=>by
  rw[cH] at a;by_cases e:j=i
  ·rw[if_pos e] at a;cases a;exact b.elim
  ·rw[if_neg e] at a;exact .inl ⟨c,a,b,l⟩) (fun _ _ q=>q) (fun _ q=>q.elim),h.ob,h.bw⟩
 ·intro j c a b;rw[cH] at a;by_cases e:j=i
  ·rw[if_pos e] at a;cases a;exact b.elim
  ·rw[if_neg e] at a;exact h.bs j c a b
 ·intro j k c d y z a b g hd l m he;rw[cH] at a g;by_cases e:j=i
  ·rw[if_pos e] at a;cases a;exact b.elim
  by_cases f:k=i
  ·rw[if_pos f] at g;cases g;exact hd.elim
  rw[if_neg e] at a;rw[if_neg f] at g;exact h.inj j k c d y z a b g hd l m he
theorem Sat0.cells (h:Sat0 w G O H) {i:Nat} {b:cU} (hi:cK H i=some b) (hb:b.cs≠[]) :
  ∃ x us ys e fr,G i=some x∧dG G b.cs=some us∧w.heap[x.g]?=some (.cells (us++ys).toArray e fr)∧b.live∧(∀ e',b = .row e' b.cs→ys=[])∧((∀ e',b ≠ .fro e' b.cs)→fr=(0,0)):=by
 cases b with
 | dead=>exact absurd rfl hb
 | row e cs =>
  obtain⟨x,a,_,_,us,d,f⟩:=h.bs i _ hi trivial;exact⟨x,us,[],e,_,a,d,by rw[bA];exact f,trivial,fun _ _=>rfl,fun _=>rfl⟩
 | gro e sz cs =>
  obtain⟨x,a,_,_,_,_,us,ys,d,f,_⟩:=h.bs i _ hi trivial;exact⟨x,us,ys,e,_,a,d,f,trivial,(fun _ q=>by cases q),fun _=>rfl⟩
 | fro e cs =>
  obtain⟨x,a,_,_,_,us,ys,fr,d,f,_⟩:=h.bs i _ hi trivial;exact⟨x,us,ys,e,fr,a,d,f,trivial,(fun _ q=>by cases q),fun q=>absurd rfl (q e)⟩
 | mp es c=>exact absurd rfl hb
 | gho k az=>exact absurd rfl hb
theorem Sat0.holds (h:Sat0 w G O H) {i sz o n:Nat} (hi:holds H i sz o n=true):∃ x,G i=some x∧x.sz=sz∧x.off=0∧o+n≤x.cap:=by
 unfold Go.Eng.holds at hi;split at hi
 ·rename_i b g;unfold cU.holds at hi;split at hi
  ·rename_i e s cs;simp only[aD] at hi;obtain⟨x,d,_,_,a,j,p,r,f,t,l,u⟩:=h.bs i _ g trivial;have c:=aC hi.1;have m:=aN hi.2;have:=dM f;refine⟨x,d,a.1.trans c,a.2,?_⟩;rw[c] at l j;have:(o+n)*sz≤x.cap*sz:=by omega
   exact Nat.le_of_mul_le_mul_right this j
  ·simp only[aD] at hi;obtain⟨x,d,_,_,a,p,r,v,f,t,l⟩:=h.bs i _ g trivial;have c:=aC hi.1;have m:=aN hi.2;have:=dM f;exact⟨x,d,a.1.trans c,a.2,by omega⟩
  ·cases hi
 ·cases hi
theorem gP.rebind (h:gP w G O H nx) {w':World} {S:Nat→Prop} (x:GI) (b:cU) (hu:cJ S w w') (hf:∀ j c y,cK H j=some c→c.live→G j=some y→¬ S y.g∧y.g≠x.g) (ho:O x.g∨w.heap.size≤x.g) (hS:∀ y,S y→O y∨w.heap.size≤y) (hlt:x.g < w'.heap.size) (hgh:Gh w G O H (fun y=>S y∨y=x.g))
  (hb:BS w' (fun j=>if j=nx then some x else G j) x b) :
  gP w' (fun j=>if j=nx then some x else G j) (fun y=>O y∨y=x.g) ((nx,b)::H) (nx+1)∧oZ w G O w' (fun j=>if j=nx then some x else G j) (fun y=>O y∨y=x.g):=by
 have s:lK G (fun j=>if j=nx then some x else G j):=fun i y a=>by
  have:=h.lt a;show (if i=nx then _ else _)=_;rw[if_neg (by omega)];exact a
 refine⟨⟨⟨?_,?_⟩,?_,fun y l=>by rcases l with q|q;exact aX (h.olt y q) hu.size;rw[q];exact hlt,
  hgh.upd s hu (fun y _ q => .inl (.inl q)) (fun _ q => .inl q) (pP hb.ng) (fun i c y a p l=>by
   rw[cH] at a;by_cases e:i=nx
   ·simp only[if_pos e,Option.some.injEq] at l;exact .inr (.inl (.inr (by rw[l])))
   ·rw[if_neg e] at a;simp only[if_neg e] at l;exact .inl ⟨c,a,p,l⟩) (fun _ _ q=>q.elim) (fun y q=>(hS y q).elim (h.ob y) (aL h.bw)),fun y q=>q.elim (h.ob y) (fun e=>by rw[e];exact ho.elim (h.ob _) (aL h.bw)),aL h.bw hu.size⟩,s,⟨hu.os,hu.tape,hu.output,hu.size,fun k C D=>hu.block k C (fun q=>by rcases hS k q with r|r;exact D r;omega)⟩,fun y l=>l.elim .inl (fun e=>by subst e;exact ho)⟩
 ·intro i c a p;rw[cH] at a;by_cases e:i=nx
  ·subst e;rw[if_pos rfl] at a;cases a;exact⟨x,if_pos rfl,.inr rfl,hlt,hb⟩
  ·rw[if_neg e] at a;obtain⟨y,t,A,u,B⟩:=h.bs i c a p;exact⟨y,by show (if i=nx then _ else _)=_;rw[if_neg e];exact t,.inl A,aX u hu.size,B.mono s (hu.block _ u (hf i c y a p t).1)⟩
 ·intro i j c d y z a v o hd l m he;rw[cH] at a o;by_cases e:i=nx<;>by_cases f:j=nx
  ·omega
  ·exfalso;rw[if_neg f] at o;simp only[if_neg f] at m;simp only[if_pos e,Option.some.injEq] at l;exact(hf j d z o hd m).2 (by rw[← he,← l])
  ·exfalso;rw[if_neg e] at a;simp only[if_neg e] at l;simp only[if_pos f,Option.some.injEq] at m;exact(hf i c y a v l).2 (by rw[he,← m])
  ·rw[if_neg e] at a;rw[if_neg f] at o;simp only[if_neg e] at l;simp only[if_neg f] at m;exact h.inj i j c d y z a v o hd l m he
 ·intro i a;show (if i=nx then _ else _)=_;rw[if_neg (by omega)];exact h.fresh i (by omega)
end Go.Eng
namespace Go.Eng
variable [fP]
open Go.RowKit
variable {P : Program}
def G0:GM:=fun _=>none
theorem a4u (G:GM):lK G0 G:=fun _ _ h=>by cases h
def b9t (P:Program):List Field→Nat→Prop
 | [],_=>True
 | f::fs,k=>f.offset=k∧f.name ≠ "_" ∧ (∃ ki,P.underlying f.type=some (.int ki))∧b9t P fs (k+1)
def KPl (P:Program) (fs:List Field) (n:Nat):Prop:=∀ f∈fs,f.offset < n∧((∃ k,P.underlying f.type=some (.int k))∨P.underlying f.type=some .string)
structure vT (P:Program) (t:Nat) (ti:TI):Prop where
 info:∃ i z,P.info? t=some i∧i.size=ti.n∧i.zero=some z∧dG G0 ti.z=some z.cells.toList
 el:ti.tk.arr=true∨ti.tk.sl=true→∃ i z,P.info? ti.el=some i∧i.size=ti.es∧i.zero=some z∧z.cells.size=i.size∧dG G0 ti.ez=some z.cells.toList∧i.bytes=ti.by_
 eint:ti.eint=true→∃ k,P.underlying ti.el=some (.int k)
 eu8:ti.eu8=true→P.underlying ti.el=some (.int .u8)
 z8:ti.eu8=true→∃ i,P.info? ti.el=some i∧i.zero=some (.int .u8 0)
 desc:match ti.tk with
  | .other=>∃ d,P.underlying t=some d∧d.isRow=false
  | .struct=>∃ fs,P.underlying t=some (.struct fs)∧fs.size=ti.fs.length∧∀ f p,bT ti.fs f=some p→∃ fd i d,fs[f]?=some fd∧fd.offset=p.1∧P.info? fd.type=some i∧i.size=p.2.1∧P.underlying fd.type=some d∧d.isRow=p.2.2
  | .array=>P.underlying t=some (.array ti.len ti.el)
  | .slice=>P.underlying t=some (.slice ti.el)
  | .int k=>P.underlying t=some (.int k)
  | .str=>P.underlying t=some .string
  | .bool=>P.underlying t=some .bool
  | .ptr=>∃ e,P.underlying t=some (.pointer e)
  | .map=>∃ kt,P.underlying t=some (.map kt ti.el)∧P.underlying kt=some (.int .i64)∧∃ i k n,P.info? ti.el=some i∧i.zero=some (.int k n)∧ti.ez=[.int k n]
  | .smap=>∃ kt fs,P.underlying t=some (.map kt ti.el)∧P.underlying kt=some (.struct fs)∧KPl P fs.toList ti.len∧∃ i k n,P.info? ti.el=some i∧i.zero=some (.int k n)∧ti.ez=[.int k n]
  | .chan=>∃ d e i,P.underlying t=some (.chan d e)∧P.info? e=some i∧i.bytes=ti.by_
 sint:ti.sint=true→∃ fs,P.underlying t=some (.struct fs)∧b9t P fs.toList 0∧fs.size=ti.n∧P.stoodInHeld t=false∧P.eqGuardType P.depth t=false
 aeq:ti.tk.arr=true→ti.eint=true→P.eqGuardType P.depth t=false
theorem vT.row {t ti} (h:vT P t ti):∃ d,P.underlying t=some d∧d.isRow=ti.tk.agg:=by
 have:=h.desc;cases f:ti.tk<;>rw[f] at this<;>dsimp only at this
 ·exact this
 ·obtain⟨a,b,_⟩:=this;exact⟨_,b,rfl⟩
 ·exact⟨_,this,rfl⟩
 ·exact⟨_,this,rfl⟩
 ·exact⟨_,this,rfl⟩
 ·exact⟨_,this,rfl⟩
 ·obtain⟨e,h⟩:=this;exact⟨_,h,rfl⟩
 ·obtain⟨c,h,_⟩:=this;exact⟨_,h,rfl⟩
 ·obtain⟨c,a,h,_⟩:=this;exact⟨_,h,rfl⟩
 ·obtain⟨d,e,i,h,_⟩:=this;exact⟨_,h,rfl⟩
 ·exact⟨_,this,rfl⟩
theorem vT.isS {t ti} (h:vT P t ti) (hk:ti.tk.isStr=true):P.underlying t=some .string:=by
 have:=h.desc;cases a:ti.tk<;>rw[a] at this hk<;>first|exact this|cases hk
theorem vT.st {t ti} (h:vT P t ti) (hk:ti.tk.st=true):∃ fs,P.underlying t=some (.struct fs)∧fs.size=ti.fs.length∧∀ f p,bT ti.fs f=some p→∃ fd i d,fs[f]?=some fd∧fd.offset=p.1∧P.info? fd.type=some i∧i.size=p.2.1∧P.underlying fd.type=some d∧d.isRow=p.2.2:=by
 have:=h.desc;cases a:ti.tk<;>rw[a] at this hk<;>first|exact this|cases hk
theorem vT.ar {t ti} (h:vT P t ti) (hk:ti.tk.arr=true):P.underlying t=some (.array ti.len ti.el):=by
 have:=h.desc;cases a:ti.tk<;>rw[a] at this hk<;>first|exact this|cases hk
theorem vT.sli {t ti} (h:vT P t ti) (hk:ti.tk.sl=true):P.underlying t=some (.slice ti.el):=by
 have:=h.desc;cases a:ti.tk<;>rw[a] at this hk<;>first|exact this|cases hk
theorem vT.size {t ti} (h:vT P t ti):(P.info? t).map (·.size)=some ti.n:=by
 obtain⟨i,z,a,b,_⟩:=h.info;rw[a];exact congrArg some b
section
variable {w : World} {G : GM} {O : Nat → Prop} {H : Hp} {nx : Nat} {t : Nat} {ti : TI}
theorem lL {α} (l:List α) (o n j:Nat) (v:α) (h:((l.drop o).take n)[j]?=some v):l[o+j]?=some v:=by
 rw[List.getElem?_take] at h;split at h
 ·rwa[List.getElem?_drop] at h
 ·cases h
theorem b9u {a:Bool} {n:Nat} {cs:List AV} {v:AV} {us:List Value} (h:part a n cs=some v) (e:dG G cs=some us) :
  us.length=n∧if a then dv G v=some (.agg us.toArray) else ∃ u,us=[u]∧dv G v=some u:=by
 unfold part at h;cases b:Nat.beq cs.length n<;>rw[b] at h
 ·cases h
 ·have c:=aC b;refine⟨by rw[dM e,c],?_⟩;cases a
  ·obtain⟨u,d,f⟩:=d5a e h;exact⟨u,d,cZ f⟩
  ·cases h;show (dG G cs).map _=_;rw[e];rfl
theorem b9v (ht:vT P t ti) (hS:Sat0 w G O H) {i off:Nat} {v:AV} (h:a1h H ti i off=some v) {x:GI} (hx:G i=some x) :
  ∃ u,(Instr.loadAt t (.pointer (some ⟨x.g,off,none⟩))).run P w = .ok u w∧dv G v=some u:=by
 unfold a1h at h;cases s:Nat.blt 0 ti.n<;>rw[s] at h
 ·cases h
 ·have l:0 < ti.n:=by simpa [Nat.blt_eq] using s
  obtain⟨b,A,h⟩:=aA.1 h;have m:((b.cs.drop off).take ti.n).length=ti.n:=by
   unfold part at h;cases y:Nat.beq ((b.cs.drop off).take ti.n).length ti.n<;>rw[y] at h
   ·cases h
   ·exact aC y
  obtain⟨L,B,M,e,N,p,C,D,Q,_⟩:=hS.cells A (fun q=>by rw[q] at m;simp at m;omega);rw[hx] at p;cases p;have z:=lP (qZ C off) ti.n;obtain⟨E,f⟩:=b9u h z;have o:w.rangeAt x.g off ((B.drop off).take ti.n):=fun j v K=>by
   rw[cell_of_row w x.g (off+j) _ e _ D];have:=lL _ _ _ _ _ K;simp[bE (aU.1 this).1,this]
  obtain⟨d,hd,r⟩:=ht.row;cases J:ti.tk.agg<;>rw[J] at f r
  ·obtain⟨u,F,I⟩:=f;refine⟨u,?_,I⟩;have a:w.cell? ⟨x.g,off,none⟩=some u:=o 0 u (by rw[F];rfl);have c:(isAgg t).run P w = .ok false w:=by
    unfold isAgg;rw[Sem.run_bind,run_underlying hd w];cases d<;>simp_all
   simp only[Instr.loadAt,Instr.sureAddr,Sem.run_bind,Sem.run_pure,Result.andThen_ok,loadVar,c];simp[a]
  ·exact⟨_,run_loadAt_mid w x.g off t _ d o hd r (by rw[ht.size,E]),f⟩
theorem c7j (ht:vT P t ti) (hS:gP w G O H nx) {i off:Nat} {a:AV} {H':Hp} {u:Value} (hl:(Nat.beq a.cells.length ti.n&&Nat.blt 0 ti.n&&a.cells.all gY)=true) (h:oJ H i off a.cells=some H') (ha:dv G a=some u) {x:GI} (hx:G i=some x) :
  ∃ w',(Instr.storeAt t (.pointer (some ⟨x.g,off,none⟩)) u).run P w = .ok () w'∧gP w' G O H' nx∧oZ w G O w' G O:=by
 simp only[aD] at hl;obtain⟨⟨L,M⟩,s⟩:=hl;have p:=aC L;have S:0 < ti.n:=by simpa [Nat.blt_eq] using M
 have E:=a1l s ha;have F:=xO s E;unfold oJ at h;obtain⟨b,C,h⟩:=aA.1 h;obtain⟨b',d,rfl⟩:=aB.1 h;unfold cU.put at d;cases W:Nat.ble (off+a.cells.length) b.cs.length<;>rw[W] at d
 ·cases d
 ·have I:off+a.cells.length≤b.cs.length:=aN W;obtain⟨T,f,m,e,fr,U,N,D,h4,h5,Q⟩:=hS.cells C (fun q=>by rw[q,List.length_nil] at I;omega);rw[hx] at U;cases U;have:=Q (fun R q=>by rw[q] at d;cases d);subst this;have J:=dM N;have r:=dM E;have K:off+0+u.cells.toList.length≤(f++m).toArray.size:=by
   rw[List.size_toArray,aE,J,r];omega
  have j:=run_storeCells_at (P:=P) x.g off e u.cells.toList 0 _ w D K F;generalize hY:(List.take (off+0) (f++m).toArray.toList++u.cells.toList++List.drop (off+0+u.cells.toList.length) (f++m).toArray.toList).toArray=Y at j;refine⟨w.setRow x.g Y,?_,hS.set C h4 hx ⟨rfl,rfl,rfl,by simp,fun k _ hk=>setRow_other w x.g k _ hk⟩ ?_⟩
  ·simp only[Instr.storeAt,Instr.sureAddr,Sem.run_bind,Sem.run_pure,Result.andThen_ok,storeVar,sizeOf,typeInfo];obtain⟨i',z,k1,k2,_⟩:=ht.info;have hs:u.cells.size=i'.size:=by rw[k2,← p,← r];simp
   simp[k1,hs,j]
  ·have l:=sI N E off;have B:=setRow_heap w x.g (f++m).toArray Y e (0,0) D;rw[← hY] at B ⊢;have X:(f++m).toArray.toList.take (off+0)++u.cells.toList++(f++m).toArray.toList.drop (off+0+u.cells.toList.length)=(f.take off++u.cells.toList++f.drop (off+u.cells.toList.length))++m:=by
    simp only[Nat.add_zero];rw[List.take_append_of_le_length (by omega),List.drop_append_of_le_length (by omega)];simp
   rw[X] at B ⊢;cases b with
   | dead=>cases d
   | mp es c=>cases d
   | fro e cs=>cases d
   | gho k az=>cases d
   | row R cs =>
    cases d;have:=h5 R rfl;subst this;obtain⟨T,v,_,_,y,V,o⟩:=hS.bs i _ C trivial;rw[hx] at v;cases v;rw[D] at o;simp only[Option.some.injEq,Obj.cells.injEq] at o;refine⟨_,l,?_⟩;rw[B,bA,o.2.1]
   | gro R sz cs =>
    cases d;obtain⟨T,v,_,_,q4,q5,y,A,V,o,q6,q7⟩:=hS.bs i _ C trivial;rw[hx] at v;cases v;have Z:y=f:=by have:dG G cs=some f:=N;rw[V] at this;exact aK this
    subst Z;rw[D] at o;simp only[Option.some.injEq,Obj.cells.injEq] at o;have q9:m=A:=by have:=congrArg Array.toList o.1;simpa using this
    refine⟨q4,q5,_,A,l,?_,?_,q7⟩
    ·rw[B,q9,o.2.1]
    ·rw[← q6];simp only[aE,aJ,aH];omega
end
end Go.Eng
namespace Go.Eng
variable [fP]
open Go.RowKit
variable {P : Program}
theorem lX {α}:∀ (l:List α) (i:Nat),bT l i=l[i]?
 | [],_=>by simp[bT]
 | _::_,0=>rfl
 | _::l,n+1=>by rw[bT,lX l n];simp
theorem b9w {α β} (g:α→Option β):∀ (l:List α) (m:List β),l.length=m.length→(∀ (i:Nat) (a:α) (b:β),l[i]?=some a→m[i]?=some b→g a=some b)→l.mapM g=some m
 | [],[],_,_=>rfl
 | [],_::_,h,_=>by simp at h
 | _::_,[],h,_=>by simp at h
 | a::l,b::m,h,k=>by
  rw[List.mapM_cons,k 0 a b rfl rfl];have:=b9w g l m (by simpa using h) (fun i x y c d=>k (i+1) x y (by simpa using c) (by simpa using d));simp[this]
theorem a4v:∀ (vs:List Value) (k off:Nat) (us:List Value),off+k+vs.length≤us.length →
  (vs.zipIdx k).foldl (fun (cs:Array Value) (p:Value×Nat)=>cs.setIfInBounds (off+p.2) p.1) us.toArray=(us.take (off+k)++vs++us.drop (off+k+vs.length)).toArray
 | [],k,off,us,_=>by simp
 | v::vs,k,off,us,h=>by
  rw[List.zipIdx_cons,List.foldl_cons];simp only[aW] at h;have e:us.toArray.setIfInBounds (off+k) v=(us.set (off+k) v).toArray:=by simp
  rw[e,a4v vs (k+1) off _ (by simp;omega)];congr 1;rw[show off+(k+1)=off+k+1 by omega,aW,show off+k+1+vs.length=off+k+(vs.length+1) by omega];rw[List.take_add_one,List.getElem?_set_self (by omega),List.take_set_of_le (aF _),List.drop_set_of_lt (by omega)];simp
section
variable {w : World} {G : GM} {O : Nat → Prop} {H : Hp} {nx : Nat} {F : Fr} {a : Act}
theorem a6r (hF:∀ x,dv G (ev F x)=some (a.eval x)) {place:Nat→Option (Nat×Nat)}:∀ (l:List (Nat×Operand)) (z cs:List AV) (us:List Value),a4t place z (evs F l)=some cs→dG G z=some us →
  ∃ ws,Instr.fill place us.toArray (l.map fun p=>(p.1,a.eval p.2))=some ws.toArray∧dG G cs=some ws
 | [],z,cs,us,h,e=>by
  cases h;exact⟨us,rfl,e⟩
 | (i,x)::l,z,cs,us,h,e=>by
  simp only[evs,a4t] at h;obtain⟨p,hp,h⟩:=aA.1 h;cases f:((ev F x).cells.all gY&&Nat.beq (ev F x).cells.length p.2&&Nat.ble (p.1+p.2) z.length)<;>rw[f] at h
  ·cases h
  ·simp only[aD] at f;obtain⟨⟨r,d⟩,c⟩:=f;have g:=a1l r (hF x);have j:=dM g;have u:=dM e;have d:=aC d;have c:=aN c;have hs:(a.eval x).cells.size=p.2:=by rw[← bD,j,d]
   obtain⟨ws,s,t⟩:=a6r hF l _ cs _ h (sI e g p.1);refine⟨ws,?_,t⟩;rw[← s];obtain⟨b,size⟩:=p;simp only[List.map_cons,Instr.fill,hp];have m:¬ ((a.eval x).cells.size≠size∨b+(a.eval x).cells.size > us.toArray.size):=by
    simp only[List.size_toArray] ; dsimp only at hs c;omega
   have o:=a4v (a.eval x).cells.toList 0 b us (by rw[bD,hs];dsimp only at c;omega);simp only[Bool.or_eq_true,decide_eq_true_eq,m,if_false];rw[← Array.foldl_toList,Array.toList_zipIdx,o];simp
theorem c7k {t:Nat} {ti:TI} (ht:vT P t ti) (hk:ti.tk.agg=true) (hF:∀ x,dv G (ev F x)=some (a.eval x)) {ps:Array (Nat×Operand)} {cs:List AV}
  (h:a4t (fun i=>bif ti.tk.arr then some (i*ti.es,ti.es) else (bT ti.fs i).map fun p=>(p.1,p.2.1)) ti.z (evs F ps.toList)=some cs) :
  ∃ u,(Instr.build t (ps.map fun (i,x)=>(i,a.eval x))).run P w = .ok u w∧dv G (.agg cs)=some u:=by
 obtain⟨i,z,r,Q,s,D⟩:=ht.info;obtain⟨v,y,E⟩:=a6r hF _ _ _ _ h (cT (a4u G) D);refine⟨.agg v.toArray,run_build w t _ v.toArray ?_,by show (dG G cs).map _=_;rw[E];rfl⟩;have e:(ps.map fun (i,x)=>(i,a.eval x)).toList=ps.toList.map fun p=>(p.1,a.eval p.2):=by simp
 rw[e];unfold Program.built;cases c:ti.tk with
 | struct =>
  obtain⟨fs,l,m,o⟩:=ht.st (by rw[c];rfl);have C:fs.toList.mapM (fun f=>(P.info? f.type).map fun i=>(f.offset,i.size))=some (ti.fs.map fun p=>(p.1,p.2.1)):=by
   refine b9w _ _ _ (by simpa using m) (fun j f b A B=>?_);rw[List.getElem?_map] at B;obtain⟨p,I,rfl⟩:=aB.1 B;obtain⟨J,K,d,L,M,N,O,_⟩:=o j p (by rw[lX];exact I);have:f=J:=by rw[Array.getElem?_toList,L] at A;exact(aK A).symm
   subst this;rw[N,M,← O];rfl
  simp only[r,l,s,C];have g:(fun x=>(List.map (fun p=>(p.fst,p.snd.fst)) ti.fs).toArray[x]?)=(fun i=>bif ti.tk.arr then some (i*ti.es,ti.es) else (bT ti.fs i).map fun p=>(p.1,p.2.1)):=by
   funext j;rw[c,lX];simp[TK.arr]
  rw[g];simpa using y
 | array =>
  have l:=ht.ar (by rw[c];rfl);obtain⟨K,R,m,o,_⟩:=ht.el (.inl (by rw[c];rfl));simp only[r,l,s,m,o];have g:(fun j=>some (j*ti.es,ti.es))=(fun i=>bif ti.tk.arr then some (i*ti.es,ti.es) else (bT ti.fs i).map fun p=>(p.1,p.2.1)):=by
   funext j;rw[c];rfl
  rw[g];simpa using y
 | _=>rw[c] at hk;cases hk
theorem a0n {z:List AV} {us:List Value} (h:dG G z=some us):∀ n,dG G (rep z n)=some ((List.replicate n us).flatten)
 | 0=>rfl
 | n+1=>by rw[rep,eL];exact⟨us,_,h,a0n h n,by simp[List.replicate_succ]⟩
theorem a1m (z:Array Value) (n:Nat):(Array.range (n*z.size)).map (fun i=>z[i % z.size]!)=((List.replicate n z.toList).flatten).toArray:=by
 apply Array.toList_inj.1;simp only[Array.toList_map,Array.toList_range]
 induction n with
 | zero=>simp
 | succ n ih =>
  rw[Nat.add_mul,Nat.one_mul,Nat.add_comm,List.range_add,List.map_append,List.map_map,List.replicate_succ,List.flatten_cons];congr 1
  ·apply List.ext_getElem?;intro i;by_cases a:i < z.size
   ·simp[a,Nat.mod_eq_of_lt a]
   ·simp[a]
  ·rw[← ih];apply List.map_congr_left;intro i _;simp
end
end Go.Eng
namespace Go.Eng
variable [fP]
open Go.RowKit
variable {P : Program}
theorem e0w {op:BinOp} {T:TypeId} {k:IntKind} {x y:Int} {t:Bool} (h:cmp op x y=some t) (w:World):(Go.binOp op T (.int k x) (.int k y)).run P w = .ok (.bool t) w:=by
 cases op<;>cases h<;>simp[Go.binOp,Op.intCmp]
theorem b0d {op:BinOp} {T:TypeId} {k k':IntKind} {x y c:Int} (h:a4s op k x y=some c) (hk:((k==k')||(op == .shl)||(op == .shr))=true) (w:World):(Go.binOp op T (.int k x) (.int k' y)).run P w = .ok (.int k c) w:=by
 by_cases e:k=k'
 ·subst e;have d:∀ z:Int,(bif y==0 then none else some z)=some c→y≠0∧z=c:=fun z h=>by
   cases a:(y==0)<;>rw[a] at h
   ·cases h;exact⟨by simpa using a,rfl⟩
   ·cases h
  have hs:∀ z:Int,(bif decide (y < 0) then none else some z)=some c→¬ y < 0∧z=c:=fun z h=>by
   cases a:decide (y < 0)<;>rw[a] at h
   ·cases h;exact⟨by simpa using a,rfl⟩
   ·cases h
  cases op<;>simp only[a4s] at h<;>first
   | (cases h;done)
   | (cases h;simp[Go.binOp,Op.intArith,Op.intBits];done)
   | (obtain⟨b,rfl⟩:=d _ h;simp[Go.binOp,Op.intDiv,b];done)
   | (obtain⟨b,rfl⟩:=hs _ h;simp[Go.binOp,Op.shift,b];done)
 ·have hs:op = .shl∨op = .shr:=by
   simp only[Bool.or_eq_true,beq_iff_eq] at hk;rcases hk with(hk|hk)|hk
   ·exact absurd hk e
   ·exact .inl hk
   ·exact .inr hk
  rcases hs with rfl|rfl
  ·simp only[a4s] at h;cases a:decide (y < 0)<;>rw[a] at h
   ·cases h;simp at a;simp[Go.binOp,Op.shift,show ¬ y < 0 by omega]
   ·cases h
  ·simp only[a4s] at h;cases a:decide (y < 0)<;>rw[a] at h
   ·cases h;simp at a;simp[Go.binOp,Op.shift,show ¬ y < 0 by omega]
   ·cases h
theorem d5c {bd:Bd} (hb:BD bd) {op:BinOp} {T:TypeId} {k:IntKind} {x y:eK} {t:Bool} (h:e0v bd op x y=some t) (w:World):(Go.binOp op T (.int k x.val) (.int k y.val)).run P w = .ok (.bool t) w:=by
 cases op<;>simp only[e0v] at h<;>first
  | (cases h;done)
  | (have e:=eK.eq_ok hb h;subst e;simp[Go.binOp,Op.intCmp];done)
  | (have e:=eK.lt_ok hb h;subst e;simp[Go.binOp,Op.intCmp];done)
  | (obtain⟨b,a,rfl⟩:=aB.1 h;have e:=eK.eq_ok hb a;subst e;simp[Go.binOp,Op.intCmp,bne];done)
  | (obtain⟨b,a,rfl⟩:=aB.1 h;have e:=eK.lt_ok hb a;subst e;simp[Go.binOp,Op.intCmp];rw[← decide_not];congr 1;exact propext (by omega))
theorem c3d {bd : Bd} (hb : BD bd) {op : BinOp} {T : TypeId} {k : IntKind} {x y z : eK} (h : b5e bd op k x y = some z) (w : World) : (Go.binOp op T (.int k x.val) (.int k y.val)).run P w = .ok (.int k z.val) w := by
  cases op <;> simp only [b5e] at h <;> first
    | (cases h; done)
    | (cases hq : (x.add y).inK bd k <;> rw [hq] at h <;> cases h; have e := eK.inK_ok hb hq; rw [eK.val_add] at e ⊢; simp [Go.binOp, Op.intArith, e]; done)
    | (cases hq : (x.sub y).inK bd k <;> rw [hq] at h <;> cases h; have e := eK.inK_ok hb hq; rw [eK.val_sub] at e ⊢; simp [Go.binOp, Op.intArith, e]; done)
    | (cases hq : y.kn && decide (0 ≤ y.c) <;> rw [hq] at h
       · cases h
       · rw [aD] at hq
         obtain ⟨⟨q, r⟩, h1, h2⟩ := aB.1 (show Option.map _ _ = _ from h)
         cases h2
         obtain ⟨g1, g2, g3, g4⟩ := eK.dm_ok hb h1
         have hy := bI hq.2
         rw [eK.val_kn hq.1]
         refine b0d (op := .shr) ?_ (by simp) w
         simp only [a4s]
         rw [decide_eq_false (by omega), cond_false, (b9o g1 g2 g3 g4).1])
theorem c7l {bd:Bd} (hb:BD bd) {k:IntKind} {e:eK} {v:AV} (h:c7d bd k e=some v) (G:GM):dv G v=some (.int k (k.wrap e.val)):=by
 unfold c7d at h;cases a:e.kn<;>rw[a] at h
 ·dsimp only[cond_false] at h;cases b:e.inK bd k<;>rw[b] at h
  ·dsimp only[cond_false] at h;cases hs:k.signed<;>rw[hs] at h
   ·obtain⟨⟨q,r⟩,c,d⟩:=aB.1 (show Option.map _ _=_ from h);cases d;obtain⟨f,g,i,j⟩:=eK.dm_ok hb c;rw[rA];have:=(b9o f g i j).2;unfold IntKind.wrap;simp only[hs,Bool.false_and,Bool.false_eq_true,if_false,this]
   ·cases h
  ·cases h;rw[eK.inK_ok hb b];rfl
 ·cases h;rw[eK.val_kn a];rfl
theorem c7m {bd:Bd} (hb:BD bd) {x y:eK} {t:Bool} (h:(bif x.kn&&y.kn then some (x.c==y.c) else x.eq bd y)=some t):t=(x.val==y.val):=by
 cases a:x.kn&&y.kn<;>rw[a] at h
 ·exact eK.eq_ok hb h
 ·rw[aD] at a;cases h;rw[eK.val_kn a.1,eK.val_kn a.2]
theorem a4w {bd:Bd} (hb:BD bd) {e:TypeId} {ke:IntKind} {d:Nat} (he:P.underlying e=some (.int ke)) {G:GM} (w:World):∀ {l m:List AV} {t:Bool} (pre pre' us vs:List Value),xN bd l m=some t→pre.length=pre'.length→dG G l=some us→dG G m=some vs →
  (Op.eqItems (d+1) e 1 (pre++us).toArray (pre'++vs).toArray ((List.range us.length).map (·+pre.length))).run P w = .ok t w
 | [],[],t,pre,pre',us,vs,h,hp,h1,h2=>by
  cases h;cases h1;simp[Op.eqItems]
 | [],_::_,t,pre,pre',us,vs,h,hp,h1,h2=>by cases h
 | _::_,[],t,pre,pre',us,vs,h,hp,h1,h2=>by cases h
 | a::l,b::m,t,pre,pre',us,vs,h,hp,h1,h2=>by
  simp only[xN] at h;split at h
  ·rename_i k x k' y e1 e2;cases hk : !(k==k')<;>rw[hk] at h
   ·have hk:k=k':=by simpa using hk
    subst hk;obtain⟨u,C,v⟩:=aA.1 h;obtain⟨J,g,D,E,rfl⟩:=bS.1 h1;obtain⟨K,j,F,I,rfl⟩:=bS.1 h2;have z:=jG e1 (cZ D);have A:=jG e2 (cZ F);subst z;subst A;have B:u=(x.val==y.val):=c7m hb C;have f:∀ (s:List Value) (c:Int) (tl:List Value),(Go.part e (s ++ .int k c::tl).toArray (s.length*1)).run P w = .ok (.int k c) w:=fun s c tl=>by
     have o:(isAgg e).run P w = .ok false w:=by
      unfold isAgg;rw[Sem.run_bind,run_underlying he w];rfl
     simp[Go.part,o]
    have r:=f pre x.val g;have p:=f pre' y.val j;rw[← hp] at p;rw[aW,List.range_succ_eq_map,List.map_cons,List.map_map];simp only[Op.eqItems,Sem.run_bind,aM,r,p,Result.andThen_ok,run_equalIn_int w d e k ke x.val y.val he];rw[← B];cases u
    ·cases v;simp
    ·have:=a4w hb (d:=d) he w (pre++[.int k x.val]) (pre'++[.int k y.val]) g j v (by simp[hp]) E I;simp only[Bool.not_true,Bool.false_eq_true,if_false];rw[show (pre++[Value.int k x.val]++g).toArray=(pre++Value.int k x.val::g).toArray by simp,show (pre'++[Value.int k y.val]++j).toArray=(pre'++Value.int k y.val::j).toArray by simp] at this;rw[← this];congr 2;apply List.map_congr_left;intro i _;simp;omega
   ·cases h
  ·cases h
theorem zK {bd:Bd} (hb:BD bd) {d:Nat} {G:GM} (w:World):∀ {l m:List AV} {t:Bool} (fs:List Field) (pre pre' us vs:List Value),xN bd l m=some t→pre.length=pre'.length→dG G l=some us→dG G m=some vs→b9t P fs pre.length→fs.length=us.length →
  (Op.eqFields (d+1) (pre++us).toArray (pre'++vs).toArray fs).run P w = .ok t w
 | [],[],t,fs,pre,pre',us,vs,h,hp,h1,h2,hf,hl=>by
  cases h;cases h1;have:fs=[]:=List.eq_nil_of_length_eq_zero hl;subst this;simp[Op.eqFields]
 | [],_::_,t,fs,pre,pre',us,vs,h,hp,h1,h2,hf,hl=>by cases h
 | _::_,[],t,fs,pre,pre',us,vs,h,hp,h1,h2,hf,hl=>by cases h
 | a::l,b::m,t,fs,pre,pre',us,vs,h,hp,h1,h2,hf,hl=>by
  simp only[xN] at h;split at h
  ·rename_i k x z y E F;cases r : !(k==z)<;>rw[r] at h
   ·have r:k=z:=by simpa using r
    subst r;obtain⟨u,I,A⟩:=aA.1 h;obtain⟨S,i,J,K,rfl⟩:=bS.1 h1;obtain⟨T,j,L,M,rfl⟩:=bS.1 h2;have B:=jG E (cZ J);have C:=jG F (cZ L);subst B;subst C;have D:u=(x.val==y.val):=c7m hb I;cases fs with
    | nil=>simp at hl
    | cons f fs =>
     obtain⟨N,O,⟨Q,he⟩,R⟩:=hf;have g:∀ (v:List Value) (c:Int) (tl:List Value),(Go.part f.type (v ++ .int k c::tl).toArray v.length).run P w = .ok (.int k c) w:=fun v c tl=>by
      have o:(isAgg f.type).run P w = .ok false w:=by
       unfold isAgg;rw[Sem.run_bind,run_underlying he w];rfl
      simp[Go.part,o]
     have s:=g pre x.val i;have p:=g pre' y.val j;rw[← hp] at p;simp only[Op.eqFields,O,ne_eq,not_false_eq_true,if_true,N,Sem.run_bind,s,p,Result.andThen_ok,run_equalIn_int w d f.type k Q x.val y.val he];rw[← D];cases u
     ·cases A;simp
     ·have:=zK hb (d:=d) w fs (pre++[.int k x.val]) (pre'++[.int k y.val]) i j A (by simp[hp]) K M (by simpa using R) (by simpa using hl);simp only[Bool.not_true,Bool.false_eq_true,if_false];rw[show (pre++[Value.int k x.val]++i).toArray=(pre++Value.int k x.val::i).toArray by simp,show (pre'++[Value.int k y.val]++j).toArray=(pre'++Value.int k y.val::j).toArray by simp] at this;exact this
   ·cases h
  ·cases h
end Go.Eng
namespace Go.Eng
variable [fP]
open Go.RowKit
variable {P : Program} {G : GM}
theorem sJ (op:BinOp) (T:TypeId) (X Y:Operand) (k k':IntKind) (a b:Int) (w:World):(eqGuard op T X Y (.int k a) (.int k' b)).run P w = .ok () w:=by
 cases op<;>simp[eqGuard]
theorem c3e (op:BinOp) (T:TypeId) (X Y:Operand) (a b:ByteArray) (w:World):(eqGuard op T X Y (.string a) (.string b)).run P w = .ok () w:=by
 cases op<;>simp[eqGuard]
theorem b9x {T e:TypeId} (hd:P.underlying T=some (.pointer e)) (d:Nat) (a:Option Addr) (w:World):(Op.equalIn (d+1) T (.pointer a) (.pointer none)).run P w = .ok a.isNone w:=by
 cases a<;>simp[Op.equalIn,run_underlying hd]
theorem a6s {T e:TypeId} (hd:P.underlying T=some (.slice e)) (d:Nat) (a:Option Addr) (n c:Nat) (w:World):(Op.equalIn (d+1) T (.slice a n c) (.slice none 0 0)).run P w = .ok a.isNone w:=by
 cases a<;>simp[Op.equalIn,run_underlying hd]
theorem e0x {T:TypeId} {ti:TI} (ht:vT P T ti) {x y:AV} {t:Bool} (h:eq1 ti.tk x y=some t) {u v:Value} (hx:dv G x=some u) (hy:dv G y=some v) (w:World) (X Y:Operand) (op:BinOp) :
  (eqGuard op T X Y u v).run P w = .ok () w∧(Op.equal T u v).run P w = .ok t w:=by
 have hd:=ht.desc;generalize a:ti.tk=K at h hd;unfold eq1 at h;split at h
 ·cases h;cases hx;cases hy;exact⟨by cases op<;>simp[eqGuard],run_equal_bool w T _ _ hd⟩
 ·cases h;cases hx;cases hy;obtain⟨e,hd⟩:=hd;exact⟨by cases op<;>simp[eqGuard],b9x hd 9999 none w⟩
 ·cases h;cases hy;obtain⟨e,hd⟩:=hd;obtain⟨g,_,rfl⟩:=aB.1 (show Option.map _ _=_ from hx);exact⟨by cases op<;>simp[eqGuard],b9x hd 9999 _ w⟩
 ·cases h;cases hx;cases hy;exact⟨by cases op<;>simp[eqGuard],a6s hd 9999 none 0 0 w⟩
 ·cases h;cases hy;obtain⟨g,_,rfl⟩:=aB.1 (show Option.map _ _=_ from hx);exact⟨by cases op<;>simp[eqGuard],a6s hd 9999 _ _ _ w⟩
 ·cases h;cases hy;obtain⟨g,_,rfl⟩:=aB.1 (show Option.map _ _=_ from hx);exact⟨by cases op<;>simp[eqGuard],a6s hd 9999 _ _ _ w⟩
 ·cases h
theorem c7n {K:TK} {x y:AV} {t:Bool} (h:eq1 K x y=some t) {u v:Value} (hx:dv G x=some u) (hy:dv G y=some v) (op:BinOp) (T:TypeId) {b:Bool} (hb:c7e op t=some b) (w:World) (he:(Op.equal T u v).run P w = .ok t w) :
  (Go.binOp op T u v).run P w = .ok (.bool b) w:=by
 have d:(∃ a b,u = .bool a∧v = .bool b)∨(∃ a,u = .pointer a∧v = .pointer none)∨(∃ a n c,u = .slice a n c∧v = .slice none 0 0):=by
  unfold eq1 at h;split at h
  ·cases hx;cases hy;exact .inl ⟨_,_,rfl,rfl⟩
  ·cases hx;cases hy;exact .inr (.inl ⟨_,rfl,rfl⟩)
  ·cases hy;obtain⟨g,_,rfl⟩:=aB.1 (show Option.map _ _=_ from hx);exact .inr (.inl ⟨_,rfl,rfl⟩)
  ·cases hx;cases hy;exact .inr (.inr ⟨_,_,_,rfl,rfl⟩)
  ·cases hy;obtain⟨g,_,rfl⟩:=aB.1 (show Option.map _ _=_ from hx);exact .inr (.inr ⟨_,_,_,rfl,rfl⟩)
  ·cases hy;obtain⟨g,_,rfl⟩:=aB.1 (show Option.map _ _=_ from hx);exact .inr (.inr ⟨_,_,_,rfl,rfl⟩)
  ·cases h
 unfold c7e at hb;split at hb
 ·cases hb;rcases d with⟨a,b,rfl,rfl⟩|⟨a,rfl,rfl⟩|⟨a,n,c,rfl,rfl⟩<;>simp only[Go.binOp,Sem.run_bind,he,Result.andThen_ok,Sem.run_pure]
 ·cases hb;rcases d with⟨a,b,rfl,rfl⟩|⟨a,rfl,rfl⟩|⟨a,n,c,rfl,rfl⟩<;>simp only[Go.binOp,Sem.run_bind,he,Result.andThen_ok,Sem.run_pure]
 ·cases hb
theorem c7o {bd:Bd} (hb:BD bd) {ti:TI} {T:TypeId} (ht:vT P T ti) {op:BinOp} {x y v:AV} (h:c7f bd ti op x y=some v) {u1 u2:Value} (hx:dv G x=some u1) (hy:dv G y=some u2) (w:World) (X Y:Operand) :
  ∃ u,(eqGuard op T X Y u1 u2).run P w = .ok () w∧(Go.binOp op T u1 u2).run P w = .ok u w∧dv G v=some u:=by
 unfold c7f at h;split at h
 ·rename_i k a B b R S;have:=jG R hx;subst this;have:=jG S hy;subst this;cases f:(k==B)||(op == .shl)||(op == .shr)<;>rw[f] at h
  ·cases h
  ·dsimp only[cond_true] at h;cases l:a.kn&&b.kn<;>rw[l] at h
   ·dsimp only[cond_false] at h;cases g:k==B<;>rw[g] at h
    ·cases h
    ·have g:k=B:=by simpa using g
     subst g;dsimp only[cond_true] at h;split at h
     ·rename_i t s;cases h;exact⟨.bool t,sJ ..,d5c hb s w,rfl⟩
     ·obtain⟨c,j,m⟩:=aB.1 h;cases m;exact⟨_,sJ ..,c3d hb j w,rA _ _⟩
   ·rw[aD] at l;rw[eK.val_kn l.1,eK.val_kn l.2];dsimp only[cond_true] at h;split at h
    ·rename_i t s;have g:k=B:=by
      simp only[Bool.or_eq_true,beq_iff_eq] at f;rcases f with(f|f)|f
      ·exact f
      ·subst f;cases s
      ·subst f;cases s
     subst g;cases h;exact⟨.bool t,sJ ..,e0w s w,rfl⟩
    ·obtain⟨c,j,m⟩:=aB.1 h;cases m;exact⟨.int k c,sJ ..,b0d j f w,rfl⟩
 ·split at h
  ·cases hx;cases hy;split at h<;>cases h<;>exact⟨_,c3e ..,by simp[Go.binOp,Op.stringOp,Go.ByteArray.toList_eq],rfl⟩
  ·rename_i a b _;cases f:(ti.tk.arr&&ti.eint&&Nat.beq ti.es 1&&Nat.beq a.length ti.len&&Nat.beq b.length ti.len)||(ti.sint&&Nat.beq a.length ti.n&&Nat.beq b.length ti.n)<;>rw[f] at h
   ·cases h
   ·obtain⟨t,j,m⟩:=aA.1 h;obtain⟨c,o,D⟩:=aB.1 m;cases D;obtain⟨E,C,rfl⟩:=aB.1 (show Option.map _ (dG G a)=_ from hx);obtain⟨F,K,rfl⟩:=aB.1 (show Option.map _ (dG G b)=_ from hy);have key:P.eqGuardType P.depth T=false∧(Op.equalIn 10000 T (.agg E.toArray) (.agg F.toArray)).run P w = .ok t w:=by
     rw[Bool.or_eq_true] at f;rcases f with f|f
     ·simp only[aD] at f;obtain⟨⟨⟨⟨A,L⟩,U⟩,I⟩,V⟩:=f;have Q:=ht.ar A;obtain⟨ke,J⟩:=ht.eint L;obtain⟨i,z,M,W,_⟩:=ht.el (.inl A);have p:P.cellsOf ti.el=1:=by rw[Program.cellsOf,M];exact W.trans (aC U)
      refine⟨ht.aeq A L,?_⟩;rw[run_equalIn_array w 9999 _ _ Q M,p];have:=a4w hb (d:=9998) J w [] [] E F j rfl C K;rw[dM C,aC I] at this;simpa using this
     ·simp only[aD] at f;obtain⟨⟨A,I⟩,V⟩:=f;obtain⟨N,O,Z,f3,f4,f5⟩:=ht.sint A;refine⟨f5,?_⟩;have r:P.fieldsOf T=N:=by unfold Program.fieldsOf;rw[O]
      rw[run_equalIn_struct w 9999 T _ _ (by rw[r];exact O) f4,r];have:=zK hb (P:=P) (d:=9998) w N.toList [] [] E F j rfl C K Z (by rw[dM C,aC I];simpa using f3);simpa using this
    obtain⟨hg,he⟩:=key;refine⟨.bool c,run_eqGuard_agg w op T X Y _ _ hg,?_,rfl⟩;unfold c7e at o;split at o
    ·cases o;rw[run_eql_struct w,he];rfl
    ·cases o;rw[run_neq_struct w,he];rfl
    ·cases o
  ·obtain⟨t,j,m⟩:=aA.1 h;obtain⟨c,o,D⟩:=aB.1 m;cases D;obtain⟨e1,e2⟩:=e0x ht j hx hy w X Y op;exact⟨.bool c,e1,c7n j hx hy op T o w e2,rfl⟩
end Go.Eng
namespace Go.Eng
variable [fP]
open Go.RowKit
variable {P : Program} {G : GM}
def fnd:List (Int×Value)→Int→Nat→Option (Nat×Value)
 | [],_,_=>none
 | (k,u)::l,n,j=>if n=k then some (j,u) else fnd l n (j+1)
def oK (n:Int) (v:Value):List (Int×Value)→List (Int×Value)
 | []=>[(n,v)]
 | (k,u)::l=>if n=k then (k,v)::l else (k,u)::oK n v l
theorem rB (n:Int):∀ (us:List (Int×Value)) (b j:Nat),Instr.findNow (.int .i64) (.int .i64 n) (eS us b) j=some (fnd us n j)
 | [],b,j=>rfl
 | (k,u)::l,b,j=>by
  simp only[eS,Instr.findNow,Instr.sameNow,if_true,fnd];by_cases e:n=k
  ·subst e;simp
  ·have:(n==k)=false:=by simpa using e
   rw[this,if_neg e];exact rB n l (b+1) (j+1)
theorem b0e:∀ (us:List (Int×Value)) (b:Nat),(eS us b).length=us.length
 | [],b=>rfl
 | (k,u)::l,b=>by simp[eS,b0e l]
theorem b0f {n:Int} {v u:Value}:∀ {us:List (Int×Value)} {j i:Nat},fnd us n j=some (i,u)→∀ b,∃ m,i=j+m∧((eS us b)[m]?.map (·.key))=some (.int .i64 n)∧(eS us b).modify m (fun e=>{ e with key := .int .i64 n,val:=v })=eS (oK n v us) b∧(oK n v us).length=us.length
 | [],j,i,h,b=>by cases h
 | (k,w)::l,j,i,h,b=>by
  simp only[fnd] at h;by_cases e:n=k
  ·subst e;rw[if_pos rfl] at h;cases h;exact⟨0,rfl,rfl,by simp[eS,oK],by simp[oK]⟩
  ·rw[if_neg e] at h;obtain⟨m,h1,h2,h3,h4⟩:=b0f (v:=v) h (b+1);refine⟨m+1,by omega,by simpa [eS] using h2,?_,by simp[oK,e,h4]⟩;simp only[eS,oK,if_neg e,List.modify_succ_cons,h3]
theorem b0g {n:Int} {v:Value}:∀ {us:List (Int×Value)} {j:Nat},fnd us n j=none→oK n v us=us++[(n,v)]
 | [],j,h=>rfl
 | (k,w)::l,j,h=>by
  simp only[fnd] at h;by_cases e:n=k
  ·rw[if_pos e] at h;cases h
  ·rw[if_neg e] at h;simp only[oK,if_neg e,b0g h,List.cons_append]
theorem vU (n:Int) (v:Value):∀ (us:List (Int×Value)) (b:Nat),eS (us++[(n,v)]) b=eS us b++[⟨.int .i64 n,v,b+us.length⟩]
 | [],b=>rfl
 | (k,u)::l,b=>by
  simp only[List.cons_append,eS,vU n v l (b+1),aW];congr 4;omega
theorem a6t {t kt et:TypeId} (h1:P.underlying t=some (.map kt et)) (h2:P.underlying kt=some (.int .i64)) {w:World} {r:Nat} {us:List (Int×Value)} (hb:w.heap[r]?=some (.map (eS us 0).toArray us.length)) (n:Int) (v:Value) :
  (Instr.mapUpdate t (.map (some r)) (.int .i64 n) v).run P w = .ok () { w with heap:=w.heap.setIfInBounds r (.map (eS (oK n v us) 0).toArray (oK n v us).length) }:=by
 have b:(Instr.checkKey false 10000 kt (.int .i64 n)).run P w = .ok () w:=MapKept.run_checkKey h2 (show MapKept.IsKey (.int .i64) (.int .i64 n) from rfl) _ 9999;have a:(Instr.findKey kt (.int .i64 n) (eS us 0)).run P w = .ok (fnd us n 0) w:=MapKept.run_findKey h2 (rB n us 0 0);have hs:(Instr.sameBits 10000 (.int .i64 n) (.int .i64 n))=true:=by simp[Instr.sameBits]
 unfold Instr.mapUpdate;cases d:fnd us n 0 with
 | none =>
  rw[d] at a;simp only[Sem.run_bind,run_underlying h1 w,Result.andThen_ok,MapKept.run_getObj_map hb,b,a];rw[MapKept.run_setObj_map _ hb,b0g d,vU];simp
 | some p =>
  obtain⟨i,u⟩:=p;rw[d] at a;obtain⟨m,j,f,g,h⟩:=b0f (v:=v) d 0;have:i=m:=by omega
  subst this;have c:(((eS us 0).toArray[i]?).map (·.key)).getD (.int .i64 n) = .int .i64 n:=by
   rw[List.getElem?_toArray,f];rfl
  simp only[Sem.run_bind,run_underlying h1 w,Result.andThen_ok,MapKept.run_getObj_map hb,b,a,Instr.keyThatStays,c,hs,if_true,Sem.run_pure];rw[MapKept.run_setObj_map _ hb,h];have:(eS us 0).toArray.modify i (fun e=>{ e with key := .int .i64 n,val:=v })=(eS (oK n v us) 0).toArray:=by
   apply Array.toList_inj.1;rw[Array.toList_modify];exact g
  rw[this]
theorem c3f {t kt et:TypeId} (h1:P.underlying t=some (.map kt et)) (h2:P.underlying kt=some (.int .i64)) {w:World} {r:Nat} {us:List (Int×Value)} {c:Nat} (hb:w.heap[r]?=some (.map (eS us 0).toArray c)) (n:Int) {z:Value} {i:TypeInfo} (hi:P.info? et=some i) (hz:i.zero=some z) :
  (Instr.lookup t (.map (some r)) (.int .i64 n) false).run P w = .ok (((fnd us n 0).map (·.2)).getD z) w:=by
 have a:∀ e,(Instr.checkKey e 10000 kt (.int .i64 n)).run P w = .ok () w:=fun e=>MapKept.run_checkKey h2 (show MapKept.IsKey (.int .i64) (.int .i64 n) from rfl) _ 9999
 have b:(Instr.findKey kt (.int .i64 n) (eS us 0)).run P w = .ok (fnd us n 0) w:=MapKept.run_findKey h2 (rB n us 0 0);have d:(zeroValue et).run P w = .ok z w:=by
  unfold zeroValue typeInfo;simp[hi,hz]
 unfold Instr.lookup;simp only[Sem.run_bind,run_underlying h1 w,Result.andThen_ok,MapKept.run_getObj_map hb,a,Sem.run_pure];rw[b];cases f:fnd us n 0 with
 | none=>simp[d]
 | some p=>simp
/-! Maps whose keys are structs: az long az they are empty. -/
theorem c3g {w:World} {t:TypeId} {cs:Array Value} {off:Nat} (ht:(∃ k,P.underlying t=some (.int k))∨P.underlying t=some .string) (ho:off < cs.size):(Go.part t cs off).run P w = .ok cs[off] w:=by
 have a:(isAgg t).run P w = .ok false w:=by
  unfold isAgg;rcases ht with⟨k,h⟩|h<;>rw[Sem.run_bind,run_underlying h w]<;>rfl
 unfold Go.part;simp[Sem.run_bind,a,ho]
theorem a1n {w:World} {t:TypeId} (ht:(∃ k,P.underlying t=some (.int k))∨P.underlying t=some .string) (v:Value) (em:Bool) (n:Nat):(Instr.checkKey em (n+1) t v).run P w = .ok () w:=by
 unfold Instr.checkKey;rcases ht with⟨k,h⟩|h<;>simp[run_underlying h w]
theorem zL {w:World} {kt:TypeId} {fs:Array Field} (h:P.underlying kt=some (.struct fs)) {cs:Array Value} (hp:KPl P fs.toList cs.size) (em:Bool):(Instr.checkKey em 10000 kt (.agg cs)).run P w = .ok () w:=by
 rw[show 10000=9999+1 from rfl,Instr.checkKey];simp only[Sem.run_bind,run_underlying h w,Result.andThen_ok];rw[← Array.forIn_toList];generalize fs.toList=L at hp
 induction L with
 | nil=>simp
 | cons f L ih =>
  obtain⟨g,c⟩:=hp f (by simp);have p1:=c3g (w:=w) c g;have a:=a1n (w:=w) c cs[f.offset] em 9998;have a:(Instr.checkKey em 9999 f.type cs[f.offset]).run P w = .ok () w:=a;by_cases d:f.name = "_"
  ·simp only[List.forIn_cons,Sem.run_bind,d,ne_eq,not_true_eq_false,if_false,Sem.run_pure,Result.andThen_ok];exact ih (fun y b=>hp y (by simp[b]))
  ·simp only[List.forIn_cons,Sem.run_bind,d,ne_eq,not_false_eq_true,if_true,Result.andThen_ok,p1,a,Sem.run_pure];exact ih (fun y b=>hp y (by simp[b]))
theorem zM {w:World} {kt:TypeId} {fs:Array Field} (h:P.underlying kt=some (.struct fs)) (v:Value):(Instr.findKey kt v []).run P w = .ok none w:=MapKept.run_findKey h rfl
theorem a6u {t kt et:TypeId} {fs:Array Field} (h1:P.underlying t=some (.map kt et)) (h2:P.underlying kt=some (.struct fs)) {cs:Array Value} (hp:KPl P fs.toList cs.size) {w:World} {r c:Nat} (hb:w.heap[r]?=some (.map #[] c)) (v:Value) :
  ∃ o,(Instr.mapUpdate t (.map (some r)) (.agg cs) v).run P w = .ok () { w with heap:=w.heap.setIfInBounds r o }:=by
 refine⟨.map #[⟨.agg cs,v,c⟩] (c+1),?_⟩;unfold Instr.mapUpdate;simp only[Sem.run_bind,run_underlying h1 w,Result.andThen_ok,MapKept.run_getObj_map hb,zL h2 hp,zM h2];rw[MapKept.run_setObj_map _ hb];rfl
theorem c3h {t kt et:TypeId} {fs:Array Field} (h1:P.underlying t=some (.map kt et)) (h2:P.underlying kt=some (.struct fs)) {cs:Array Value} (hp:KPl P fs.toList cs.size) {w:World} {r c:Nat} (hb:w.heap[r]?=some (.map #[] c)) {z:Value} {i:TypeInfo} (hi:P.info? et=some i) (hz:i.zero=some z) :
  (Instr.lookup t (.map (some r)) (.agg cs) false).run P w = .ok z w:=by
 have a:(zeroValue et).run P w = .ok z w:=by
  unfold zeroValue typeInfo;simp[hi,hz]
 unfold Instr.lookup;simp only[Sem.run_bind,run_underlying h1 w,Result.andThen_ok,MapKept.run_getObj_map hb,zL h2 hp,Sem.run_pure,zM h2,a];rfl
theorem a6v {t e:TypeId} {d:ChanDir} {i:TypeInfo} (h:P.underlying t=some (.chan d e)) (hi:P.info? e=some i) {n:Nat} (h1:n≤1048576) (h2:i.bytes*n≤1048576) (w:World) (k:IntKind) :
  (Instr.makeChan t (.int k n)).run P w = .ok (.chan (some w.heap.size)) (w.alloc (.chan n #[] false 0 0 false)):=by
 have c:¬ ((n:Int) < 0∨(n:Int) > IntKind.i64.max∨(i.bytes:Int)*n > 2 ^ 48-112):=by
  have b:IntKind.i64.max=9223372036854775807:=rfl;have a:((i.bytes:Int)*(n:Int))=((i.bytes*n:Nat):Int):=by simp
  rw[b,a];omega
 have f:((IntKind.i64.max:Int))=9223372036854775807:=rfl;unfold Instr.makeChan;simp only[Sem.run_bind,asInt,asIntOf,Sem.run_pure,Result.andThen_ok,run_underlying h w,typeInfo];simp[hi];intro h;exfalso;have a:((i.bytes:Int)*(n:Int))=((i.bytes*n:Nat):Int):=by simp
 rw[a] at h;omega
end Go.Eng
