/- Texts of the proof, joined. -/
import Derived.WalkKit
import Derived.Lib.Hide
import Derived.Deep.QuietTactic
import Derived.BigQuiet
import Derived.WalkSpells
import Derived.WalkLawsBesides
import Derived.Lib.SlBytesConst
import Derived.Laws.CopyOwn
import Derived.Maps.AppendAt
import Derived.ProofKit
import Derived.OpenShut
import Derived.ShutString
import Derived.ChangeOld
import Derived.JoinedCond
import Derived.SizedLaws
import Derived.Deep.Slices
import Derived.Deep.CondSized
import Derived.Deep.MidRow
import Derived.ChangeKeysEq
set_option linter.unusedSimpArgs false
set_option linter.unusedVariables false
set_option linter.unusedSectionVars false
namespace Go.Proofs.YthgnlfikneipiaaGreat
open Go.RowKit
def nth {α:Type} [Inhabited α] (l:List α) (k:Nat):α:=l.getD k default
theorem nth_get {α:Type} [Inhabited α] (l:List α) (k:Nat) (h:k < l.length):nth l k=l[k]:=by simp [nth,List.getD,h]
theorem nth_of {α:Type} [Inhabited α] (l:List α) (k:Nat) (x:α) (h:l[k]?=some x):nth l k=x:=by simp [nth,List.getD,h]
theorem nth_cons_zero {α:Type} [Inhabited α] (x:α) (l:List α):nth (x::l) 0=x:=rfl
theorem nth_cons_succ {α:Type} [Inhabited α] (x:α) (l:List α) (k:Nat):nth (x::l) (k+1)=nth l k:=rfl
structure Upd (S:List Nat) (w w':World):Prop where
 os:w'.os=w.os
 tape:w'.tape=w.tape
 output:w'.output=w.output
 size:w.heap.size≤w'.heap.size
 block:∀ k,k < w.heap.size→k∉S→w'.heap[k]?=w.heap[k]?
theorem Upd.refl (S:List Nat) (w:World):Upd S w w:=⟨rfl,rfl,rfl,Nat.le_refl _,fun _ _ _=>rfl⟩
theorem Upd.trans {S S' T:List Nat} {a b c:World} (h:Upd S a b) (k:Upd S' b c) (hs:∀ x∈S,x∈T) (hs':∀ x∈S',x∈T∨a.heap.size≤x):Upd T a c :=
 ⟨k.os.trans h.os,k.tape.trans h.tape,k.output.trans h.output,Nat.le_trans h.size k.size,fun i hi hn=>by
  rw [k.block i (Nat.lt_of_lt_of_le hi h.size) (fun e=>by rcases hs' i e with q|q;exact hn q;omega),h.block i hi (fun e=>hn (hs i e))]⟩
theorem Upd.mono {S T:List Nat} {a b:World} (h:Upd S a b) (hs:∀ x∈S,x∈T∨a.heap.size≤x):Upd T a b :=
 (Upd.refl T a).trans h (fun x hx=>hx) hs
theorem Upd.drew {S:List Nat} {a b:World} (h:Upd S a b):Upd S a b.drew:=⟨h.os,h.tape,h.output,h.size,h.block⟩
theorem Upd.drewN {S:List Nat} {a b:World} (h:Upd S a b) (n:Nat):Upd S a (b.drewN n):=⟨h.os,h.tape,h.output,h.size,h.block⟩
theorem Upd.alloc {S:List Nat} {a b:World} (h:Upd S a b) (o:Obj):Upd S a (b.alloc o) :=
 ⟨h.os,h.tape,h.output,by have:=h.size;simp;omega,fun k hk hn=>by rw [Below.heap_alloc _ _ _ (Nat.lt_of_lt_of_le hk h.size)];exact h.block k hk hn⟩
theorem Upd.setCell {S:List Nat} {a b:World} (h:Upd S a b) (p:Addr) (u:Value) (hp:p.block∈S∨a.heap.size≤p.block):Upd S a (b.setCell p u) :=
 ⟨h.os,h.tape,h.output,by have:=h.size;simp;omega,fun k hk hn=>by
  rw [Below.heap_setCell _ _ _ _ (fun e=>by subst e;rcases hp with q|q;exact hn q;omega)];exact h.block k hk hn⟩
theorem Upd.of_grown {w w':World} {row:Option Nat} (hg:w.grownBy w' row):Upd row.toList w w' :=
 ⟨hg.os,hg.tape,hg.output,hg.size,fun k hk hn=>hg.block k hk (fun e=>hn (by rw [← e];simp))⟩
theorem Upd.below {w w':World} (h:Upd [] w w'):Below w.heap.size w w':=⟨h.os,h.tape,h.output,h.size,fun k hk=>h.block k hk (by simp)⟩
theorem Upd.cell {S:List Nat} {w w':World} (h:Upd S w w') {p:Addr} {v:Value} (hv:w.cell? p=some v) (hp:p.block∉S):w'.cell? p=some v :=
 (World.cell?_of_block (w:=w) (h.block p.block (World.block_lt_of_cell? w p hv) hp)).trans hv
theorem Upd.heap {S:List Nat} {w w':World} (h:Upd S w w') {k:Nat} {o:Obj} (hv:w.heap[k]?=some o) (hp:k∉S):w'.heap[k]?=some o :=
 (h.block k (Array.getElem?_eq_some_iff.1 hv).1 hp).trans hv
def Rd {α:Type} [Inhabited α] (c:α→Value) (w:World) (v:Value) (l:List α):Prop :=
 ∃ a cap,v = .slice a l.length cap∧l.length≤cap∧cap≤maxLen ∧
  (l≠[]→∃ b off,a=some ⟨b,off,none⟩∧∀ j,j < l.length→w.cell? ⟨b,off+j,none⟩=some (c (nth l j)))
def blk:Value→List Nat
 | .slice (some a) _ _=>[a.block]
 | _=>[]
theorem Rd.upd {α:Type} [Inhabited α] {c:α→Value} {w w':World} {v:Value} {l:List α} (h:Rd c w v l) {S:List Nat} (hu:Upd S w w') (hs:∀ x∈blk v,x∉S):Rd c w' v l:=by
 obtain ⟨a,cap,rfl,h1,h2,h3⟩:=h
 refine ⟨a,cap,rfl,h1,h2,fun hne=>?_⟩
 obtain ⟨b,off,rfl,hc⟩:=h3 hne
 exact ⟨b,off,rfl,fun j hj=>hu.cell (hc j hj) (hs b (by simp [blk]))⟩
theorem Rd.upd0 {α:Type} [Inhabited α] {c:α→Value} {w w':World} {v:Value} {l:List α} (h:Rd c w v l) (hu:Upd [] w w'):Rd c w' v l :=
 h.upd hu (by simp)
abbrev bv (x:UInt8):Value := .int .u8 (x.toNat:Int)
abbrev Bytes (w:World) (v:Value) (l:List UInt8):Prop:=Rd bv w v l
def Own {α:Type} (c:α→Value) (base:Nat) (e:TypeId) (w:World) (v:Value) (l:List α):Prop:=w.ownsRow base e 1 v l.length (l.map c)
theorem Own.rd {α:Type} [Inhabited α] {c:α→Value} {base:Nat} {e:TypeId} {w:World} {v:Value} {l:List α} (h:Own c base e w v l):Rd c w v l:=by
 obtain ⟨h1,h2⟩:=h
 rcases h2 with ⟨rfl,hn⟩|⟨g,cap,cur,rfl,hb,hg,hc,hm,hs,ht⟩
 ·exact ⟨none,0,by rw [hn],by omega,Nat.zero_le _,fun q=>absurd (List.eq_nil_of_length_eq_zero hn) q⟩
 ·refine ⟨_,cap,rfl,hc,hm,fun _=>⟨g,0,rfl,fun j hj=>?_⟩⟩
  rw [cell_of_row w g (0+j) cur e (0,0) hg]
  have:(l.map c)[j]?=some (c (nth l j)):=by rw [List.getElem?_map,List.getElem?_eq_getElem hj,nth_get l j hj];rfl
  rw [← ht,List.getElem?_take] at this
  simpa [hj] using this
theorem blk_own (v:Value):blk v=v.ownBlock.toList:=by
 cases v with
 | slice a _ _=>cases a<;>rfl
 | _=>rfl
theorem Own.upd {α:Type} {c:α→Value} {base:Nat} {e:TypeId} {w w':World} {v:Value} {l:List α} (h:Own c base e w v l) {S:List Nat} (hu:Upd S w w') (hs:∀ x∈blk v,x∉S):Own c base e w' v l:=by
 obtain ⟨h1,h2⟩:=h
 refine ⟨h1,?_⟩
 rcases h2 with h2|⟨g,cap,cur,rfl,hb,hg,r⟩
 ·exact .inl h2
 ·exact .inr ⟨g,cap,cur,rfl,hb,hu.heap hg (hs g (by simp [blk])),r⟩
theorem Own.ge {α:Type} {c:α→Value} {base:Nat} {e:TypeId} {w:World} {v:Value} {l:List α} (h:Own c base e w v l):∀ x∈blk v,base≤x∧x < w.heap.size:=by
 intro x hx
 rw [blk_own] at hx
 exact World.ownsRow.lt h x (by simpa using hx)
theorem Own.base_le {α:Type} {c:α→Value} {base base':Nat} {e:TypeId} {w:World} {v:Value} {l:List α} (h:Own c base e w v l) (hb:base'≤base):Own c base' e w v l:=by
 obtain ⟨h1,h2⟩:=h
 refine ⟨h1,?_⟩
 rcases h2 with h2|⟨g,cap,cur,rfl,hb',hg,r⟩
 ·exact .inl h2
 ·exact .inr ⟨g,cap,cur,rfl,by omega,hg,r⟩
theorem Rd.lit {α:Type} [Inhabited α] {c:α→Value} {w:World} (l:List α) {C:Array Value} {e:TypeId} {fr:Nat×Nat} {g n k:Nat} (hg:g=w.heap.size) (hC:C=(l.map c).toArray) (hn:n=l.length) (hk:n≤k) (hm:k≤maxLen) :
  Rd c (w.alloc (.cells C e fr)) (.slice (some ⟨g,0,none⟩) n k) l:=by
 subst hg;subst hn;subst hC
 refine ⟨_,_,rfl,hk,hm,fun _=>⟨_,0,rfl,fun j hj=>?_⟩⟩
 rw [cell_of_row _ w.heap.size (0+j) _ e fr (heap_alloc_new w _)]
 simp [nth_get l j hj,hj]
theorem Rd.nil {α:Type} [Inhabited α] {c:α→Value} (w:World):Rd c w (.slice none 0 0) ([]:List α) :=
 ⟨none,0,rfl,Nat.le_refl _,Nat.zero_le _,fun h=>absurd rfl h⟩
theorem Rd.alloc {α:Type} [Inhabited α] {c:α→Value} {w:World} {v:Value} {l:List α} (h:Rd c w v l) (o:Obj):Rd c (w.alloc o) v l:=h.upd0 ((Upd.refl _ _).alloc _)
def Blk (w:World) (g:Nat) (e:TypeId) (xs:List Value):Prop:=w.heap[g]?=some (.cells xs.toArray e (0,0))
theorem Blk.lt {w:World} {g:Nat} {e:TypeId} {xs:List Value} (h:Blk w g e xs):g < w.heap.size:=(Array.getElem?_eq_some_iff.1 h).1
theorem Blk.upd {w w':World} {g:Nat} {e:TypeId} {xs:List Value} (h:Blk w g e xs) {S:List Nat} (hu:Upd S w w') (hs:g∉S):Blk w' g e xs:=hu.heap h hs
theorem Blk.cell {w:World} {g:Nat} {e:TypeId} {xs:List Value} (h:Blk w g e xs) (i:Nat):w.cell? ⟨g,i,none⟩=xs[i]?:=by
 rw [cell_of_row w g i _ e (0,0) h];simp
theorem Blk.frozen {w:World} {g:Nat} {e:TypeId} {xs:List Value} (h:Blk w g e xs) (i:Nat):w.frozen? ⟨g,i,none⟩=false:=frozen_of_row w g i _ e h
theorem Blk.set_ {w:World} {g:Nat} {e:TypeId} {xs:List Value} (h:Blk w g e xs) (i:Nat) (u:Value):Blk (w.setCell ⟨g,i,none⟩ u) g e (xs.set i u):=by
 have:=heap_setCell_same w g i _ e u h
 unfold Blk;rw [this];simp
theorem Blk.new (w:World) (e:TypeId) (xs:List Value):Blk (w.alloc (.cells xs.toArray e)) w.heap.size e xs:=heap_alloc_new w _
section
variable {P : Program} {ops : Array Oper} {rest : List Oper} {o : Oper} {a : Act} {w : World} {Q : Exit → Act → World → Prop}
theorem toList_madeOne (z:Value) (hz:z.cells=#[z]) (n:Nat):(madeCells z.cells n)=(List.replicate n z).toArray:=by
 apply Array.toList_inj.1
 rw [hz,toList_madeCells_one]
theorem run_mk {t e:TypeId} {z:Value} {bytes:Nat} (ht:P.underlying t=some (.slice e)) (hi:(P.info? e).map (fun i=>(i.zero,i.size,i.bytes))=some (some z,1,bytes)) (hz:z.cells=#[z])
  (u:World) (n m:Nat) (L C:Int) (hL:L=(n:Int)) (hC:C=(m:Int)) (hnm:n≤m) (hb:bytes*m≤281474976710656) (hm:m≤9223372036854775807) :
  (Instr.makeSlice t (.int .i64 L) (.int .i64 C)).run P u = .ok (.slice (some ⟨u.heap.size,0,none⟩) n m) (u.alloc (.cells (List.replicate m z).toArray e)):=by
 obtain ⟨i,h1,h2,h3,h4⟩:=info_parts hi
 subst hL;subst hC
 have h:=run_make (P:=P) u t e i z ht h1 h2 .i64 .i64 (n:Int) (m:Int) (by omega) (by omega) (by rw [h4,← Int.natCast_mul];omega) (by omega)
 rw [h,h3,Nat.mul_one,Int.toNat_natCast,Int.toNat_natCast,toList_madeOne z hz]
theorem oneCell_map {α:Type} {c:α→Value} (hc:∀ x,(c x).oneCell'=true) (l:List α):∀ u∈l.map c,u.oneCell'=true:=by
 intro u hu;obtain ⟨x,_,rfl⟩:=List.mem_map.1 hu;exact hc x
theorem add_none (b off j:Nat):(⟨b,off,none⟩:Addr).add j=⟨b,off+j,none⟩:=by unfold Addr.add;split<;>simp_all
theorem run_app_nothing {t ty e:TypeId} {size:Nat} (ht:P.underlying t=some (.slice e)) (hi:(P.info? e).map (·.size)=some size) (ao bo:Option Addr) (n cap k:Nat) (hn:n≤cap) :
  (Builtin.append_ #[t,t] ty #[.slice ao n cap,.slice bo 0 k]).run P w = .ok (.slice ao n cap) w:=by
 obtain ⟨i,hi,hsize⟩:∃ i,P.info? e=some i∧i.size=size:=by
  cases hq:P.info? e with
  | none=>simp [hq] at hi
  | some i=>exact ⟨i,rfl,by simpa [hq] using hi⟩
 have h0:n+0≤cap:=by omega
 cases ao<;>cases bo<;>simp [Builtin.append_,run_underlying ht,Builtin.lenOf,Builtin.firstCells,sizeOf,typeInfo,hi,storeCells,loadCells,loadCellsFrom,hn]
theorem run_app {α:Type} [Inhabited α] {c:α→Value} (hc:∀ x,(c x).oneCell'=true) {t ty e:TypeId} {z:Value} {bytes base:Nat} (ht:P.underlying t=some (.slice e)) (hi:(P.info? e).map (fun i=>(i.zero,i.size,i.bytes))=some (some z,1,bytes)) (hz:z.cells=#[z])
  (v u:Value) (l m:List α) (hv:Own c base e w v l) (hu:Rd c w u m) (hb:(l.length+m.length)*bytes≤140737488355328) (hl:l.length+m.length≤maxLen) (hbase:base≤w.heap.size) :
  ∃ v' w',(Builtin.append_ #[t,t] ty #[v,u]).run P w = .ok v' w'∧Own c base e w' v' (l++m)∧Upd (blk v) w w'∧(∀ x∈blk v',x∈blk v∨w.heap.size≤x):=by
 obtain ⟨i,h1,h2,h3,h4⟩:=info_parts hi
 obtain ⟨A,cap,rfl,hle,hcm,hcell0⟩:=hu
 by_cases hne:m=[]
 ·subst hne
  have hsz:(P.info? e).map (·.size)=some 1:=by simp [h1,h3]
  obtain ⟨ao,n,k,rfl,hnk⟩:∃ ao n k,v = .slice ao n k∧n≤k:=by
   rcases hv.2 with ⟨rfl,_⟩|⟨g,cap',cur,rfl,_,_,q,_⟩
   ·exact ⟨none,0,0,rfl,Nat.le_refl _⟩
   ·exact ⟨_,_,_,rfl,q⟩
  exact ⟨_,w,run_app_nothing ht hsz ao A n k cap hnk,by rw [List.append_nil];exact hv,Upd.refl _ _,fun x hx => .inl hx⟩
 ·obtain ⟨b,off,rfl,hcell⟩:=hcell0 hne
  have hnews:∀ j u,(m.map c)[j]?=some u→w.cell? ((⟨b,off,none⟩:Addr).add j)=some u:=fun j u hj=>by
   rw [add_none]
   rw [List.getElem?_map] at hj
   obtain ⟨x,hx,rfl⟩:=Option.map_eq_some_iff.1 hj
   rw [hcell j (List.getElem?_eq_some_iff.1 hx).1,nth_of m j x hx]
  obtain ⟨v',w',hr,g1,g2,_,g3⟩:=run_append_own_at (P:=P) w base t ty e i z 1 bytes ht h1 h2 h3 h4 (by rw [hz];rfl) (by decide) v l.length (l.map c) hv ⟨b,off,none⟩ m.length cap (m.map c) (by simp) hnews (oneCell_map hc m) hl hb hbase
  have hown:Own c base e w' v' (l++m):=by
   unfold Own;rw [List.length_append,List.map_append];exact g1
  refine ⟨v',w',hr,hown,by rw [blk_own];exact Upd.of_grown g2,?_⟩
  intro x hx
  rw [blk_own] at hx
  rcases g3 with g3|g3
  ·rw [g3,← blk_own] at hx;exact .inl hx
  ·rw [g3] at hx;simp at hx;exact .inr (by omega)
theorem wpList_app {α:Type} [Inhabited α] {c:α→Value} (hc:∀ x,(c x).oneCell'=true) (hgd:o.guard=none) (s x:Operand) {t e:TypeId} (ho:o.op = .call { callee := .builtin .append,args:=#[s,x],argTypes:=#[t,t] })
  {z:Value} {bytes base:Nat} (ht:P.underlying t=some (.slice e)) (hi:(P.info? e).map (fun i=>(i.zero,i.size,i.bytes))=some (some z,1,bytes)) (hz:z.cells=#[z])
  (v u:Value) (l m:List α) (hs:a.eval s=v) (hx:a.eval x=u) (hv:Own c base e w v l) (hu:Rd c w u m) (hb:(l.length+m.length)*bytes≤140737488355328) (hl:l.length+m.length≤maxLen) (hbase:base≤w.heap.size)
  (h:∀ v' w',Own c base e w' v' (l++m)→Upd (blk v) w w'→(∀ x∈blk v',x∈blk v∨w.heap.size≤x)→wpList P ops Q rest (a.put o.dst v') w'):wpList P ops Q (o::rest) a w:=by
 obtain ⟨v',w',hr,k1,k2,k3⟩:=run_app (P:=P) (ty:=o.type) hc ht hi hz v u l m hv hu hb hl hbase
 refine wpList_plain hgd fun K hK=>?_
 unfold Oper.wp execOp
 simp only [ho,resolve,invoke,builtin,Sem.run_bind,Sem.run_pure,Result.andThen_ok,List.map_toArray,List.map_cons,List.map_nil,hs,hx,hr]
 exact hK _ _ (h v' w' k1 k2 k3)
end
theorem nth_take {α:Type} [Inhabited α] (l:List α) (n j:Nat) (h:j < n):nth (l.take n) j=nth l j:=by simp [nth,List.getD,h]
theorem nth_append_left {α:Type} [Inhabited α] (l m:List α) (j:Nat) (h:j < l.length):nth (l++m) j=nth l j:=by simp [nth,List.getD,List.getElem?_append_left h]
theorem nth_append_right {α:Type} [Inhabited α] (l m:List α) (j:Nat) (h:l.length≤j):nth (l++m) j=nth m (j-l.length):=by simp [nth,List.getD,List.getElem?_append_right h]
theorem nth_drop {α:Type} [Inhabited α] (l:List α) (n j:Nat):nth (l.drop n) j=nth l (n+j):=by simp [nth,List.getD]
theorem Rd.take {α:Type} [Inhabited α] {c:α→Value} {w:World} {a:Option Addr} {n cap:Nat} {l:List α} (h:Rd c w (.slice a n cap) l) (k:Nat) (hk:k≤l.length):Rd c w (.slice a k cap) (l.take k):=by
 obtain ⟨a',cap',he,h1,h2,h3⟩:=h
 injection he with e1 e2 e3;subst e1;subst e2;subst e3
 refine ⟨_,_,by rw [List.length_take,Nat.min_eq_left hk],by rw [List.length_take];omega,h2,fun hne=>?_⟩
 obtain ⟨b,off,rfl,hc⟩:=h3 (fun q=>hne (by rw [q];simp))
 refine ⟨b,off,rfl,fun j hj=>?_⟩
 rw [List.length_take] at hj
 rw [nth_take l k j (by omega)];exact hc j (by omega)
theorem Rd.drop {α:Type} [Inhabited α] {c:α→Value} {w:World} {a:Option Addr} {n cap:Nat} {l:List α} (h:Rd c w (.slice a n cap) l) (k:Nat) (hk:k≤l.length) :
  Rd c w (.slice (if cap=k then a else a.map (·.add k)) (n-k) (cap-k)) (l.drop k):=by
 obtain ⟨a',cap',he,h1,h2,h3⟩:=h
 injection he with e1 e2 e3;subst e1;subst e2;subst e3
 refine ⟨_,_,by rw [List.length_drop],by rw [List.length_drop];omega,by omega,fun hne=>?_⟩
 have hlt:k < l.length:=by
  rcases Nat.lt_or_ge k l.length with q|q
  ·exact q
  ·exact absurd (List.drop_eq_nil_of_le q) hne
 obtain ⟨b,off,rfl,hc⟩:=h3 (fun q=>by subst q;simp at hlt)
 refine ⟨b,off+k,by rw [if_neg (by omega)];simp [add_none],fun j hj=>?_⟩
 rw [List.length_drop] at hj
 rw [nth_drop,Nat.add_assoc];exact hc _ (by omega)
theorem Upd.seq {a b c:World} (h:Upd [] a b) (k:Upd [] b c):Upd [] a c:=h.trans k (by simp) (by simp)
end Go.Proofs.YthgnlfikneipiaaGreat
namespace Go.Proofs.YthgnlfikneipiaaGreat
open Go.ChangeShapes Go.WideShapes Go.ChangeAt Go.RowKit
theorem trodAll_below {H:Type} {enc:TypeId×Value→H} {P:Program} (hl:laidOutB P=true) {W W':World} (hb:Below W.heap.size W W') :
  ∀ (ts:List TypeId) (vs:List Value) (ds:List (DataW H)) (ps:List MemPlace),(∀ t∈ts,P.readableRec t=true∧t < P.types.size) →
   DataW.TrodAll enc P W 0 (fun _=>true) true ts vs ds ps→DataW.TrodAll enc P W' 0 (fun b=>decide (b < W.heap.size)) true ts vs ds ps
 | [],[],[],ps,_,h=>h
 | t::ts,v::vs,d::ds,ps,hr,h=>by
  obtain ⟨p,q,h1,h2,rfl⟩:=h
  have hlt:∀ x∈p,x.block < W.heap.size:=by obtain ⟨m,hm⟩:=h1;exact DataW.trod_lt m _ _ _ hm
  exact ⟨p,q,Below.trod hl (hr t (by simp)).1 (hr t (by simp)).2 h1 hb hlt,trodAll_below hl hb ts vs ds q (fun t' ht'=>hr t' (List.mem_cons_of_mem _ ht')) h2,rfl⟩
 | [],[],_::_,_,_,h|[],_::_,_,_,_,h|_::_,[],_,_,_,h|_::_,_::_,[],_,_,h=>by simp [DataW.TrodAll] at h
theorem trodAll_len {H:Type} {enc:TypeId×Value→H} {P:Program} {W:World} {sp:Nat→Bool} :
  ∀ (ts:List TypeId) (vs:List Value) (ds:List (DataW H)) (ps:List MemPlace),DataW.TrodAll enc P W 0 sp true ts vs ds ps→ds.length=ts.length
 | [],[],[],ps,h=>rfl
 | t::ts,v::vs,d::ds,ps,h=>by
  obtain ⟨p,q,h1,h2,rfl⟩:=h
  simp [trodAll_len ts vs ds q h2]
 | [],[],_::_,_,h|[],_::_,_,_,h|_::_,[],_,_,h|_::_,_::_,[],_,h=>by simp [DataW.TrodAll] at h
def LawCalls (P:Program) (f:FuncId) (fn:Func) (H:Type) (enc:TypeId×Value→H) (k:List (DataW H)→Prop):Prop :=
 ∀ (W:World) (base:Nat) (args:Array Value) (ds:List (DataW H)) (ps:List MemPlace),
  (∀ (j:Nat) t v,fn.params[j]?=some t→args[j]?=some v→Value.okWide P W .any base t v) →
  DataW.TrodAll enc P W 0 (fun _=>true) true fn.params.toList args.toList ds ps →
  (DataW.weightsEach P fn.params.toList ds).all (·≤reachBytes)=true→k ds →
  Calls P f args W fun e W'=>e = .returned (.bool true)∧Upd [] W W'
theorem law_post {H:Type} {enc:TypeId×Value→H} {P:Program} {fn:Func} {s:ChangeSpec} (hl:laidOutB P=true) (hr:∀ t∈fn.params.toList,P.readableRec t=true∧t < P.types.size)
  (hs:s.vars=[]) (tb:TypeId) (hres:fn.resultTypes=#[tb]) (hb:P.underlying tb=some .bool)
  (hfn:∀ (ds:List (DataW H)),ds.length=fn.params.size→(s.fn H ds).results=[.lit (.bool true)]∧(s.fn H ds).args=ds∧(s.fn H ds).vars=[])
  {W W':World} {args:Array Value} {ds gs:List (DataW H)} {before:List MemPlace}
  (hW:DataW.Whole enc P fn.params.toList s.vars false W args.toList ds gs before) (hu:Upd [] W W') :
  s.post enc P fn false true false false W args (.bool true) W':=by
 have hW':=hW
 obtain ⟨p,q,hA,hV,rfl,hfz,hnd⟩:=hW
 have hlen:=trodAll_len _ _ _ _ hA
 rw [hs] at hV
 obtain ⟨rfl,rfl⟩:=trodVars_none hV
 obtain ⟨g1,g2,g3⟩:=hfn ds (by simpa using hlen)
 refine ⟨ds,[],p++[],[],p,[],hW',?_,?_,?_,hu.below.frame _,fun h=>by cases h⟩
 ·rw [List.append_nil,g1,hres];exact trodAll_mk1 (shut_bool hb _)
 ·rw [List.append_nil,g2];exact trodAll_below hl hu.below _ _ _ _ hr hA
 ·rw [List.append_nil,g3,hs];rfl
theorem law_said {C:Checked} {os:Os} {f:FuncId} {fn:Func} {s:ChangeSpec} {H:Type} {enc:TypeId×Value→H}
  (own:ownKnob C.prog.godebug=none) (started:os.Started) (noInit:C.prog.inits.idxOf? f=none) (hf:C.prog.funcs[f]?=some fn)
  (witness:∃ (w:World) (tape:Tape) (i:Input),w.os=os∧(w.forCall tape i).Shaped C.prog∧i.vars=[]∧Input.okWide C.prog (w.forCall tape i) .any w.heap.size f i ∧
   s.pre6 enc C.prog fn [] false (w.forCall tape i).memory i.args∧({}:Assume).holds C.prog (lone (Frame.enter C.prog f i.args .normal) [] (w.forCall tape i)))
  (hl:laidOutB C.prog=true) (hr:∀ t∈fn.params.toList,C.prog.readableRec t=true∧t < C.prog.types.size)
  (hs:s.vars=[]) (tb:TypeId) (hres:fn.resultTypes=#[tb]) (hb:C.prog.underlying tb=some .bool)
  (hfn:∀ (ds:List (DataW H)),ds.length=fn.params.size→(s.fn H ds).results=[.lit (.bool true)]∧(s.fn H ds).args=ds∧(s.fn H ds).vars=[])
  (walk:LawCalls C.prog f fn H enc (fun _=>True)) :
  ReturnsInHanded {} C os f .any (s.pre6 enc C.prog fn [] false) (s.post enc C.prog fn false true false false):=by
 refine returnsInHanded_of_change_sized own started noInit hf witness ?_
 intro W base args ds gs before hval hW hc hsz hh
 have hW2:=hW
 obtain ⟨p,q,hA,hV,rfl,hfz,hnd⟩:=hW2
 have hV':=hV
 rw [hs] at hV'
 obtain ⟨rfl,rfl⟩:=trodVars_none hV'
 have hvt:s.plain.varTypes C.prog=[]:=by unfold DataSpec.varTypes;show List.filterMap _ s.vars=[];rw [hs];rfl
 rw [hvt,List.append_nil,List.append_nil] at hsz
 refine (walk W base args ds p hval hA hsz trivial).mono fun e W' ⟨he,hu⟩=>?_
 subst he
 exact ⟨_,rfl,law_post hl hr hs tb hres hb hfn hW hu⟩
end Go.Proofs.YthgnlfikneipiaaGreat
namespace Go.Proofs.YthgnlfikneipiaaGreat
open Go.ChangeShapes Go.WideShapes Go.ChangeAt Go.RowKit Go.Deep
open Go.ChangeMaps (open_string shut_string)
theorem exists_list {α:Type} [Inhabited α] (n:Nat) (p:Nat→α→Prop) (h:∀ i,i < n→∃ x,p i x):∃ l:List α,l.length=n∧∀ i,i < n→p i (nth l i):=by
 induction n with
 | zero=>exact ⟨[],rfl,fun i hi=>absurd hi (by omega)⟩
 | succ n ih =>
  obtain ⟨l,hl,hp⟩:=ih (fun i hi=>h i (by omega))
  obtain ⟨x,hx⟩:=h n (by omega)
  refine ⟨l++[x],by simp [hl],fun i hi=>?_⟩
  by_cases e:i=n
  ·subst e;rw [nth_of _ _ x (by rw [List.getElem?_append_right (by omega)];simp [hl])];exact hx
  ·rw [nth_of _ _ (nth l i) (by rw [List.getElem?_append_left (by omega),nth_get l i (by omega)];exact List.getElem?_eq_getElem (by omega))];exact hp i (by omega)
def DLen {H:Type} (d:DataW H) (n:Nat):Prop:=n=0∨∃ es sp,d = .slice es sp∧es.length=n
section
variable {H : Type} {enc : TypeId × Value → H} {P : Program} {w : World} {b0 : Nat} {held : Bool}
theorem open_rd {α:Type} [Inhabited α] (c:α→Value) (good:α→Prop) {t e:TypeId} {v:Value} {d:DataW H} {p:List MemPlace} (ht:P.underlying t=some (.slice e)) (hc:P.cellsOf e=1)
  (hel:∀ n v y,DataW.trod enc P w 0 (fun _=>true) held n e [v]=some y→∃ x,v=c x∧good x)
  (hval:Value.okWide P w .any b0 t v) (h:DataW.Trod enc P w 0 (fun _=>true) held t v d p) :
  ∃ l:List α,Rd c w v l∧(∀ x∈l,good x)∧(∀ (ts:List TypeId) (ds:List (DataW H)) (j:Nat),(DataW.weightsEach P ts ds).all (·≤reachBytes)=true→ts[j]?=some t→ds[j]?=some d→l.length*P.bytesOf e≤reachBytes)∧DLen d l.length:=by
 obtain ⟨a0,len0,cap0,rfl⟩:=okWide_slice ht hval
 obtain ⟨fuel,hf⟩:=h
 rcases open_slice1 ht hc hf with ⟨hcs,hx⟩|⟨a,len,cap,m,n,V,D,Pl,hcs,hb,hl,hm,hmm,hx,hi⟩
 ·simp [Value.cells] at hcs
  obtain ⟨rfl,rfl,rfl⟩:=hcs
  exact ⟨[],Rd.nil w,by simp,by intros;simp,.inl rfl⟩
 ·simp [Value.cells] at hcs
  obtain ⟨rfl,rfl,rfl⟩:=hcs
  simp only [if_true] at hmm
  subst hmm
  obtain ⟨l,hl',hp⟩:=exists_list len0 (fun i x=>V i=c x∧good x) (fun i hi'=>hel _ _ _ (hi i (by omega)).2)
  refine ⟨l,?_,?_,?_,?_⟩
  ·refine ⟨_,_,by rw [hl'],by omega,hm,fun hne=>?_⟩
   have hpos:0 < len0:=by rw [← hl'];exact List.length_pos_iff.2 hne
   obtain ⟨b,off,spot⟩:=a
   have hspot:spot=none:=by simpa [Addr.add] using World.cell?_spot (hi 0 (by omega)).1
   subst hspot
   refine ⟨b,off,rfl,fun j hj=>?_⟩
   have h1:=(hi j (by omega)).1
   have h2:=hp j (by omega)
   have h3:(⟨b,off,none⟩:Addr).add j=⟨b,off+j,none⟩:=by unfold Addr.add;split<;>simp_all
   rw [h3,h2.1] at h1
   exact h1
  ·intro x hx'
   obtain ⟨i,hi',rfl⟩:=List.mem_iff_getElem.1 hx'
   have:=(hp i (by omega)).2
   rwa [nth_get l i hi'] at this
  ·intro ts ds j hall htj hdj
   have hd:=congrArg Prod.fst hx
   simp only at hd
   rw [hd] at hdj
   have:=sized_slice hall htj hdj ht
   simp only [List.length_map,List.length_range] at this
   exact Nat.le_trans (Nat.mul_le_mul_right _ (by omega)) this
  ·exact .inr ⟨_,_,congrArg Prod.fst hx,by simp [hl']⟩
theorem el_int {k:IntKind} {e:TypeId} (he:P.underlying e=some (.int k)) (n:Nat) (v:Value) (y:DataW H×List MemPlace) (h:DataW.trod enc P w 0 (fun _=>true) held n e [v]=some y) :
  ∃ x:Int,v = .int k x∧(Lit.int k x).wf=true:=by
 cases n with
 | zero=>simp [DataW.trod] at h
 | succ n =>
  simp only [DataW.trod,he] at h
  cases v<;>simp at h
  rename_i k' x
  obtain ⟨⟨rfl,h2⟩,h3⟩:=h
  exact ⟨x,rfl,h2⟩
abbrev iv (x:Int):Value := .int .i64 x
def I64 (x:Int):Prop := -9223372036854775808≤x∧x≤9223372036854775807
theorem i64_of {x:Int} (h:(Lit.int .i64 x).wf=true):I64 x:=by simpa [I64,Lit.wf,IntKind.min,IntKind.max,IntKind.signed,IntKind.bits] using h
theorem open_nums {t e:TypeId} {v:Value} {d:DataW H} {p:List MemPlace} (ht:P.underlying t=some (.slice e)) (he:P.underlying e=some (.int .i64)) (hc:P.cellsOf e=1) (hby:P.bytesOf e=8)
  (hval:Value.okWide P w .any b0 t v) (h:DataW.Trod enc P w 0 (fun _=>true) held t v d p) :
  ∃ l:List Int,Rd iv w v l∧(∀ x∈l,I64 x)∧(∀ (ts:List TypeId) (ds:List (DataW H)) (j:Nat),(DataW.weightsEach P ts ds).all (·≤reachBytes)=true→ts[j]?=some t→ds[j]?=some d→l.length*8≤140737488351232)∧DLen d l.length:=by
 obtain ⟨l,h1,h2,h3,h4⟩:=open_rd iv (fun x=>(Lit.int .i64 x).wf=true) ht hc (fun n v y hh=>el_int he n v y hh) hval h
 refine ⟨l,h1,fun x hx=>i64_of (h2 x hx),fun ts ds j a b c=>?_,h4⟩
 have:=h3 ts ds j a b c
 rw [hby] at this
 exact this
end
end Go.Proofs.YthgnlfikneipiaaGreat
namespace Go.Eng
structure GI where
 g:Nat
 cap:Nat
 sz:Nat
 off:Nat
 v:Value
abbrev GM:=Nat→Option GI
def GLe (G G':GM):Prop:=∀ i x,G i=some x→G' i=some x
structure UpdP (O:Nat→Prop) (w w':World):Prop where
 os:w'.os=w.os
 tape:w'.tape=w.tape
 output:w'.output=w.output
 size:w.heap.size≤w'.heap.size
 block:∀ k,k < w.heap.size→¬ O k→w'.heap[k]?=w.heap[k]?
class Val where
 ν:Nat→Int
 gx:Nat→World→List Value→(Nat→Prop)→Prop
 b:Nat
 gm:∀ {k:Nat} {w w':World} {us:List Value} {F S:Nat→Prop},gx k w us F→UpdP S w w'→(∀ x,F x→¬ S x)→(∀ x,S x→b≤x)→gx k w' us F
structure Lin where
 c:Int
 ts:List (Nat×Int)
 deriving Inhabited,DecidableEq
abbrev Bd:=List (Int×Int)
def nth {α}:List α→Nat→Option α
 | [],_=>none
 | x::_,0=>some x
 | _::l,n+1=>nth l n
def insT (i:Nat) (a:Int):List (Nat×Int)→List (Nat×Int)
 | []=>[(i,a)]
 | (j,b)::l=>bif Nat.beq i j then (bif decide (a+b=0) then l else (i,a+b)::l) else bif Nat.blt i j then (i,a)::(j,b)::l else (j,b)::insT i a l
def addT (s:Int):List (Nat×Int)→List (Nat×Int)→List (Nat×Int)
 | [],m=>m
 | (i,a)::l,m=>insT i (s*a) (addT s l m)
def Lin.add (x y:Lin):Lin:=⟨x.c+y.c,addT 1 x.ts y.ts⟩
def Lin.sub (x y:Lin):Lin:=⟨x.c-y.c,addT (-1) y.ts x.ts⟩
def bndT (bd:Bd):List (Nat×Int)→Option (Int×Int)
 | []=>some (0,0)
 | (i,a)::l=>(nth bd i).bind fun p=>(bndT bd l).map fun q=>bif decide (0≤a) then (a*p.1+q.1,a*p.2+q.2) else (a*p.2+q.1,a*p.1+q.2)
def Lin.bnd (bd:Bd) (x:Lin):Option (Int×Int):=(bndT bd x.ts).map fun p=>(x.c+p.1,x.c+p.2)
def Lin.inK (bd:Bd) (k:IntKind) (x:Lin):Bool:=match x.bnd bd with
 | some p=>decide (k.min≤p.1)&&decide (p.2≤k.max)
 | none=>false
def Lin.lt (bd:Bd) (x y:Lin):Option Bool:=match (x.sub y).bnd bd with
 | some p=>bif decide (p.2 < 0) then some true else bif decide (0≤p.1) then some false else none
 | none=>none
def Lin.eq (bd:Bd) (x y:Lin):Option Bool:=match (x.sub y).bnd bd with
 | some p=>bif decide (p.2 < 0) || decide (0 < p.1) then some false else bif decide (p.1=0)&&decide (p.2=0) then some true else none
 | none=>none
def splitT (d:Int):List (Nat×Int)→List (Nat×Int)×List (Nat×Int)
 | []=>([],[])
 | (i,a)::l=>bif decide (a % d=0) then ((i,a / d)::(splitT d l).1,(splitT d l).2) else ((splitT d l).1,(i,a)::(splitT d l).2)
def Lin.dm (bd:Bd) (d:Int) (x:Lin):Option (Lin×Lin) :=
 let q:Lin:=⟨x.c / d,(splitT d x.ts).1⟩
 let r:Lin:=⟨x.c % d,(splitT d x.ts).2⟩
 match r.bnd bd with
 | some p=>bif decide (0 < d)&&decide (0≤p.1)&&decide (p.2 < d) then some (q,r) else none
 | none=>none
section
variable [V : Val]
def valT:List (Nat×Int)→Int
 | []=>0
 | (i,a)::l=>a*V.ν i+valT l
def Lin.val (x:Lin):Int:=x.c+valT x.ts
def BD (bd:Bd):Prop:=∀ i p,nth bd i=some p→p.1≤V.ν i∧V.ν i≤p.2
theorem valT_ins (i:Nat) (a:Int):∀ l,valT (insT i a l)=a*V.ν i+valT l
 | []=>rfl
 | (j,b)::l=>by
  simp only [insT]
  cases h:Nat.beq i j
  ·cases h2:Nat.blt i j
   ·show b*V.ν j+valT (insT i a l)=_
    rw [valT_ins i a l];simp only [valT];omega
   ·rfl
  ·have:=Nat.eq_of_beq_eq_true h
   subst this
   have e:(a+b)*V.ν i=a*V.ν i+b*V.ν i:=Int.add_mul a b _
   cases h2:decide (a+b=0)
   ·show (a+b)*V.ν i+valT l=_
    simp only [valT];omega
   ·have h3:=of_decide_eq_true h2
    rw [h3] at e
    show valT l=_
    simp only [valT];omega
theorem valT_add (s:Int):∀ l m,valT (addT s l m)=s*valT l+valT m
 | [],m=>by simp [addT,valT]
 | (i,a)::l,m=>by
  simp only [addT,valT_ins,valT,valT_add s l m,Int.mul_add,Int.mul_assoc];omega
theorem Lin.val_add (x y:Lin):(x.add y).val=x.val+y.val:=by
 simp only [Lin.val,Lin.add,valT_add];omega
theorem Lin.val_sub (x y:Lin):(x.sub y).val=x.val-y.val:=by
 simp only [Lin.val,Lin.sub,valT_add];omega
theorem bndT_ok {bd:Bd} (h:BD bd):∀ {l:List (Nat×Int)} {p:Int×Int},bndT bd l=some p→p.1≤valT l∧valT l≤p.2
 | [],p,e=>by cases e;exact ⟨Int.le_refl _,Int.le_refl _⟩
 | (i,a)::l,p,e=>by
  simp only [bndT] at e
  obtain ⟨q,h1,h2⟩:=Option.bind_eq_some_iff.1 e
  obtain ⟨r,h3,h4⟩:=Option.map_eq_some_iff.1 h2
  have hq:=h i q h1
  have hr:=bndT_ok h h3
  simp only [valT]
  cases hd:decide (0≤a)<;>rw [hd] at h4<;>subst h4
  ·have ha:a≤0:=by have:=of_decide_eq_false hd;omega
   have h5:=Int.mul_le_mul_of_nonpos_left ha hq.1
   have h6:=Int.mul_le_mul_of_nonpos_left ha hq.2
   exact ⟨by show a*q.2+r.1≤_;omega,by show _≤a*q.1+r.2;omega⟩
  ·have ha:=of_decide_eq_true hd
   have h5:=Int.mul_le_mul_of_nonneg_left hq.1 ha
   have h6:=Int.mul_le_mul_of_nonneg_left hq.2 ha
   exact ⟨by show a*q.1+r.1≤_;omega,by show _≤a*q.2+r.2;omega⟩
theorem Lin.bnd_ok {bd:Bd} (h:BD bd) {x:Lin} {p:Int×Int} (e:x.bnd bd=some p):p.1≤x.val∧x.val≤p.2:=by
 obtain ⟨q,h1,rfl⟩:=Option.map_eq_some_iff.1 e
 have:=bndT_ok h h1
 simp only [Lin.val]
 exact ⟨by show x.c+q.1≤_;omega,by show _≤x.c+q.2;omega⟩
theorem wrap_in (k:IntKind) (x:Int) (h1:k.min≤x) (h2:x≤k.max):k.wrap x=x:=by
 cases k<;>simp [IntKind.min,IntKind.max,IntKind.signed,IntKind.bits] at h1 h2<;>simp [IntKind.wrap,IntKind.signed,IntKind.bits]<;>omega
theorem Lin.inK_ok {bd:Bd} (h:BD bd) {k:IntKind} {x:Lin} (e:x.inK bd k=true):k.wrap x.val=x.val:=by
 unfold Lin.inK at e
 split at e
 ·rename_i p hp
  rw [Bool.and_eq_true] at e
  have:=Lin.bnd_ok h hp
  have h1:=of_decide_eq_true e.1
  have h2:=of_decide_eq_true e.2
  exact wrap_in k _ (by omega) (by omega)
 ·cases e
theorem valT_split (d:Int):∀ l,valT l=d*valT (splitT d l).1+valT (splitT d l).2
 | []=>by simp [splitT,valT]
 | (i,a)::l=>by
  have ih:=valT_split d l
  simp only [splitT]
  cases h:decide (a % d=0)
  ·simp only [cond_false,valT];omega
  ·have h1:=of_decide_eq_true h
   have h2:a=d*(a / d):=by have:=Int.mul_ediv_add_emod a d;omega
   simp only [cond_true,valT]
   have h3:a*V.ν i=d*(a / d*V.ν i):=by
    rw [← Int.mul_assoc,← h2]
   rw [h3,ih,Int.mul_add];omega
theorem Lin.dm_ok {bd:Bd} (h:BD bd) {d:Int} {x q r:Lin} (e:x.dm bd d=some (q,r)):0 < d∧x.val=d*q.val+r.val∧0≤r.val∧r.val < d:=by
 unfold Lin.dm at e
 dsimp only at e
 split at e
 ·rename_i p hp
  cases hc:decide (0 < d)&&decide (0≤p.1)&&decide (p.2 < d)<;>rw [hc] at e<;>cases e
  simp only [Bool.and_eq_true,decide_eq_true_eq] at hc
  have hb:=Lin.bnd_ok h hp
  refine ⟨hc.1.1,?_,by omega,by omega⟩
  simp only [Lin.val]
  rw [valT_split d x.ts,Int.mul_add]
  have:=Int.mul_ediv_add_emod x.c d
  omega
 ·cases e
theorem dm_fdiv {d x q r:Int} (h:0 < d) (e:x=d*q+r) (h0:0≤r) (h1:r < d):x.fdiv d=q∧x % d=r:=by
 subst e
 refine ⟨?_,?_⟩
 ·rw [Int.fdiv_eq_ediv_of_nonneg _ (by omega),Int.mul_add_ediv_left _ _ (by omega),Int.ediv_eq_zero_of_lt h0 h1];omega
 ·rw [Int.mul_add_emod_self_left,Int.emod_eq_of_lt h0 h1]
theorem Lin.lt_ok {bd:Bd} (h:BD bd) {x y:Lin} {b:Bool} (e:x.lt bd y=some b):b=decide (x.val < y.val):=by
 unfold Lin.lt at e
 split at e
 ·rename_i p hp
  have:=Lin.bnd_ok h hp
  rw [Lin.val_sub] at this
  cases h1:decide (p.2 < 0)<;>rw [h1] at e
  ·cases h2:decide (0≤p.1)<;>rw [h2] at e
   ·cases e
   ·cases e
    have:=of_decide_eq_true h2
    exact (decide_eq_false (by omega)).symm
  ·cases e
   have:=of_decide_eq_true h1
   exact (decide_eq_true (by omega)).symm
 ·cases e
theorem Lin.eq_ok {bd:Bd} (h:BD bd) {x y:Lin} {b:Bool} (e:x.eq bd y=some b):b=(x.val==y.val):=by
 unfold Lin.eq at e
 split at e
 ·rename_i p hp
  have:=Lin.bnd_ok h hp
  rw [Lin.val_sub] at this
  cases h1:decide (p.2 < 0) || decide (0 < p.1)<;>rw [h1] at e
  ·cases h2:decide (p.1=0)&&decide (p.2=0)<;>rw [h2] at e
   ·cases e
   ·cases e
    simp only [Bool.and_eq_true,decide_eq_true_eq] at h2
    exact (beq_iff_eq.2 (by omega)).symm
  ·cases e
   simp only [Bool.or_eq_true,decide_eq_true_eq] at h1
   exact (beq_eq_false_iff_ne.2 (by omega)).symm
 ·cases e
end
end Go.Eng
namespace Go.Eng
inductive AV where
 | int (k:IntKind) (n:Int)
 | sym (k:IntKind) (e:Lin)
 | bool (b:Bool)
 | str (s:ByteArray)
 | ptr (i off:Nat)
 | nilp
 | slk (i off n c:Nat)
 | slc (i o n:Nat)
 | nils
 | mp (i:Nat)
 | fn (f:FuncId)
 | clo (f:FuncId) (i off:Nat)
 | ext (v:Value)
 | opq (i:Nat)
 | opl (i:Nat) (e:Lin)
 | agg (cs:List AV)
 | tup (vs:List AV)
 deriving Inhabited
inductive Blk where
 | dead
 | row (e:TypeId) (cs:List AV)
 | gro (e:TypeId) (sz:Nat) (cs:List AV)
 | fro (e:TypeId) (cs:List AV)
 | mp (es:List (Int×AV)) (clock:Nat)
 | gho (k:Nat) (az:List AV)
 deriving Inhabited
inductive TK where
 | other|struct|array|slice|str|bool|ptr|map|smap|chan
 | int (k:IntKind)
 deriving Inhabited
def TK.agg:TK→Bool
 | .struct | .array=>true
 | _=>false
def TK.arr:TK→Bool
 | .array=>true
 | _=>false
def TK.sl:TK→Bool
 | .slice=>true
 | _=>false
def TK.isStr:TK→Bool
 | .str=>true
 | _=>false
def TK.mp:TK→Bool
 | .map=>true
 | _=>false
def TK.smp:TK→Bool
 | .smap=>true
 | _=>false
def TK.ch:TK→Bool
 | .chan=>true
 | _=>false
def TK.st:TK→Bool
 | .struct=>true
 | _=>false
structure TI where
 tk:TK
 n:Nat
 z:List AV
 el:Nat
 es:Nat
 ez:List AV
 by_:Nat
 eint:Bool
 eu8:Bool
 sint:Bool
 len:Nat
 fs:List (Nat×Nat×Bool)
 deriving Inhabited
inductive TT where
 | leaf
 | node (k:Nat) (ti:TI) (l r:TT)
 deriving Inhabited
def TT.get:TT→Nat→Option TI
 | .leaf,_=>none
 | .node k ti l r,t=>bif Nat.beq t k then some ti else bif Nat.blt t k then l.get t else r.get t
abbrev Fr:=List (Nat×AV)
abbrev Hp:=List (Nat×Blk)
structure St where
 F:Fr
 H:Hp
 nx:Nat
 orc:List Bool
 obs:List Prop
inductive Ex where
 | normal|exit (id:Nat)|ret
structure Env where
 tt:Nat→Option TI
 body:FuncId→Option Func
 bd:Bd
 hk:FuncId→List AV→St→Option (AV×St)
 cv:TypeId→TypeId→Nat→St→Option (AV×St)
def getA {α}:List (Nat×α)→Nat→Option α
 | [],_=>none
 | (k,x)::l,i=>bif Nat.beq i k then some x else getA l i
def setAt (cs:List AV) (off:Nat) (vs:List AV):List AV:=cs.take off++vs++cs.drop (off+vs.length)
def ofV1:Value→AV
 | .int k n => .int k n
 | .bool b => .bool b
 | .string s => .str s
 | .pointer none => .nilp
 | .slice none 0 0 => .nils
 | v => .ext v
def ofVs:List Value→List AV
 | []=>[]
 | v::l=>ofV1 v::ofVs l
def ofVal:Value→AV
 | .agg cs => .agg (ofVs cs.toList)
 | v=>ofV1 v
def slot (F:Fr) (t:Nat):AV:=(getA F t).getD (.tup [])
def ev (F:Fr):Operand→AV
 | .tmp t=>slot F t
 | .const v=>ofVal v
 | .global g => .ext (.pointer (some ⟨g,0,none⟩))
 | .func f => .fn f
def AV.cells:AV→List AV
 | .agg cs=>cs
 | v=>[v]
def cmp (op:BinOp) (x y:Int):Option Bool :=
 match op with
 | .eql=>some (x==y) | .neq=>some (x != y) | .lss=>some (decide (x < y)) | .leq=>some (decide (x≤y)) | .gtr=>some (decide (x > y)) | .geq=>some (decide (x≥y))
 | _=>none
def arith (op:BinOp) (k:IntKind) (x y:Int):Option Int :=
 match op with
 | .add=>some (k.wrap (x+y)) | .sub=>some (k.wrap (x-y)) | .mul=>some (k.wrap (x*y))
 | .quo=>bif y==0 then none else some (k.wrap (x.tdiv y))
 | .rem=>bif y==0 then none else some (x.tmod y)
 | .shl=>bif decide (y < 0) then none else some (k.wrap (x*2 ^ (min y.toNat k.bits)))
 | .shr=>bif decide (y < 0) then none else some (x.fdiv (2 ^ (min y.toNat k.bits)))
 | .and=>some (k.wrap (BitVec.ofInt k.bits x &&& BitVec.ofInt k.bits y).toNat)
 | .or=>some (k.wrap (BitVec.ofInt k.bits x ||| BitVec.ofInt k.bits y).toNat)
 | .xor=>some (k.wrap (BitVec.ofInt k.bits x ^^^ BitVec.ofInt k.bits y).toNat)
 | _=>none
def AV.num:AV→Option (IntKind×Lin)
 | .int k n=>some (k,⟨n,[]⟩)
 | .sym k e=>some (k,e)
 | _=>none
def Lin.kn (x:Lin):Bool:=match x.ts with
 | []=>true
 | _=>false
def mkNum (k:IntKind) (e:Lin):AV:=match e.ts with
 | [] => .int k e.c
 | _ => .sym k e
def cmpL (bd:Bd) (op:BinOp) (x y:Lin):Option Bool :=
 match op with
 | .eql=>x.eq bd y
 | .neq=>(x.eq bd y).map (!·)
 | .lss=>x.lt bd y
 | .leq=>(y.lt bd x).map (!·)
 | .gtr=>y.lt bd x
 | .geq=>(x.lt bd y).map (!·)
 | _=>none
def arithL (bd:Bd) (op:BinOp) (k:IntKind) (x y:Lin):Option Lin :=
 match op with
 | .add=>bif (x.add y).inK bd k then some (x.add y) else none
 | .sub=>bif (x.sub y).inK bd k then some (x.sub y) else none
 | .shr=>bif y.kn&&decide (0≤y.c) then (x.dm bd (2 ^ (min y.c.toNat k.bits))).map (·.1) else none
 | _=>none
def convL (bd:Bd) (k:IntKind) (e:Lin):Option AV :=
 bif e.kn then some (.int k (k.wrap e.c)) else bif e.inK bd k then some (.sym k e) else bif !k.signed then (e.dm bd (2 ^ k.bits)).map fun p=>mkNum k p.2 else none
def eq1:TK→AV→AV→Option Bool
 | .bool,.bool a,.bool b=>some (a==b)
 | .ptr,.nilp,.nilp=>some true
 | .ptr,.ptr ..,.nilp=>some false
 | .slice,.nils,.nils=>some true
 | .slice,.slc ..,.nils=>some false
 | .slice,.slk ..,.nils=>some false
 | _,_,_=>none
def eqNums (bd:Bd):List AV→List AV→Option Bool
 | [],[]=>some true
 | a::l,b::m=>match a.num,b.num with
  | some (k,x),some (k',y)=>bif !(k==k') then none else
   (bif x.kn&&y.kn then some (x.c==y.c) else x.eq bd y).bind fun t=>bif t then eqNums bd l m else some false
  | _,_=>none
 | _,_=>none
def neg? (op:BinOp) (b:Bool):Option Bool :=
 match op with
 | .eql=>some b
 | .neq=>some (!b)
 | _=>none
def binop (bd:Bd) (ti:TI) (op:BinOp) (x y:AV):Option AV :=
 match x.num,y.num with
 | some (k,a),some (k',b) =>
  bif (k==k') || (op == .shl) || (op == .shr) then
  (bif a.kn&&b.kn then (match cmp op a.c b.c with
   | some t=>some (.bool t)
   | none=>(arith op k a.c b.c).map fun c => .int k c)
     else bif k == k' then (match cmpL bd op a b with
   | some t=>some (.bool t)
   | none=>(arithL bd op k a b).map fun z=>mkNum k z) else none)
  else none
 | _,_ =>
 match x,y with
 | .str a,.str b=>match op with
  | .eql=>some (.bool (a.data.toList==b.data.toList))
  | .neq=>some (.bool (!(a.data.toList==b.data.toList)))
  | .lss=>some (.bool (Op.bytesLess a.data.toList b.data.toList))
  | .geq=>some (.bool (!Op.bytesLess a.data.toList b.data.toList))
  | _=>none
 | .agg a,.agg b=>bif (ti.tk.arr&&ti.eint&&Nat.beq ti.es 1&&Nat.beq a.length ti.len&&Nat.beq b.length ti.len) || (ti.sint&&Nat.beq a.length ti.n&&Nat.beq b.length ti.n) then (eqNums bd a b).bind fun r=>(neg? op r).map fun t => .bool t else none
 | a,b=>(eq1 ti.tk a b).bind fun t=>(neg? op t).map fun t => .bool t
def cellOk:AV→Bool
 | .ext v=>v.oneCell'
 | .agg _ | .tup _=>false
 | _=>true
def fillp (place:Nat→Option (Nat×Nat)):List AV→List (Nat×AV)→Option (List AV)
 | z,[]=>some z
 | z,(i,v)::r=>(place i).bind fun p=>bif v.cells.all cellOk&&Nat.beq v.cells.length p.2&&Nat.ble (p.1+p.2) z.length then fillp place (setAt z p.1 v.cells) r else none
def rep (z:List AV):Nat→List AV
 | 0=>[]
 | n+1=>z++rep z n
def evs (F:Fr):List (Nat×Operand)→List (Nat×AV)
 | []=>[]
 | (i,o)::l=>(i,ev F o)::evs F l
def evl (F:Fr):List Operand→List AV
 | []=>[]
 | o::l=>ev F o::evl F l
def Blk.cs:Blk→List AV
 | .row _ cs=>cs
 | .gro _ _ cs=>cs
 | .fro _ cs=>cs
 | _=>[]
def one:List AV→Option AV
 | [v]=>some v
 | _=>none
def part (a:Bool) (n:Nat) (cs:List AV):Option AV :=
 bif Nat.beq cs.length n then (bif a then some (.agg cs) else one cs) else none
def loadN (H:Hp) (ti:TI) (i off:Nat):Option AV :=
 bif Nat.blt 0 ti.n then (getA H i).bind fun b=>part ti.tk.agg ti.n ((b.cs.drop off).take ti.n) else none
def Blk.put (b:Blk) (off:Nat) (vs:List AV):Option Blk :=
 bif Nat.ble (off+vs.length) b.cs.length then
  match b with
  | .row e cs=>some (.row e (setAt cs off vs))
  | .gro e sz cs=>some (.gro e sz (setAt cs off vs))
  | _=>none
 else none
def storeN (H:Hp) (i off:Nat) (vs:List AV):Option Hp :=
 (getA H i).bind fun b=>(b.put off vs).map fun b=>(i,b)::H
def asNat:AV→Option Nat
 | .int _ (.ofNat n)=>some n
 | _=>none
def opN (F:Fr) (d:Nat):Option Operand→Option Nat
 | none=>some d
 | some o=>asNat (ev F o)
def Blk.holds (b:Blk) (sz o n:Nat):Bool :=
 match b with
 | .gro _ s cs=>Nat.beq s sz&&Nat.ble ((o+n)*sz) cs.length
 | .fro _ cs=>Nat.beq 1 sz&&Nat.ble (o+n) cs.length
 | _=>false
def holds (H:Hp) (i sz o n:Nat):Bool :=
 match getA H i with
 | some b=>b.holds sz o n
 | none=>false
def putM (n:Int) (a:AV):List (Int×AV)→List (Int×AV)
 | []=>[(n,a)]
 | (k,b)::l=>bif decide (n=k) then (k,a)::l else (k,b)::putM n a l
def getM (n:Int):List (Int×AV)→Option AV
 | []=>none
 | (k,b)::l=>bif decide (n=k) then some b else getM n l
def mapPut (E:Env) (t:TypeId) (m k x:AV) (S:St):Option (AV×St) :=
 (E.tt t).bind fun ti=>bif ti.tk.mp&&cellOk x then (match m,k with
  | .mp i,.int .i64 n=>match getA S.H i with
   | some (.mp es _)=>some (.tup [],{ S with H:=(i,.mp (putM n x es) (putM n x es).length)::S.H })
   | _=>none
  | _,_=>none) else bif ti.tk.smp&&cellOk x then (match m,k with
  | .mp i,.agg cs=>match getA S.H i with
   | some (.mp [] _)=>bif Nat.beq cs.length ti.len&&cs.all cellOk then some (.tup [],{ S with H:=(i,.dead)::S.H }) else none
   | _=>none
  | _,_=>none) else none
def mapGet (E:Env) (t:TypeId) (m k:AV) (S:St):Option AV :=
 (E.tt t).bind fun ti=>bif ti.tk.mp then (match m,k with
  | .mp i,.int .i64 n=>match getA S.H i with
   | some (.mp es _)=>match getM n es with
    | some a=>some a
    | none=>one ti.ez
   | _=>none
  | _,_=>none) else bif ti.tk.smp then (match m,k with
  | .mp i,.agg cs=>match getA S.H i with
   | some (.mp [] _)=>bif Nat.beq cs.length ti.len&&cs.all cellOk then one ti.ez else none
   | _=>none
  | _,_=>none) else none
def slcCells (H:Hp) (es:Nat):AV→Option (List AV)
 | .nils=>some []
 | .slk i off n _=>(getA H i).bind fun b =>
  let cs:=(b.cs.drop off).take (n*es)
  bif Nat.beq cs.length (n*es) then some cs else none
 | .slc i o n=>bif holds H i es o n then (getA H i).bind fun b=>some ((b.cs.drop (o*es)).take (n*es)) else none
 | _=>none
def slcLen:AV→Option Nat
 | .nils=>some 0
 | .slk _ _ n _=>some n
 | .slc _ _ n=>some n
 | _=>none
def u8s:List AV→Option (List UInt8)
 | []=>some []
 | .int .u8 (.ofNat n)::l=>bif Nat.blt n 256 then (u8s l).map (UInt8.ofNat n::·) else none
 | _=>none
def opx (E:Env) (o:Op) (S:St):Option (AV×St) :=
 match o with
 | .move x | .assign x=>some (ev S.F x,S)
 | .pick c a b=>match ev S.F c with
  | .bool t=>some (bif t then ev S.F a else ev S.F b,S)
  | _=>none
 | .alloc t=>(E.tt t).bind fun ti=>some (.ptr S.nx 0,{ S with H:=(S.nx,.row t ti.z)::S.H,nx:=S.nx+1 })
 | .box t x=>bif (ev S.F x).cells.all cellOk then some (.ptr S.nx 0,{ S with H:=(S.nx,.row t (ev S.F x).cells)::S.H,nx:=S.nx+1 }) else none
 | .build t ps=>(E.tt t).bind fun ti=>bif ti.tk.agg then
   (fillp (fun i=>bif ti.tk.arr then some (i*ti.es,ti.es) else (nth ti.fs i).map fun p=>(p.1,p.2.1)) ti.z (evs S.F ps.toList)).map fun cs=>(.agg cs,S) else none
 | .buildSlice t n ps=>(E.tt t).bind fun ti=>bif ti.tk.sl&&Nat.ble (n*ti.es) 16777216&&Nat.blt 0 ti.es then
   (fillp (fun i=>some (i*ti.es,ti.es)) (rep ti.ez n) (evs S.F ps.toList)).map fun cs=>(.slk S.nx 0 n n,{ S with H:=(S.nx,.row ti.el cs)::S.H,nx:=S.nx+1 }) else none
 | .load t x=>match ev S.F x with
  | .ptr i off=>(E.tt t).bind fun ti=>(loadN S.H ti i off).map fun u=>(u,S)
  | _=>none
 | .store t x y=>match ev S.F x with
  | .ptr i off=>(E.tt t).bind fun ti=>let vs:=(ev S.F y).cells
   bif Nat.beq vs.length ti.n&&Nat.blt 0 ti.n&&vs.all cellOk then (storeN S.H i off vs).map fun h=>(.tup [],{ S with H:=h }) else none
  | _=>none
 | .nilCheck x=>match ev S.F x with
  | .ptr i off=>some (.ptr i off,S)
  | _=>none
 | .binOp op t x y _=>(E.tt t).bind fun ti=>(binop E.bd ti op (ev S.F x) (ev S.F y)).map fun r=>(r,S)
 | .unOp op _ x=>match op,ev S.F x with
  | .not,.bool b=>some (.bool !b,S)
  | .xor,.int k n=>some (.int k (k.wrap ((BitVec.ofInt k.bits (if k.signed then -1 else k.max) ^^^ BitVec.ofInt k.bits n).toNat)),S)
  | _,_=>none
 | .convert s d x=>(E.tt s).bind fun si=>(E.tt d).bind fun ti=>match ti.tk,(ev S.F x).num with
  | .int k,some (_,e)=>(convL E.bd k e).map fun v=>(v,S)
  | .slice,none=>match ev S.F x with
   | .str b=>bif si.tk.isStr&&ti.eu8&&Nat.ble b.size 1048576 then some (.slc S.nx 0 b.size,{ S with H:=(S.nx,.fro ti.el (b.data.toList.map fun c => .int .u8 (c.toNat:Nat)))::S.H,nx:=S.nx+1 }) else none
   | .slk i off n c=>(getA S.H i).bind fun b=>match b with
    | .row e cs=>bif Nat.beq s d&&ti.eu8&&Nat.beq off 0&&Nat.beq c n&&Nat.beq e ti.el&&Nat.beq cs.length n then some (.slc S.nx 0 n,{ S with H:=(S.nx,.fro ti.el cs)::(i,.dead)::S.H,nx:=S.nx+1 }) else none
    | _=>none
   | _=>none
  | .str,none=>match ev S.F x with
   | .nils=>bif si.tk.sl&&si.eu8 then some (.str .empty,S) else none
   | a=>bif si.tk.sl&&si.eu8 then (slcLen a).bind fun n=>bif Nat.blt 0 n then (slcCells S.H 1 a).bind fun cs=>(u8s cs).map fun l=>(.str ⟨l.toArray⟩,S) else none else none
  | _,_=>none
 | .makeSlice t l c=>(E.tt t).bind fun ti=>(asNat (ev S.F l)).bind fun n=>(asNat (ev S.F c)).bind fun m =>
   bif ti.tk.sl&&Nat.ble n m&&Nat.ble (m*ti.by_) 1048576&&Nat.ble m 1048576 then some (.slk S.nx 0 n m,{ S with H:=(S.nx,.row ti.el (rep ti.ez m))::S.H,nx:=S.nx+1 }) else none
 | .slice t x lo hi mx=>match mx with
  | some mo=>(E.tt t).bind fun ti=>(opN S.F 0 lo).bind fun l=>(asNat (ev S.F mo)).bind fun m=>(hi.bind fun o=>asNat (ev S.F o)).bind fun h =>
   match ev S.F x with
   | .slc i o n=>bif ti.tk.sl&&holds S.H i ti.es o n&&Nat.ble l h&&Nat.ble h m&&Nat.ble m n then some (.slk i (bif Nat.beq m l then o*ti.es else (o+l)*ti.es) (h-l) (m-l),S) else none
   | .nils=>bif ti.tk.sl&&Nat.beq l 0&&Nat.beq h 0&&Nat.beq m 0 then some (.nils,S) else none
   | _=>none
  | none=>(E.tt t).bind fun ti=>(opN S.F 0 lo).bind fun l =>
   match ev S.F x with
   | .slc i o n=>(opN S.F n hi).bind fun h=>bif ti.tk.sl&&holds S.H i ti.es o n&&Nat.ble l h&&Nat.ble h n then
     (bif Nat.beq l 0 || Nat.blt l n then some (.slc i (o+l) (h-l),S) else some (.slc S.nx 0 0,{ S with nx:=S.nx+1 })) else none
   | .nils=>(opN S.F 0 hi).bind fun h=>bif ti.tk.sl&&Nat.beq l 0&&Nat.beq h 0 then some (.nils,S) else none
   | .slk i off n c=>(opN S.F n hi).bind fun h=>bif ti.tk.sl&&Nat.ble l h&&Nat.ble h c then some (.slk i (bif Nat.beq c l then off else off+l*ti.es) (h-l) (c-l),S) else none
   | .ptr i off=>(opN S.F ti.len hi).bind fun h=>bif ti.tk.arr&&Nat.ble l h&&Nat.ble h ti.len then some (.slk i (bif Nat.beq ti.len l then off else off+l*ti.es) (h-l) (ti.len-l),S) else none
   | _=>none
 | .fieldAddr t x f=>match ev S.F x with
  | .ptr i off=>(E.tt t).bind fun ti=>bif ti.tk.st then (nth ti.fs f).bind fun p=>bif Nat.blt 0 p.2.1 then some (.ptr i (off+p.1),S) else none else none
  | _=>none
 | .field t x f=>match ev S.F x with
  | .agg cs=>(E.tt t).bind fun ti=>bif ti.tk.st then (nth ti.fs f).bind fun p=>(part p.2.2 p.2.1 ((cs.drop p.1).take p.2.1)).map fun u=>(u,S) else none
  | _=>none
 | .indexAddr t x i=>(E.tt t).bind fun ti=>(asNat (ev S.F i)).bind fun k=>match ev S.F x with
  | .slc b o n=>bif ti.tk.sl&&holds S.H b ti.es o n&&Nat.blt k n then some (.ptr b ((o+k)*ti.es),S) else none
  | .slk b off n _=>bif ti.tk.sl&&Nat.blt k n then some (.ptr b (off+k*ti.es),S) else none
  | .ptr b off=>bif ti.tk.arr&&Nat.blt k ti.len then some (.ptr b (off+k*ti.es),S) else none
  | _=>none
 | .index t x i=>(E.tt t).bind fun ti=>(asNat (ev S.F i)).bind fun k=>match ev S.F x with
  | .str s=>bif ti.tk.isStr then (nth s.data.toList k).map fun b=>(.int .u8 (b.toNat:Nat),S) else none
  | .agg cs=>bif ti.tk.arr&&ti.eint&&Nat.beq ti.es 1&&Nat.blt k ti.len then (nth cs k).map fun u=>(u,S) else none
  | _=>none
 | .extract x k=>match ev S.F x with
  | .tup vs=>(nth vs k).map fun v=>(v,S)
  | _=>none
 | .makeFunc fn a c=>match fn with
  | .func f=>bif a.isEmpty&&c.isEmpty then some (.fn f,S) else bif a.isEmpty then (match c.toList with
   | [x]=>match ev S.F x with
    | .ptr i off=>some (.clo f i off,S)
    | _=>none
   | _=>none) else none
  | _=>none
 | .makeMap t r=>match r with
  | none=>(E.tt t).bind fun ti=>bif ti.tk.mp || ti.tk.smp then some (.mp S.nx,{ S with H:=(S.nx,.mp [] 0)::S.H,nx:=S.nx+1 }) else none
  | some _=>none
 | .makeChan t s=>(E.tt t).bind fun ti=>(asNat (ev S.F s)).bind fun n=>bif ti.tk.ch&&Nat.ble n 1048576&&Nat.ble (ti.by_*n) 1048576 then some (.opq S.nx,{ S with H:=(S.nx,.dead)::S.H,nx:=S.nx+1 }) else none
 | .mapUpdate t m k x=>mapPut E t (ev S.F m) (ev S.F k) (ev S.F x) S
 | .insert t m k x=>mapPut E t (ev S.F m) (ev S.F k) (ev S.F x) S
 | .lookup t x k ok=>bif ok then none else (mapGet E t (ev S.F x) (ev S.F k) S).map fun a=>(a,S)
 | _=>none
def quietOp (E:Env):Op→Bool
 | .store _ _ _=>false
 | .makeMap _ _=>false
 | .makeChan _ _=>false
 | .mapUpdate _ _ _ _=>false
 | .insert _ _ _ _=>false
 | .lookup _ _ _ _=>false
 | .convert _ d _=>match E.tt d with
  | some ti=>match ti.tk with
   | .int _=>true
   | _=>false
  | none=>false
 | .call c=>match c.callee with
  | .builtin .len | .builtin .cap | .builtin .min | .builtin .max=>true
  | _=>false
 | _=>true
def newOp:Op→Bool
 | .alloc _ | .box _ _ | .buildSlice _ _ _ | .makeSlice _ _ _=>true
 | _=>false
def owned (H:Hp) (ti:TI):AV→Option (Nat×List AV×Hp)
 | .nils=>some (0,[],H)
 | .slk i off n c=>match getA H i with
  | some (.row e cs)=>bif Nat.beq off 0&&Nat.beq e ti.el&&Nat.beq cs.length (c*ti.es)&&Nat.ble n c&&Nat.ble c 1048576 then some (n,cs.take (n*ti.es),(i,.dead)::H) else none
  | _=>none
 | .slc i o n=>match getA H i with
  | some (.gro e sz cs)=>bif Nat.beq o 0&&Nat.beq e ti.el&&Nat.beq sz ti.es&&Nat.ble (n*ti.es) cs.length then some (n,cs.take (n*ti.es),(i,.dead)::H) else none
  | _=>none
 | _=>none
def slcAt (H:Hp) (es:Nat):AV→Option (Nat×Nat)
 | .slk i off _ _=>some (i,off)
 | .slc i o n=>bif holds H i es o n then some (i,o*es) else none
 | _=>none
def fits (H:Hp) (es:Nat):AV→Bool
 | .nils=>true
 | .slk _ _ n c=>Nat.ble n c
 | .slc i o n=>holds H i es o n
 | _=>false
def bltin (E:Env) (b:Builtin) (ts:List TypeId) (args:List AV) (S:St):Option (AV×St) :=
 match ts with
 | []=>none
 | t::ts=>(E.tt t).bind fun ti =>
 match b,args with
 | .len,[x]=>match ti.tk,x with
  | .array,_=>some (.int .i64 (ti.len:Nat),S)
  | .str,.str s=>some (.int .i64 (s.size:Nat),S)
  | .slice,.opl _ e=>some (mkNum .i64 e,S)
  | .slice,x=>(slcLen x).map fun n=>(.int .i64 (n:Nat),S)
  | _,_=>none
 | .cap,[x]=>match ti.tk,x with
  | .slice,.slk _ _ _ c=>some (.int .i64 (c:Nat),S)
  | .slice,.nils=>some (.int .i64 0,S)
  | _,_=>none
 | .min,[x,y]=>match x.num,y.num with
  | some (k,a),some (_,b)=>bif a.kn&&b.kn then some (.int k (if b.c < a.c then b.c else a.c),S) else (b.lt E.bd a).map fun t=>(mkNum k (bif t then b else a),S)
  | _,_=>none
 | .max,[x,y]=>match x.num,y.num with
  | some (k,a),some (_,b)=>bif a.kn&&b.kn then some (.int k (if b.c > a.c then b.c else a.c),S) else (a.lt E.bd b).map fun t=>(mkNum k (bif t then b else a),S)
  | _,_=>none
 | .append,[s,.str b]=>match ts with
  | [t']=>(E.tt t').bind fun xi=>bif ti.tk.sl&&xi.tk.isStr then
    (bif Nat.beq b.size 0 then (bif fits S.H ti.es s then some (s,S) else none) else
    (owned S.H ti s).bind fun r=>bif ti.eu8&&Nat.beq ti.es 1&&Nat.beq ti.by_ 1&&Nat.ble (r.1+b.size) 1048576 then
     some (.slc S.nx 0 (r.1+b.size),{ S with H:=(S.nx,.gro ti.el ti.es (r.2.1++b.data.toList.map fun c => .int .u8 (c.toNat:Nat)))::r.2.2,nx:=S.nx+1 }) else none) else none
  | _=>none
 | .append,[s,x]=>bif ti.tk.sl&&Nat.blt 0 ti.es&&(match ts with|[t']=>Nat.beq t' t|_=>false) then
   (slcLen x).bind fun m=>bif Nat.beq m 0 then (bif fits S.H ti.es s then some (s,S) else none) else
   (slcCells S.H ti.es x).bind fun new=>(owned S.H ti s).bind fun r =>
    bif new.all cellOk&&Nat.ble ((r.1+m)*ti.by_) 1048576&&Nat.ble (r.1+m) 1048576 then
    some (.slc S.nx 0 (r.1+m),{ S with H:=(S.nx,.gro ti.el ti.es (r.2.1++new))::r.2.2,nx:=S.nx+1 }) else none
   else none
 | .copy,[d,x]=>bif ti.tk.sl&&Nat.blt 0 ti.es then (slcLen d).bind fun n=>(slcLen x).bind fun m =>
   bif Nat.beq (min m n) 0 then some (.int .i64 0,S) else
   (slcCells S.H ti.es x).bind fun new=>bif (new.take (min m n*ti.es)).all cellOk then
   (slcAt S.H ti.es d).bind fun p=>(storeN S.H p.1 p.2 (new.take (min m n*ti.es))).map fun h=>(.int .i64 (min m n:Nat),{ S with H:=h }) else none else none
 | .clear,[d]=>bif ti.tk.sl then (slcLen d).bind fun n=>bif Nat.beq n 0 then some (.tup [],S) else
   bif (rep ti.ez n).all cellOk then (slcAt S.H ti.es d).bind fun p=>(storeN S.H p.1 p.2 (rep ti.ez n)).map fun h=>(.tup [],{ S with H:=h }) else none else none
 | _,_=>none
end Go.Eng
namespace Go.Eng
variable [Val]
def GI.ov (x:GI):Option Value:=bif x.v.oneCell' then some x.v else none
def GI.os (x:GI) (n:Int):Option Value:=match x.v with
 | .slice a m c=>bif decide ((m:Int)=n) then some (.slice a m c) else none
 | _=>none
def dn (G:GM):AV→Option Value
 | .int k n=>some (.int k n)
 | .sym k e=>some (.int k e.val)
 | .bool b=>some (.bool b)
 | .str s=>some (.string s)
 | .ptr i off=>(G i).map fun x => .pointer (some ⟨x.g,off,none⟩)
 | .nilp=>some (.pointer none)
 | .slk i off n c=>(G i).map fun x => .slice (some ⟨x.g,off,none⟩) n c
 | .slc i o n=>(G i).map fun x => .slice (some ⟨x.g,x.off+o*x.sz,none⟩) n (x.cap-o)
 | .nils=>some (.slice none 0 0)
 | .mp i=>(G i).map fun x => .map (some x.g)
 | .fn f=>some (.func (.func f) #[] #[])
 | .clo f i off=>(G i).map fun x => .func (.func f) #[] #[.pointer (some ⟨x.g,off,none⟩)]
 | .ext v=>some v
 | .opq i=>(G i).bind GI.ov
 | .opl i e=>(G i).bind fun x=>x.os e.val
 | .agg _ | .tup _=>none
def dns (G:GM):List AV→Option (List Value)
 | []=>some []
 | a::l=>(dn G a).bind fun u=>(dns G l).map (u::·)
def d2 (G:GM):AV→Option Value
 | .agg cs=>(dns G cs).map fun us => .agg us.toArray
 | a=>dn G a
def d2s (G:GM):List AV→Option (List Value)
 | []=>some []
 | a::l=>(d2 G a).bind fun u=>(d2s G l).map (u::·)
def dv (G:GM):AV→Option Value
 | .tup vs=>(d2s G vs).map fun us => .tuple us.toArray
 | a=>d2 G a
theorem GLe.refl (G:GM):GLe G G:=fun _ _ h=>h
theorem GLe.trans {A B C:GM} (h:GLe A B) (k:GLe B C):GLe A C:=fun i x q=>k i x (h i x q)
section
variable {G G' : GM}
theorem dn_mono (h:GLe G G'):∀ {a u},dn G a=some u→dn G' a=some u:=by
 intro a u e
 cases a<;>simp only [dn,Option.map_eq_some_iff,Option.bind_eq_some_iff] at e ⊢<;>first|exact e|(obtain ⟨x,hx,q⟩:=e;exact ⟨x,h _ _ hx,q⟩)
theorem dns_cons {a:AV} {l:List AV} {us:List Value}:dns G (a::l)=some us↔∃ u r,dn G a=some u∧dns G l=some r∧us=u::r:=by
 simp only [dns,Option.bind_eq_some_iff,Option.map_eq_some_iff]
 constructor
 ·rintro ⟨u,h,r,h',rfl⟩;exact ⟨u,r,h,h',rfl⟩
 ·rintro ⟨u,r,h,h',rfl⟩;exact ⟨u,h,r,h',rfl⟩
theorem dns_mono (h:GLe G G'):∀ {l us},dns G l=some us→dns G' l=some us:=by
 intro l;induction l with
 | nil=>intro us e;exact e
 | cons a l ih=>intro us e;obtain ⟨u,r,h1,h2,rfl⟩:=dns_cons.1 e;exact dns_cons.2 ⟨u,r,dn_mono h h1,ih h2,rfl⟩
theorem dns_len:∀ {l:List AV} {us},dns G l=some us→us.length=l.length:=by
 intro l;induction l with
 | nil=>intro us e;cases e;rfl
 | cons a l ih=>intro us e;obtain ⟨u,r,h1,h2,rfl⟩:=dns_cons.1 e;simp [ih h2]
theorem dns_app {l m:List AV} {us}:dns G (l++m)=some us↔∃ x y,dns G l=some x∧dns G m=some y∧us=x++y:=by
 induction l generalizing us with
 | nil=>simp [dns]
 | cons a l ih =>
  rw [List.cons_append,dns_cons]
  constructor
  ·rintro ⟨u,r,h1,h2,rfl⟩;obtain ⟨x,y,h3,h4,rfl⟩:=ih.1 h2;exact ⟨u::x,y,dns_cons.2 ⟨u,x,h1,h3,rfl⟩,h4,rfl⟩
  ·rintro ⟨x,y,h1,h2,rfl⟩;obtain ⟨u,r,h3,h4,rfl⟩:=dns_cons.1 h1;exact ⟨u,r++y,h3,ih.2 ⟨r,y,h4,h2,rfl⟩,rfl⟩
theorem dns_take {l:List AV} {us} (h:dns G l=some us) (n:Nat):dns G (l.take n)=some (us.take n):=by
 have e:=h;rw [← List.take_append_drop n l] at e
 obtain ⟨x,y,h1,h2,rfl⟩:=dns_app.1 e
 have q:=dns_len h1;rw [List.length_take] at q
 rw [h1];congr 1
 by_cases hn:n≤l.length
 ·rw [List.take_left' (by omega)]
 ·have:y=[]:=by have:=dns_len h2;rw [List.length_drop] at this;exact List.eq_nil_of_length_eq_zero (by omega)
  subst this;rw [List.append_nil,List.take_of_length_le (by omega)]
theorem dns_drop {l:List AV} {us} (h:dns G l=some us) (n:Nat):dns G (l.drop n)=some (us.drop n):=by
 have e:=h;rw [← List.take_append_drop n l] at e
 obtain ⟨x,y,h1,h2,rfl⟩:=dns_app.1 e
 have q:=dns_len h1;rw [List.length_take] at q
 rw [h2];congr 1
 by_cases hn:n≤l.length
 ·rw [List.drop_left' (by omega)]
 ·have:y=[]:=by have:=dns_len h2;rw [List.length_drop] at this;exact List.eq_nil_of_length_eq_zero (by omega)
  subst this;rw [List.append_nil,List.drop_of_length_le (by omega)]
theorem dns_setAt {l vs:List AV} {us ws} (h:dns G l=some us) (k:dns G vs=some ws) (off:Nat):dns G (setAt l off vs)=some (us.take off++ws++us.drop (off+ws.length)):=by
 rw [dns_len k]
 exact dns_app.2 ⟨_,_,dns_app.2 ⟨_,_,dns_take h off,k,rfl⟩,dns_drop h _,rfl⟩
theorem dns_one {l:List AV} {v us} (h:dns G l=some us) (k:one l=some v):∃ u,us=[u]∧dn G v=some u:=by
 rcases l with _|⟨a,_|⟨b,l⟩⟩
 ·cases k
 ·cases k;obtain ⟨u,r,h1,h2,rfl⟩:=dns_cons.1 h;cases h2;exact ⟨u,rfl,h1⟩
 ·cases k
theorem d2_cell {G:GM} {a:AV} (h:∀ cs,a ≠ .agg cs):d2 G a=dn G a:=by cases a<;>first|rfl|exact absurd rfl (h _)
theorem dv_cell {G:GM} {a:AV} (h:∀ cs,a ≠ .tup cs):dv G a=d2 G a:=by cases a<;>first|rfl|exact absurd rfl (h _)
theorem d2_of_dn {a:AV} {u} (h:dn G a=some u):d2 G a=some u:=by cases a<;>first|exact h|cases h
theorem dv_of_d2 {a:AV} {u} (h:d2 G a=some u):dv G a=some u:=by cases a<;>first|exact h|cases h
theorem dv_of_dn {a:AV} {u} (h:dn G a=some u):dv G a=some u:=dv_of_d2 (d2_of_dn h)
theorem d2_mono (h:GLe G G') {a u} (e:d2 G a=some u):d2 G' a=some u:=by
 cases a with
 | agg cs=>simp only [d2,Option.map_eq_some_iff] at e ⊢;obtain ⟨x,hx,rfl⟩:=e;exact ⟨x,dns_mono h hx,rfl⟩
 | _=>rw [d2_cell (by simp)] at e ⊢;exact dn_mono h e
theorem d2s_mono (h:GLe G G'):∀ {l us},d2s G l=some us→d2s G' l=some us:=by
 intro l;induction l with
 | nil=>intro us e;exact e
 | cons a l ih =>
  intro us e
  simp only [d2s,Option.bind_eq_some_iff,Option.map_eq_some_iff] at e ⊢
  obtain ⟨u,h1,r,h2,rfl⟩:=e
  exact ⟨u,d2_mono h h1,r,ih h2,rfl⟩
theorem dv_mono (h:GLe G G') {a u} (e:dv G a=some u):dv G' a=some u:=by
 cases a with
 | tup vs=>simp only [dv,Option.map_eq_some_iff] at e ⊢;obtain ⟨x,hx,rfl⟩:=e;exact ⟨x,d2s_mono h hx,rfl⟩
 | _=>rw [dv_cell (by simp)] at e ⊢;exact d2_mono h e
theorem dn_ofV1 (v:Value):dn G (ofV1 v)=some v:=by
 unfold ofV1;split<;>rfl
theorem dns_ofVs:∀ l:List Value,dns G (ofVs l)=some l
 | []=>rfl
 | v::l=>dns_cons.2 ⟨v,l,dn_ofV1 v,dns_ofVs l,rfl⟩
theorem ofVal_1 {v:Value} (h:∀ cs,v ≠ .agg cs):ofVal v=ofV1 v:=by cases v<;>first|rfl|exact absurd rfl (h _)
theorem dv_ofVal (v:Value):dv G (ofVal v)=some v:=by
 cases v with
 | agg cs=>show (dns G (ofVs cs.toList)).map _=_;rw [dns_ofVs];simp
 | _=>rw [ofVal_1 (by simp)];exact dv_of_dn (dn_ofV1 _)
theorem Lin.val_kn {e:Lin} (h:e.kn=true):e.val=e.c:=by
 unfold Lin.kn at h
 split at h
 ·rename_i q;simp [Lin.val,q,valT]
 ·cases h
theorem dv_num {a:AV} {k e u} (h:a.num=some (k,e)) (q:dv G a=some u):u = .int k e.val:=by
 cases a<;>cases h
 ·rw [Lin.val_kn rfl];exact (Option.some.inj q).symm
 ·exact (Option.some.inj q).symm
theorem dv_mkNum (k:IntKind) (e:Lin):dv G (mkNum k e)=some (.int k e.val):=by
 unfold mkNum
 split
 ·rename_i q;rw [Lin.val_kn (by simp [Lin.kn,q])];rfl
 ·rfl
theorem dv_asNat {a:AV} {n u} (h:asNat a=some n) (e:dv G a=some u):∃ k,u = .int k (n:Int):=by
 unfold asNat at h
 split at h
 ·cases h;exact ⟨_,(Option.some.inj e).symm⟩
 ·cases h
theorem ov_one {x:GI} {u} (h:x.ov=some u):u.oneCell'=true:=by
 unfold GI.ov at h
 cases hq:x.v.oneCell'<;>rw [hq] at h<;>cases h
 exact hq
theorem os_some {x:GI} {n:Int} {u} (h:x.os n=some u):∃ a m c,x.v = .slice a m c∧(m:Int)=n∧u = .slice a m c:=by
 unfold GI.os at h
 split at h
 ·rename_i a m c hv
  cases hq:decide ((m:Int)=n)<;>rw [hq] at h<;>cases h
  exact ⟨a,m,c,hv,of_decide_eq_true hq,rfl⟩
 ·cases h
theorem cellOk_one {a:AV} {u} (h:cellOk a=true) (e:dn G a=some u):u.oneCell'=true:=by
 cases a<;>simp only [dn,Option.map_eq_some_iff,Option.bind_eq_some_iff] at e<;>first
  | (obtain ⟨x,_,rfl⟩:=e;rfl)
  | (obtain ⟨x,_,q⟩:=e;exact ov_one q)
  | (obtain ⟨x,_,q⟩:=e;obtain ⟨a,m,c,_,_,rfl⟩:=os_some q;rfl)
  | (cases e;first|rfl|exact h)
  | cases e
theorem cells_one:∀ {l:List AV} {us},l.all cellOk=true→dns G l=some us→∀ u∈us,u.oneCell'=true:=by
 intro l;induction l with
 | nil=>intro us _ e;cases e;simp
 | cons a l ih =>
  intro us h e u hu
  obtain ⟨v,r,h1,h2,rfl⟩:=dns_cons.1 e
  rw [List.all_cons,Bool.and_eq_true] at h
  rcases List.mem_cons.1 hu with rfl|hu
  ·exact cellOk_one h.1 h1
  ·exact ih h.2 h2 u hu
theorem dv_cells {a:AV} {u} (h:a.cells.all cellOk=true) (e:dv G a=some u):dns G a.cells=some u.cells.toList:=by
 cases a with
 | agg cs =>
  replace e:(dns G cs).map (fun us=>Value.agg us.toArray)=some u:=e
  obtain ⟨us,h1,rfl⟩:=Option.map_eq_some_iff.1 e
  exact h1
 | tup vs=>simp [AV.cells,cellOk] at h
 | _ =>
  rw [dv_cell (by simp),d2_cell (by simp)] at e
  have k:=e
  have h1:=cellOk_one (by simpa [AV.cells] using h) k
  refine dns_cons.2 ⟨u,[],k,rfl,?_⟩
  cases u<;>first|rfl|cases h1
end
end Go.Eng
namespace Go.Eng
variable [Val]
open Go.RowKit
theorem UpdP.refl (O:Nat→Prop) (w:World):UpdP O w w:=⟨rfl,rfl,rfl,Nat.le_refl _,fun _ _ _=>rfl⟩
theorem UpdP.trans {O O1:Nat→Prop} {a b c:World} (h:UpdP O a b) (k:UpdP O1 b c) (ho:∀ x,O1 x→O x∨a.heap.size≤x):UpdP O a c :=
 ⟨k.os.trans h.os,k.tape.trans h.tape,k.output.trans h.output,Nat.le_trans h.size k.size,fun i hi hn=>by
  rw [k.block i (Nat.lt_of_lt_of_le hi h.size) (fun e=>by rcases ho i e with q|q;exact hn q;omega),h.block i hi hn]⟩
structure Adv (w:World) (G:GM) (O:Nat→Prop) (w':World) (G':GM) (O':Nat→Prop):Prop where
 g:GLe G G'
 u:UpdP O w w'
 o:∀ x,O' x→O x∨w.heap.size≤x
theorem Adv.refl (w:World) (G:GM) (O:Nat→Prop):Adv w G O w G O:=⟨GLe.refl G,UpdP.refl O w,fun _ h => .inl h⟩
theorem Adv.trans {w G O w1 G1 O1 w2 G2 O2} (h:Adv w G O w1 G1 O1) (k:Adv w1 G1 O1 w2 G2 O2):Adv w G O w2 G2 O2 :=
 ⟨h.g.trans k.g,h.u.trans k.u h.o,fun x q=>by
  rcases k.o x q with q|q
  ·exact h.o x q
  ·exact .inr (Nat.le_trans h.u.size q)⟩
theorem Adv.drew {w:World} {G:GM} {O:Nat→Prop}:Adv w G O { w with drawn:=w.drawn+1 } G O:=⟨GLe.refl G,⟨rfl,rfl,rfl,Nat.le_refl _,fun _ _ _=>rfl⟩,fun _ h => .inl h⟩
def mapObj (G:GM):List (Int×AV)→Option (List (Int×Value))
 | []=>some []
 | (k,a)::l=>(dn G a).bind fun u=>(mapObj G l).map ((k,u)::·)
def entries:List (Int×Value)→Nat→List MapEntry
 | [],_=>[]
 | (k,u)::l,b=>⟨.int .i64 k,u,b⟩::entries l (b+1)
def BS (w:World) (G:GM) (x:GI):Blk→Prop
 | .dead=>True
 | .row e cs=>∃ us,dns G cs=some us∧w.heap[x.g]?=some (.cells us.toArray e (0,0))
 | .gro e sz cs=>(x.sz=sz∧x.off=0)∧0 < sz∧∃ us ys,dns G cs=some us∧w.heap[x.g]?=some (.cells (us++ys).toArray e (0,0))∧us.length+ys.length=x.cap*sz∧x.cap≤maxLen
 | .fro e cs=>(x.sz=1∧x.off=0)∧∃ us ys fr,dns G cs=some us∧w.heap[x.g]?=some (.cells (us++ys).toArray e fr)∧us.length+ys.length=x.cap
 | .mp es clock=>∃ us,mapObj G es=some us∧clock=es.length∧w.heap[x.g]?=some (.map (entries us 0).toArray clock)
 | .gho _ _=>False
theorem mapObj_mono {G G':GM} (h:GLe G G'):∀ {l us},mapObj G l=some us→mapObj G' l=some us:=by
 intro l;induction l with
 | nil=>intro us e;exact e
 | cons a l ih =>
  obtain ⟨k,a⟩:=a
  intro us e
  simp only [mapObj,Option.bind_eq_some_iff,Option.map_eq_some_iff] at e ⊢
  obtain ⟨u,h1,r,h2,rfl⟩:=e
  exact ⟨u,dn_mono h h1,r,ih h2,rfl⟩
theorem BS.mono {w w':World} {G G':GM} {x:GI} {b:Blk} (h:BS w G x b) (hg:GLe G G') (hh:w'.heap[x.g]?=w.heap[x.g]?):BS w' G' x b:=by
 cases b with
 | dead=>trivial
 | row e cs=>obtain ⟨us,h1,h2⟩:=h;exact ⟨us,dns_mono hg h1,hh.trans h2⟩
 | gro e sz cs=>obtain ⟨h0,h1,us,ys,h2,h3,h4⟩:=h;exact ⟨h0,h1,us,ys,dns_mono hg h2,hh.trans h3,h4⟩
 | fro e cs=>obtain ⟨h0,us,ys,fr,h2,h3,h4⟩:=h;exact ⟨h0,us,ys,fr,dns_mono hg h2,hh.trans h3,h4⟩
 | mp es c=>obtain ⟨us,h1,h2,h3⟩:=h;exact ⟨us,mapObj_mono hg h1,h2,hh.trans h3⟩
 | gho k az=>exact h.elim
def Blk.live:Blk→Prop
 | .dead=>False
 | .gho _ _=>False
 | _=>True
structure Sat0 (w:World) (G:GM) (O:Nat→Prop) (H:Hp):Prop where
 bs:∀ i b,getA H i=some b→b.live→∃ x,G i=some x∧O x.g∧x.g < w.heap.size∧BS w G x b
 inj:∀ i j b c x y,getA H i=some b→b.live→getA H j=some c→c.live→G i=some x→G j=some y→x.g=y.g→i=j
def Gh (w:World) (G:GM) (O:Nat→Prop) (H:Hp) (N:Nat→Prop):Prop :=
 ∀ k az,getA H 0=some (.gho k az)→∃ us F,dns G az=some us∧Val.gx k w us F∧(∀ x,F x→O x∧¬ N x)∧∀ i b x,getA H i=some b→b.live→G i=some x→¬ F x.g
structure Sat (w:World) (G:GM) (O:Nat→Prop) (H:Hp) (nx:Nat):Prop extends Sat0 w G O H where
 fresh:∀ i,nx≤i→G i=none
 olt:∀ x,O x→x < w.heap.size
 gh:Gh w G O H (fun _=>False)
 ob:∀ x,O x→Val.b≤x
 bw:Val.b≤w.heap.size
theorem Gh.weak {w:World} {G:GM} {O:Nat→Prop} {H:Hp} {N M:Nat→Prop} (h:Gh w G O H N) (k:∀ x,M x→N x):Gh w G O H M:=fun j az hj=>by
 obtain ⟨us,F,h0,h1,h2,h3⟩:=h j az hj
 exact ⟨us,F,h0,h1,fun x hx=>⟨(h2 x hx).1,fun q=>(h2 x hx).2 (k x q)⟩,h3⟩
theorem Gh.upd {w w':World} {G G':GM} {O O':Nat→Prop} {H H':Hp} {N S M:Nat→Prop} (h:Gh w G O H N) (hg:GLe G G') (hu:UpdP S w w') (hS:∀ x,O x→S x→N x∨∃ i b y,getA H i=some b∧b.live∧G i=some y∧y.g=x)
  (hO:∀ x,O x→O' x) (h0:∀ k az,getA H' 0=some (.gho k az)→getA H 0=some (.gho k az)) (hH:∀ i b x,getA H' i=some b→b.live→G' i=some x→(∃ c,getA H i=some c∧c.live∧G i=some x)∨N x.g∨¬ O x.g) (hM:∀ x,O x→M x→N x) (hb:∀ x,S x→Val.b≤x):Gh w' G' O' H' M:=fun k az hk=>by
 obtain ⟨us,F,h9,h1,h2,h3⟩:=h k az (h0 k az hk)
 refine ⟨us,F,dns_mono hg h9,?_,fun x hx=>⟨hO x (h2 x hx).1,fun q=>(h2 x hx).2 (hM x (h2 x hx).1 q)⟩,fun i b x hi hb hx hF=>?_⟩
 ·refine Val.gm h1 hu (fun x hx hs=>?_) hb
  rcases hS x (h2 x hx).1 hs with q|⟨i,b,y,q1,q2,q3,q4⟩
  ·exact (h2 x hx).2 q
  ·exact h3 i b y q1 q2 q3 (by rw [q4];exact hx)
 ·rcases hH i b x hi hb hx with ⟨c,q1,q2,q3⟩|q|q
  ·exact h3 i c x q1 q2 q3 hF
  ·exact (h2 _ hF).2 q
  ·exact q (h2 _ hF).1
theorem getA_cons {α} (k:Nat) (x:α) (l:List (Nat×α)) (i:Nat):getA ((k,x)::l) i=if i=k then some x else getA l i:=by
 simp only [getA]
 by_cases h:i=k
 ·subst h;simp
 ·rw [if_neg h]
  cases hq:Nat.beq i k
  ·rfl
  ·exact absurd (Nat.eq_of_beq_eq_true hq) h
theorem BS.ng {w:World} {G:GM} {x:GI} {b:Blk} (h:BS w G x b) (k:Nat) (az:List AV):b ≠ .gho k az:=fun e=>by subst e;exact h.elim
theorem h0_cons {i:Nat} {b:Blk} {H:Hp} (hb:∀ k az,b ≠ .gho k az) (k:Nat) (az:List AV) (h:getA ((i,b)::H) 0=some (.gho k az)):getA H 0=some (.gho k az):=by
 rw [getA_cons] at h
 split at h
 ·exact absurd (Option.some.inj h) (hb k az)
 ·exact h
theorem Sat.bind {w:World} {G:GM} {O:Nat→Prop} {H:Hp} {nx:Nat} (h:Sat w G O H nx) (x:GI) :
  Sat w (fun j=>if j=nx then some x else G j) O H (nx+1)∧Adv w G O w (fun j=>if j=nx then some x else G j) O:=by
 have hlt:∀ i y,G i=some y→i < nx:=fun i y hi=>by
  rcases Nat.lt_or_ge i nx with q|q
  ·exact q
  ·rw [h.fresh i q] at hi;cases hi
 have hg:GLe G (fun j=>if j=nx then some x else G j):=fun i y hi=>by
  have:=hlt i y hi
  show (if i=nx then _ else _)=_
  rw [if_neg (by omega)];exact hi
 have hne:∀ i b,getA H i=some b→b.live→i≠nx:=fun i b hi hl e=>by
  subst e
  obtain ⟨y,h1,_⟩:=h.bs _ b hi hl
  rw [h.fresh _ (Nat.le_refl _)] at h1;cases h1
 refine ⟨⟨⟨fun i b hi hl=>?_,fun i j b c y z hi hb hj hc hy hz he=>?_⟩,fun i hi=>?_,h.olt,h.gh.upd hg (UpdP.refl (fun _=>False) w) (fun _ _ q=>q.elim) (fun _ q=>q) (fun _ _ q=>q) (fun i b y hi hb hy => .inl ⟨b,hi,hb,by simp only [if_neg (hne i b hi hb)] at hy;exact hy⟩) (fun _ _ q=>q) (fun _ q=>q.elim),h.ob,h.bw⟩,hg,UpdP.refl O w,fun _ q => .inl q⟩
 ·obtain ⟨y,h1,h2,h3,h4⟩:=h.bs i b hi hl
  exact ⟨y,hg i y h1,h2,h3,h4.mono hg rfl⟩
 ·simp only [if_neg (hne i b hi hb)] at hy
  simp only [if_neg (hne j c hj hc)] at hz
  exact h.inj i j b c y z hi hb hj hc hy hz he
 ·show (if i=nx then _ else _)=_
  rw [if_neg (by omega)];exact h.fresh i (by omega)
variable {w : World} {G : GM} {O : Nat → Prop} {H : Hp} {nx : Nat}
theorem Sat.drew (h:Sat w G O H nx):Sat { w with drawn:=w.drawn+1 } G O H nx:=⟨⟨h.bs,h.inj⟩,h.fresh,h.olt,h.gh.upd (GLe.refl G) (S:=fun _=>False) ⟨rfl,rfl,rfl,Nat.le_refl _,fun _ _ _=>rfl⟩ (fun _ _ q=>q.elim) (fun _ q=>q) (fun _ _ q=>q) (fun i b y hi hb hy => .inl ⟨b,hi,hb,hy⟩) (fun _ _ q=>q) (fun _ q=>q.elim),h.ob,h.bw⟩
theorem Sat.lt (h:Sat w G O H nx) {i x} (hi:G i=some x):i < nx:=by
 rcases Nat.lt_or_ge i nx with q|q
 ·exact q
 ·rw [h.fresh i q] at hi;cases hi
theorem Sat.new (h:Sat w G O H nx) (o:Obj) (x:GI) (b:Blk) (hx:x.g=w.heap.size) (hb:BS (w.alloc o) (fun j=>if j=nx then some x else G j) x b) :
  Sat (w.alloc o) (fun j=>if j=nx then some x else G j) (fun y=>O y∨y=w.heap.size) ((nx,b)::H) (nx+1) ∧
  Adv w G O (w.alloc o) (fun j=>if j=nx then some x else G j) (fun y=>O y∨y=w.heap.size):=by
 have hg:GLe G (fun j=>if j=nx then some x else G j):=fun i y hi=>by
  have:=h.lt hi
  show (if i=nx then _ else _)=_
  rw [if_neg (by omega)];exact hi
 refine ⟨⟨⟨?_,?_⟩,?_,fun y hy=>by simp;rcases hy with q|q;have:=h.olt y q;omega;omega,
  h.gh.upd hg (S:=fun _=>False) ⟨rfl,rfl,rfl,by simp,fun k hk _=>Below.heap_alloc _ _ _ hk⟩ (fun _ _ q=>q.elim) (fun _ q => .inl q) (h0_cons hb.ng) (fun i c y hi hl hy=>by
   rw [getA_cons] at hi
   by_cases e:i=nx
   ·simp only [if_pos e,Option.some.injEq] at hy
    exact .inr (.inr fun q=>by have:=h.olt _ q;rw [← hy,hx] at this;omega)
   ·rw [if_neg e] at hi;simp only [if_neg e] at hy
    exact .inl ⟨c,hi,hl,hy⟩) (fun _ _ q=>q) (fun _ q=>q.elim),fun y q=>q.elim (h.ob y) (fun e=>by rw [e];exact h.bw),Nat.le_trans h.bw (by simp)⟩,hg,⟨rfl,rfl,rfl,by simp,fun k hk _=>Below.heap_alloc _ _ _ hk⟩,fun y hy=>hy.imp id (fun e=>by omega)⟩
 ·intro i c hi hl
  rw [getA_cons] at hi
  by_cases e:i=nx
  ·subst e;rw [if_pos rfl] at hi;cases hi
   exact ⟨x,if_pos rfl,.inr hx,by simp;omega,hb⟩
  ·rw [if_neg e] at hi
   obtain ⟨y,h1,h2,h3,h4⟩:=h.bs i c hi hl
   exact ⟨y,by show (if i=nx then _ else _)=_;rw [if_neg e];exact h1,.inl h2,by simp;omega,h4.mono hg (Below.heap_alloc _ _ _ h3)⟩
 ·intro i j c d y z hi hc hj hd hy hz he
  rw [getA_cons] at hi hj
  by_cases e:i=nx<;>by_cases f:j=nx
  ·omega
  ·exfalso
   rw [if_neg f] at hj
   simp only [if_neg f] at hz;simp only [if_pos e,Option.some.injEq] at hy
   obtain ⟨z',h1,_,h3,_⟩:=h.bs j d hj hd
   rw [hz] at h1;cases h1;rw [← hy,hx] at he;omega
  ·exfalso
   rw [if_neg e] at hi
   simp only [if_neg e] at hy;simp only [if_pos f,Option.some.injEq] at hz
   obtain ⟨z',h1,_,h3,_⟩:=h.bs i c hi hc
   rw [hy] at h1;cases h1;rw [← hz,hx] at he;omega
  ·rw [if_neg e] at hi;rw [if_neg f] at hj
   simp only [if_neg e] at hy;simp only [if_neg f] at hz
   exact h.inj i j c d y z hi hc hj hd hy hz he
 ·intro i hi
  show (if i=nx then _ else _)=_
  rw [if_neg (by omega)];exact h.fresh i (by omega)
theorem Sat.set (h:Sat w G O H nx) {w':World} {i:Nat} {b b':Blk} {x:GI} (hi:getA H i=some b) (hl:b.live) (hx:G i=some x) (hu:UpdP (fun y=>y=x.g) w w') (hb:BS w' G x b') :
  Sat w' G O ((i,b')::H) nx∧Adv w G O w' G O:=by
 obtain ⟨x',e1,ho,hlt,-⟩:=h.bs i b hi hl
 rw [hx] at e1;cases e1
 refine ⟨⟨⟨?_,?_⟩,h.fresh,fun y hy=>Nat.lt_of_lt_of_le (h.olt y hy) hu.size,
  h.gh.upd (GLe.refl G) hu (fun y _ q => .inr ⟨i,b,x,hi,hl,hx,q.symm⟩) (fun _ q=>q) (h0_cons hb.ng) (fun j c y hj hc hy=>by
   rw [getA_cons] at hj
   by_cases e:j=i
   ·subst e
    rw [hx] at hy;cases hy
    exact .inl ⟨b,hi,hl,hx⟩
   ·rw [if_neg e] at hj
    exact .inl ⟨c,hj,hc,hy⟩) (fun _ _ q=>q) (fun y q=>by rw [q];exact h.ob _ ho),h.ob,Nat.le_trans h.bw hu.size⟩,GLe.refl G,⟨hu.os,hu.tape,hu.output,hu.size,fun k hk hn=>hu.block k hk (fun e=>hn (by rw [e];exact ho))⟩,fun _ q => .inl q⟩
 ·intro j c hj hc
  rw [getA_cons] at hj
  by_cases e:j=i
  ·subst e;rw [if_pos rfl] at hj;cases hj
   exact ⟨x,hx,ho,Nat.lt_of_lt_of_le hlt hu.size,hb⟩
  ·rw [if_neg e] at hj
   obtain ⟨y,h1,h2,h3,h4⟩:=h.bs j c hj hc
   refine ⟨y,h1,h2,Nat.lt_of_lt_of_le h3 hu.size,h4.mono (GLe.refl G) (hu.block _ h3 (fun q=>e ?_))⟩
   exact h.inj j i c b y x hj hc hi hl h1 hx q
 ·intro j k c d y z hj hc hk hd hy hz he
  rw [getA_cons] at hj hk
  by_cases e:j=i<;>by_cases f:k=i
  ·omega
  ·rw [if_neg f] at hk;subst e;exact h.inj j k b d y z hi hl hk hd hy hz he
  ·rw [if_neg e] at hj;subst f;exact h.inj j k c b y z hj hc hi hl hy hz he
  ·rw [if_neg e] at hj;rw [if_neg f] at hk
   exact h.inj j k c d y z hj hc hk hd hy hz he
theorem Sat.kill (h:Sat w G O H nx) (i:Nat):Sat w G O ((i,.dead)::H) nx:=by
 refine ⟨⟨?_,?_⟩,h.fresh,h.olt,h.gh.upd (GLe.refl G) (UpdP.refl (fun _=>False) w) (fun _ _ q=>q.elim) (fun _ q=>q) (h0_cons (by simp)) (fun j c y hj hc hy=>by
  rw [getA_cons] at hj
  by_cases e:j=i
  ·rw [if_pos e] at hj;cases hj;exact hc.elim
  ·rw [if_neg e] at hj
   exact .inl ⟨c,hj,hc,hy⟩) (fun _ _ q=>q) (fun _ q=>q.elim),h.ob,h.bw⟩
 ·intro j c hj hc
  rw [getA_cons] at hj
  by_cases e:j=i
  ·rw [if_pos e] at hj;cases hj;exact hc.elim
  ·rw [if_neg e] at hj;exact h.bs j c hj hc
 ·intro j k c d y z hj hc hk hd hy hz he
  rw [getA_cons] at hj hk
  by_cases e:j=i
  ·rw [if_pos e] at hj;cases hj;exact hc.elim
  by_cases f:k=i
  ·rw [if_pos f] at hk;cases hk;exact hd.elim
  rw [if_neg e] at hj;rw [if_neg f] at hk
  exact h.inj j k c d y z hj hc hk hd hy hz he
theorem Sat0.cells (h:Sat0 w G O H) {i:Nat} {b:Blk} (hi:getA H i=some b) (hb:b.cs≠[]) :
  ∃ x us ys e fr,G i=some x∧dns G b.cs=some us∧w.heap[x.g]?=some (.cells (us++ys).toArray e fr)∧b.live∧(∀ e',b = .row e' b.cs→ys=[])∧((∀ e',b ≠ .fro e' b.cs)→fr=(0,0)):=by
 cases b with
 | dead=>exact absurd rfl hb
 | row e cs =>
  obtain ⟨x,h1,_,_,us,h2,h3⟩:=h.bs i _ hi trivial
  exact ⟨x,us,[],e,_,h1,h2,by rw [List.append_nil];exact h3,trivial,fun _ _=>rfl,fun _=>rfl⟩
 | gro e sz cs =>
  obtain ⟨x,h1,_,_,_,_,us,ys,h2,h3,_⟩:=h.bs i _ hi trivial
  exact ⟨x,us,ys,e,_,h1,h2,h3,trivial,(fun _ q=>by cases q),fun _=>rfl⟩
 | fro e cs =>
  obtain ⟨x,h1,_,_,_,us,ys,fr,h2,h3,_⟩:=h.bs i _ hi trivial
  exact ⟨x,us,ys,e,fr,h1,h2,h3,trivial,(fun _ q=>by cases q),fun q=>absurd rfl (q e)⟩
 | mp es c=>exact absurd rfl hb
 | gho k az=>exact absurd rfl hb
theorem Sat0.holds (h:Sat0 w G O H) {i sz o n:Nat} (hi:holds H i sz o n=true):∃ x,G i=some x∧x.sz=sz∧x.off=0∧o+n≤x.cap:=by
 unfold Go.Eng.holds at hi
 split at hi
 ·rename_i b hb
  unfold Blk.holds at hi
  split at hi
  ·rename_i e s cs
   simp only [Bool.and_eq_true] at hi
   obtain ⟨x,h1,_,_,h2,h3,us,ys,h4,h5,h6,h7⟩:=h.bs i _ hb trivial
   have q1:=Nat.eq_of_beq_eq_true hi.1
   have q2:=Nat.le_of_ble_eq_true hi.2
   have:=dns_len h4
   refine ⟨x,h1,h2.1.trans q1,h2.2,?_⟩
   rw [q1] at h6 h3
   have:(o+n)*sz≤x.cap*sz:=by omega
   exact Nat.le_of_mul_le_mul_right this h3
  ·simp only [Bool.and_eq_true] at hi
   obtain ⟨x,h1,_,_,h2,us,ys,fr,h4,h5,h6⟩:=h.bs i _ hb trivial
   have q1:=Nat.eq_of_beq_eq_true hi.1
   have q2:=Nat.le_of_ble_eq_true hi.2
   have:=dns_len h4
   exact ⟨x,h1,h2.1.trans q1,h2.2,by omega⟩
  ·cases hi
 ·cases hi
theorem Sat.rebind (h:Sat w G O H nx) {w':World} {S:Nat→Prop} (x:GI) (b:Blk) (hu:UpdP S w w') (hf:∀ j c y,getA H j=some c→c.live→G j=some y→¬ S y.g∧y.g≠x.g) (ho:O x.g∨w.heap.size≤x.g) (hS:∀ y,S y→O y∨w.heap.size≤y) (hlt:x.g < w'.heap.size) (hgh:Gh w G O H (fun y=>S y∨y=x.g))
  (hb:BS w' (fun j=>if j=nx then some x else G j) x b) :
  Sat w' (fun j=>if j=nx then some x else G j) (fun y=>O y∨y=x.g) ((nx,b)::H) (nx+1)∧Adv w G O w' (fun j=>if j=nx then some x else G j) (fun y=>O y∨y=x.g):=by
 have hg:GLe G (fun j=>if j=nx then some x else G j):=fun i y hi=>by
  have:=h.lt hi
  show (if i=nx then _ else _)=_
  rw [if_neg (by omega)];exact hi
 refine ⟨⟨⟨?_,?_⟩,?_,fun y hy=>by rcases hy with q|q;exact Nat.lt_of_lt_of_le (h.olt y q) hu.size;rw [q];exact hlt,
  hgh.upd hg hu (fun y _ q => .inl (.inl q)) (fun _ q => .inl q) (h0_cons hb.ng) (fun i c y hi hl hy=>by
   rw [getA_cons] at hi
   by_cases e:i=nx
   ·simp only [if_pos e,Option.some.injEq] at hy
    exact .inr (.inl (.inr (by rw [hy])))
   ·rw [if_neg e] at hi;simp only [if_neg e] at hy
    exact .inl ⟨c,hi,hl,hy⟩) (fun _ _ q=>q.elim) (fun y q=>(hS y q).elim (h.ob y) (Nat.le_trans h.bw)),fun y q=>q.elim (h.ob y) (fun e=>by rw [e];exact ho.elim (h.ob _) (Nat.le_trans h.bw)),Nat.le_trans h.bw hu.size⟩,hg,⟨hu.os,hu.tape,hu.output,hu.size,fun k hk hn=>hu.block k hk (fun q=>by rcases hS k q with r|r;exact hn r;omega)⟩,fun y hy=>hy.elim .inl (fun e=>by subst e;exact ho)⟩
 ·intro i c hi hl
  rw [getA_cons] at hi
  by_cases e:i=nx
  ·subst e;rw [if_pos rfl] at hi;cases hi
   exact ⟨x,if_pos rfl,.inr rfl,hlt,hb⟩
  ·rw [if_neg e] at hi
   obtain ⟨y,h1,h2,h3,h4⟩:=h.bs i c hi hl
   exact ⟨y,by show (if i=nx then _ else _)=_;rw [if_neg e];exact h1,.inl h2,Nat.lt_of_lt_of_le h3 hu.size,h4.mono hg (hu.block _ h3 (hf i c y hi hl h1).1)⟩
 ·intro i j c d y z hi hc hj hd hy hz he
  rw [getA_cons] at hi hj
  by_cases e:i=nx<;>by_cases f:j=nx
  ·omega
  ·exfalso
   rw [if_neg f] at hj
   simp only [if_neg f] at hz;simp only [if_pos e,Option.some.injEq] at hy
   exact (hf j d z hj hd hz).2 (by rw [← he,← hy])
  ·exfalso
   rw [if_neg e] at hi
   simp only [if_neg e] at hy;simp only [if_pos f,Option.some.injEq] at hz
   exact (hf i c y hi hc hy).2 (by rw [he,← hz])
  ·rw [if_neg e] at hi;rw [if_neg f] at hj
   simp only [if_neg e] at hy;simp only [if_neg f] at hz
   exact h.inj i j c d y z hi hc hj hd hy hz he
 ·intro i hi
  show (if i=nx then _ else _)=_
  rw [if_neg (by omega)];exact h.fresh i (by omega)
end Go.Eng
namespace Go.Eng
variable [Val]
open Go.RowKit
variable {P : Program}
def G0:GM:=fun _=>none
theorem G0_le (G:GM):GLe G0 G:=fun _ _ h=>by cases h
def FInts (P:Program):List Field→Nat→Prop
 | [],_=>True
 | f :: fs, k => f.offset = k ∧ f.name ≠ "_" ∧ (∃ ki, P.underlying f.type = some (.int ki)) ∧ FInts P fs (k + 1)
def KPl (P:Program) (fs:List Field) (n:Nat):Prop:=∀ f∈fs,f.offset < n∧((∃ k,P.underlying f.type=some (.int k))∨P.underlying f.type=some .string)
structure TOK (P:Program) (t:Nat) (ti:TI):Prop where
 info:∃ i z,P.info? t=some i∧i.size=ti.n∧i.zero=some z∧dns G0 ti.z=some z.cells.toList
 el:ti.tk.arr=true∨ti.tk.sl=true→∃ i z,P.info? ti.el=some i∧i.size=ti.es∧i.zero=some z∧z.cells.size=i.size∧dns G0 ti.ez=some z.cells.toList∧i.bytes=ti.by_
 eint:ti.eint=true→∃ k,P.underlying ti.el=some (.int k)
 eu8:ti.eu8=true→P.underlying ti.el=some (.int .u8)
 z8:ti.eu8=true→∃ i,P.info? ti.el=some i∧i.zero=some (.int .u8 0)
 desc:match ti.tk with
  | .other=>∃ d,P.underlying t=some d∧d.isRow=false
  | .struct=>∃ fs,P.underlying t=some (.struct fs)∧fs.size=ti.fs.length∧∀ f p,nth ti.fs f=some p→∃ fd i d,fs[f]?=some fd∧fd.offset=p.1∧P.info? fd.type=some i∧i.size=p.2.1∧P.underlying fd.type=some d∧d.isRow=p.2.2
  | .array=>P.underlying t=some (.array ti.len ti.el)
  | .slice=>P.underlying t=some (.slice ti.el)
  | .int k=>P.underlying t=some (.int k)
  | .str=>P.underlying t=some .string
  | .bool=>P.underlying t=some .bool
  | .ptr=>∃ e,P.underlying t=some (.pointer e)
  | .map=>∃ kt,P.underlying t=some (.map kt ti.el)∧P.underlying kt=some (.int .i64)∧∃ i k n,P.info? ti.el=some i∧i.zero=some (.int k n)∧ti.ez=[.int k n]
  | .smap=>∃ kt fs,P.underlying t=some (.map kt ti.el)∧P.underlying kt=some (.struct fs)∧KPl P fs.toList ti.len∧∃ i k n,P.info? ti.el=some i∧i.zero=some (.int k n)∧ti.ez=[.int k n]
  | .chan=>∃ d e i,P.underlying t=some (.chan d e)∧P.info? e=some i∧i.bytes=ti.by_
 sint:ti.sint=true→∃ fs,P.underlying t=some (.struct fs)∧FInts P fs.toList 0∧fs.size=ti.n∧P.stoodInHeld t=false∧P.eqGuardType P.depth t=false
 aeq:ti.tk.arr=true→ti.eint=true→P.eqGuardType P.depth t=false
theorem TOK.row {t ti} (h:TOK P t ti):∃ d,P.underlying t=some d∧d.isRow=ti.tk.agg:=by
 have:=h.desc
 cases hk:ti.tk<;>rw [hk] at this<;>dsimp only at this
 ·exact this
 ·obtain ⟨fs,h1,_⟩:=this;exact ⟨_,h1,rfl⟩
 ·exact ⟨_,this,rfl⟩
 ·exact ⟨_,this,rfl⟩
 ·exact ⟨_,this,rfl⟩
 ·exact ⟨_,this,rfl⟩
 ·obtain ⟨e,h⟩:=this;exact ⟨_,h,rfl⟩
 ·obtain ⟨kt,h,_⟩:=this;exact ⟨_,h,rfl⟩
 ·obtain ⟨kt,fs,h,_⟩:=this;exact ⟨_,h,rfl⟩
 ·obtain ⟨d,e,i,h,_⟩:=this;exact ⟨_,h,rfl⟩
 ·exact ⟨_,this,rfl⟩
theorem TOK.isS {t ti} (h:TOK P t ti) (hk:ti.tk.isStr=true):P.underlying t=some .string:=by
 have:=h.desc
 cases hq:ti.tk<;>rw [hq] at this hk<;>first|exact this|cases hk
theorem TOK.st {t ti} (h:TOK P t ti) (hk:ti.tk.st=true):∃ fs,P.underlying t=some (.struct fs)∧fs.size=ti.fs.length∧∀ f p,nth ti.fs f=some p→∃ fd i d,fs[f]?=some fd∧fd.offset=p.1∧P.info? fd.type=some i∧i.size=p.2.1∧P.underlying fd.type=some d∧d.isRow=p.2.2:=by
 have:=h.desc
 cases hq:ti.tk<;>rw [hq] at this hk<;>first|exact this|cases hk
theorem TOK.ar {t ti} (h:TOK P t ti) (hk:ti.tk.arr=true):P.underlying t=some (.array ti.len ti.el):=by
 have:=h.desc
 cases hq:ti.tk<;>rw [hq] at this hk<;>first|exact this|cases hk
theorem TOK.sli {t ti} (h:TOK P t ti) (hk:ti.tk.sl=true):P.underlying t=some (.slice ti.el):=by
 have:=h.desc
 cases hq:ti.tk<;>rw [hq] at this hk<;>first|exact this|cases hk
theorem TOK.size {t ti} (h:TOK P t ti):(P.info? t).map (·.size)=some ti.n:=by
 obtain ⟨i,z,h1,h2,_⟩:=h.info;rw [h1];exact congrArg some h2
section
variable {w : World} {G : GM} {O : Nat → Prop} {H : Hp} {nx : Nat} {t : Nat} {ti : TI}
theorem drop_take_get {α} (l:List α) (o n j:Nat) (v:α) (h:((l.drop o).take n)[j]?=some v):l[o+j]?=some v:=by
 rw [List.getElem?_take] at h
 split at h
 ·rwa [List.getElem?_drop] at h
 ·cases h
theorem part_ok {a:Bool} {n:Nat} {cs:List AV} {v:AV} {us:List Value} (h:part a n cs=some v) (e:dns G cs=some us) :
  us.length=n∧if a then dv G v=some (.agg us.toArray) else ∃ u,us=[u]∧dv G v=some u:=by
 unfold part at h
 cases hb:Nat.beq cs.length n<;>rw [hb] at h
 ·cases h
 ·have hn:=Nat.eq_of_beq_eq_true hb
  refine ⟨by rw [dns_len e,hn],?_⟩
  cases a
  ·obtain ⟨u,h1,h2⟩:=dns_one e h
   exact ⟨u,h1,dv_of_dn h2⟩
  ·cases h
   show (dns G cs).map _=_
   rw [e];rfl
theorem load_ok (ht:TOK P t ti) (hS:Sat0 w G O H) {i off:Nat} {v:AV} (h:loadN H ti i off=some v) {x:GI} (hx:G i=some x) :
  ∃ u,(Instr.loadAt t (.pointer (some ⟨x.g,off,none⟩))).run P w = .ok u w∧dv G v=some u:=by
 unfold loadN at h
 cases hn:Nat.blt 0 ti.n<;>rw [hn] at h
 ·cases h
 ·have hpos:0 < ti.n:=by simpa [Nat.blt_eq] using hn
  obtain ⟨b,hb,h⟩:=Option.bind_eq_some_iff.1 h
  have hl:((b.cs.drop off).take ti.n).length=ti.n:=by
   unfold part at h
   cases hq:Nat.beq ((b.cs.drop off).take ti.n).length ti.n<;>rw [hq] at h
   ·cases h
   ·exact Nat.eq_of_beq_eq_true hq
  obtain ⟨x',us,ys,e,fr,h1,h2,h3,h4,_⟩:=hS.cells hb (fun q=>by rw [q] at hl;simp at hl;omega)
  rw [hx] at h1;cases h1
  have h5:=dns_take (dns_drop h2 off) ti.n
  obtain ⟨h6,h7⟩:=part_ok h h5
  have hc:w.rangeAt x.g off ((us.drop off).take ti.n):=fun j v hv=>by
   rw [cell_of_row w x.g (off+j) _ e _ h3]
   have:=drop_take_get _ _ _ _ _ hv
   simp [List.getElem?_append_left (List.getElem?_eq_some_iff.1 this).1,this]
  obtain ⟨d,hd,hr⟩:=ht.row
  cases ha:ti.tk.agg<;>rw [ha] at h7 hr
  ·obtain ⟨u,h8,h9⟩:=h7
   refine ⟨u,?_,h9⟩
   have hcell:w.cell? ⟨x.g,off,none⟩=some u:=hc 0 u (by rw [h8];rfl)
   have hagg:(isAgg t).run P w = .ok false w:=by
    unfold isAgg;rw [Sem.run_bind,run_underlying hd w]
    cases d<;>simp_all
   simp only [Instr.loadAt,Instr.sureAddr,Sem.run_bind,Sem.run_pure,Result.andThen_ok,loadVar,hagg]
   simp [hcell]
  ·exact ⟨_,run_loadAt_mid w x.g off t _ d hc hd hr (by rw [ht.size,h6]),h7⟩
theorem store_ok (ht:TOK P t ti) (hS:Sat w G O H nx) {i off:Nat} {a:AV} {H':Hp} {u:Value} (hl:(Nat.beq a.cells.length ti.n&&Nat.blt 0 ti.n&&a.cells.all cellOk)=true) (h:storeN H i off a.cells=some H') (ha:dv G a=some u) {x:GI} (hx:G i=some x) :
  ∃ w',(Instr.storeAt t (.pointer (some ⟨x.g,off,none⟩)) u).run P w = .ok () w'∧Sat w' G O H' nx∧Adv w G O w' G O:=by
 simp only [Bool.and_eq_true] at hl
 obtain ⟨⟨hl1,hl2⟩,hl3⟩:=hl
 have hlen:=Nat.eq_of_beq_eq_true hl1
 have hpos:0 < ti.n:=by simpa [Nat.blt_eq] using hl2
 have hu:=dv_cells hl3 ha
 have h1c:=cells_one hl3 hu
 unfold storeN at h
 obtain ⟨b,hb,h⟩:=Option.bind_eq_some_iff.1 h
 obtain ⟨b',hb',rfl⟩:=Option.map_eq_some_iff.1 h
 unfold Blk.put at hb'
 cases hq:Nat.ble (off+a.cells.length) b.cs.length<;>rw [hq] at hb'
 ·cases hb'
 ·have hle:off+a.cells.length≤b.cs.length:=Nat.le_of_ble_eq_true hq
  obtain ⟨x',us,ys,e,fr,h1,h2,h3,h4,h5,h5'⟩:=hS.cells hb (fun q=>by rw [q,List.length_nil] at hle;omega)
  rw [hx] at h1;cases h1
  have:=h5' (fun e' q=>by rw [q] at hb';cases hb')
  subst this
  have hul:=dns_len h2
  have hwl:=dns_len hu
  have hb1:off+0+u.cells.toList.length≤(us++ys).toArray.size:=by
   rw [List.size_toArray,List.length_append,hul,hwl];omega
  have hrun:=run_storeCells_at (P:=P) x.g off e u.cells.toList 0 _ w h3 hb1 h1c
  generalize hY:(List.take (off+0) (us++ys).toArray.toList++u.cells.toList++List.drop (off+0+u.cells.toList.length) (us++ys).toArray.toList).toArray=Y at hrun
  refine ⟨w.setRow x.g Y,?_,hS.set hb h4 hx ⟨rfl,rfl,rfl,by simp,fun k _ hk=>setRow_other w x.g k _ hk⟩ ?_⟩
  ·simp only [Instr.storeAt,Instr.sureAddr,Sem.run_bind,Sem.run_pure,Result.andThen_ok,storeVar,sizeOf,typeInfo]
   obtain ⟨i',z,k1,k2,_⟩:=ht.info
   have hs:u.cells.size=i'.size:=by rw [k2,← hlen,← hwl];simp
   simp [k1,hs,hrun]
  ·have hset:=dns_setAt h2 hu off
   have hh:=setRow_heap w x.g (us++ys).toArray Y e (0,0) h3
   rw [← hY] at hh ⊢
   have e1:(us++ys).toArray.toList.take (off+0)++u.cells.toList++(us++ys).toArray.toList.drop (off+0+u.cells.toList.length)=(us.take off++u.cells.toList++us.drop (off+u.cells.toList.length))++ys:=by
    simp only [Nat.add_zero]
    rw [List.take_append_of_le_length (by omega),List.drop_append_of_le_length (by omega)]
    simp
   rw [e1] at hh ⊢
   cases b with
   | dead=>cases hb'
   | mp es c=>cases hb'
   | fro e cs=>cases hb'
   | gho k az=>cases hb'
   | row e' cs =>
    cases hb'
    have:=h5 e' rfl;subst this
    obtain ⟨x',q1,_,_,us',q2,q3⟩:=hS.bs i _ hb trivial
    rw [hx] at q1;cases q1
    rw [h3] at q3
    simp only [Option.some.injEq,Obj.cells.injEq] at q3
    refine ⟨_,hset,?_⟩
    rw [hh,List.append_nil,q3.2.1]
   | gro e' sz cs =>
    cases hb'
    obtain ⟨x',q1,_,_,q4,q5,us',ys',q2,q3,q6,q7⟩:=hS.bs i _ hb trivial
    rw [hx] at q1;cases q1
    have q8:us'=us:=by have:dns G cs=some us:=h2;rw [q2] at this;exact Option.some.inj this
    subst q8
    rw [h3] at q3
    simp only [Option.some.injEq,Obj.cells.injEq] at q3
    have q9:ys=ys':=by have:=congrArg Array.toList q3.1;simpa using this
    refine ⟨q4,q5,_,ys',hset,?_,?_,q7⟩
    ·rw [hh,q9,q3.2.1]
    ·rw [← q6];simp only [List.length_append,List.length_take,List.length_drop];omega
end
end Go.Eng
namespace Go.Eng
variable [Val]
open Go.RowKit
variable {P : Program}
theorem nth_eq {α}:∀ (l:List α) (i:Nat),nth l i=l[i]?
 | [],_=>by simp [nth]
 | _::_,0=>rfl
 | _::l,n+1=>by rw [nth,nth_eq l n];simp
theorem mapM_of {α β} (g:α→Option β):∀ (l:List α) (m:List β),l.length=m.length→(∀ (i:Nat) (a:α) (b:β),l[i]?=some a→m[i]?=some b→g a=some b)→l.mapM g=some m
 | [],[],_,_=>rfl
 | [],_::_,h,_=>by simp at h
 | _::_,[],h,_=>by simp at h
 | a::l,b::m,h,k=>by
  rw [List.mapM_cons,k 0 a b rfl rfl]
  have:=mapM_of g l m (by simpa using h) (fun i x y h1 h2=>k (i+1) x y (by simpa using h1) (by simpa using h2))
  simp [this]
theorem foldl_put:∀ (vs:List Value) (k off:Nat) (us:List Value),off+k+vs.length≤us.length →
  (vs.zipIdx k).foldl (fun (cs:Array Value) (p:Value×Nat)=>cs.setIfInBounds (off+p.2) p.1) us.toArray=(us.take (off+k)++vs++us.drop (off+k+vs.length)).toArray
 | [],k,off,us,_=>by simp
 | v::vs,k,off,us,h=>by
  rw [List.zipIdx_cons,List.foldl_cons]
  simp only [List.length_cons] at h
  have e:us.toArray.setIfInBounds (off+k) v=(us.set (off+k) v).toArray:=by simp
  rw [e,foldl_put vs (k+1) off _ (by simp;omega)]
  congr 1
  rw [show off+(k+1)=off+k+1 by omega,List.length_cons,show off+k+1+vs.length=off+k+(vs.length+1) by omega]
  rw [List.take_add_one,List.getElem?_set_self (by omega),List.take_set_of_le (Nat.le_refl _),List.drop_set_of_lt (by omega)]
  simp
section
variable {w : World} {G : GM} {O : Nat → Prop} {H : Hp} {nx : Nat} {F : Fr} {a : Act}
theorem fill_ok (hF:∀ x,dv G (ev F x)=some (a.eval x)) {place:Nat→Option (Nat×Nat)}:∀ (l:List (Nat×Operand)) (z cs:List AV) (us:List Value),fillp place z (evs F l)=some cs→dns G z=some us →
  ∃ ws,Instr.fill place us.toArray (l.map fun p=>(p.1,a.eval p.2))=some ws.toArray∧dns G cs=some ws
 | [],z,cs,us,h,e=>by
  cases h;exact ⟨us,rfl,e⟩
 | (i,x)::l,z,cs,us,h,e=>by
  simp only [evs,fillp] at h
  obtain ⟨p,hp,h⟩:=Option.bind_eq_some_iff.1 h
  cases hq:((ev F x).cells.all cellOk&&Nat.beq (ev F x).cells.length p.2&&Nat.ble (p.1+p.2) z.length)<;>rw [hq] at h
  ·cases h
  ·simp only [Bool.and_eq_true] at hq
   obtain ⟨⟨q1,q2⟩,q3⟩:=hq
   have hc:=dv_cells q1 (hF x)
   have hl:=dns_len hc
   have hz:=dns_len e
   have q2:=Nat.eq_of_beq_eq_true q2
   have q3:=Nat.le_of_ble_eq_true q3
   have hs:(a.eval x).cells.size=p.2:=by rw [← Array.length_toList,hl,q2]
   obtain ⟨ws,h1,h2⟩:=fill_ok hF l _ cs _ h (dns_setAt e hc p.1)
   refine ⟨ws,?_,h2⟩
   rw [← h1]
   obtain ⟨off,size⟩:=p
   simp only [List.map_cons,Instr.fill,hp]
   have hn:¬ ((a.eval x).cells.size≠size∨off+(a.eval x).cells.size > us.toArray.size):=by
    simp only [List.size_toArray] ; dsimp only at hs q3;omega
   have hf:=foldl_put (a.eval x).cells.toList 0 off us (by rw [Array.length_toList,hs];dsimp only at q3;omega)
   simp only [Bool.or_eq_true,decide_eq_true_eq,hn,if_false]
   rw [← Array.foldl_toList,Array.toList_zipIdx,hf]
   simp
theorem build_ok {t:Nat} {ti:TI} (ht:TOK P t ti) (hk:ti.tk.agg=true) (hF:∀ x,dv G (ev F x)=some (a.eval x)) {ps:Array (Nat×Operand)} {cs:List AV}
  (h:fillp (fun i=>bif ti.tk.arr then some (i*ti.es,ti.es) else (nth ti.fs i).map fun p=>(p.1,p.2.1)) ti.z (evs F ps.toList)=some cs) :
  ∃ u,(Instr.build t (ps.map fun (i,x)=>(i,a.eval x))).run P w = .ok u w∧dv G (.agg cs)=some u:=by
 obtain ⟨i,z,h1,h2,h3,h4⟩:=ht.info
 obtain ⟨ws,k1,k2⟩:=fill_ok hF _ _ _ _ h (dns_mono (G0_le G) h4)
 refine ⟨.agg ws.toArray,run_build w t _ ws.toArray ?_,by show (dns G cs).map _=_;rw [k2];rfl⟩
 have e:(ps.map fun (i,x)=>(i,a.eval x)).toList=ps.toList.map fun p=>(p.1,a.eval p.2):=by simp
 rw [e]
 unfold Program.built
 cases hq:ti.tk with
 | struct =>
  obtain ⟨fs,q1,q2,q3⟩:=ht.st (by rw [hq];rfl)
  have hp:fs.toList.mapM (fun f=>(P.info? f.type).map fun i=>(f.offset,i.size))=some (ti.fs.map fun p=>(p.1,p.2.1)):=by
   refine mapM_of _ _ _ (by simpa using q2) (fun j f b j1 j2=>?_)
   rw [List.getElem?_map] at j2
   obtain ⟨p,j3,rfl⟩:=Option.map_eq_some_iff.1 j2
   obtain ⟨fd,i',d,r1,r2,r3,r4,_⟩:=q3 j p (by rw [nth_eq];exact j3)
   have:f=fd:=by rw [Array.getElem?_toList,r1] at j1;exact (Option.some.inj j1).symm
   subst this
   rw [r3,r2,← r4];rfl
  simp only [h1,q1,h3,hp]
  have e2:(fun x=>(List.map (fun p=>(p.fst,p.snd.fst)) ti.fs).toArray[x]?)=(fun i=>bif ti.tk.arr then some (i*ti.es,ti.es) else (nth ti.fs i).map fun p=>(p.1,p.2.1)):=by
   funext j;rw [hq,nth_eq];simp [TK.arr]
  rw [e2];simpa using k1
 | array =>
  have q1:=ht.ar (by rw [hq];rfl)
  obtain ⟨i',z',q2,q3,_⟩:=ht.el (.inl (by rw [hq];rfl))
  simp only [h1,q1,h3,q2,q3]
  have e2:(fun j=>some (j*ti.es,ti.es))=(fun i=>bif ti.tk.arr then some (i*ti.es,ti.es) else (nth ti.fs i).map fun p=>(p.1,p.2.1)):=by
   funext j;rw [hq];rfl
  rw [e2];simpa using k1
 | _=>rw [hq] at hk;cases hk
theorem dns_rep {z:List AV} {us:List Value} (h:dns G z=some us):∀ n,dns G (rep z n)=some ((List.replicate n us).flatten)
 | 0=>rfl
 | n+1=>by rw [rep,dns_app];exact ⟨us,_,h,dns_rep h n,by simp [List.replicate_succ]⟩
theorem zeros_eq (z:Array Value) (n:Nat):(Array.range (n*z.size)).map (fun i=>z[i % z.size]!)=((List.replicate n z.toList).flatten).toArray:=by
 apply Array.toList_inj.1
 simp only [Array.toList_map,Array.toList_range]
 induction n with
 | zero=>simp
 | succ n ih =>
  rw [Nat.add_mul,Nat.one_mul,Nat.add_comm,List.range_add,List.map_append,List.map_map,List.replicate_succ,List.flatten_cons]
  congr 1
  ·apply List.ext_getElem?
   intro i
   by_cases hi:i < z.size
   ·simp [hi,Nat.mod_eq_of_lt hi]
   ·simp [hi]
  ·rw [← ih];apply List.map_congr_left;intro i _;simp
end
end Go.Eng
namespace Go.Eng
variable [Val]
open Go.RowKit
variable {P : Program}
theorem cmp_ok {op : BinOp} {T : TypeId} {k : IntKind} {x y : Int} {t : Bool} (h : cmp op x y = some t) (w : World) : (Go.binOp op T (.int k x) (.int k y)).run P w = .ok (.bool t) w := by
  cases op <;> cases h <;> simp [Go.binOp, Op.intCmp]
theorem arith_ok {op : BinOp} {T : TypeId} {k k' : IntKind} {x y c : Int} (h : arith op k x y = some c) (hk : ((k == k') || (op == .shl) || (op == .shr)) = true) (w : World) : (Go.binOp op T (.int k x) (.int k' y)).run P w = .ok (.int k c) w := by
  by_cases e : k = k'
  · subst e
    have hq : ∀ z : Int, (bif y == 0 then none else some z) = some c → y ≠ 0 ∧ z = c := fun z h => by
      cases hy : (y == 0) <;> rw [hy] at h
      · cases h; exact ⟨by simpa using hy, rfl⟩
      · cases h
    have hs : ∀ z : Int, (bif decide (y < 0) then none else some z) = some c → ¬ y < 0 ∧ z = c := fun z h => by
      cases hy : decide (y < 0) <;> rw [hy] at h
      · cases h; exact ⟨by simpa using hy, rfl⟩
      · cases h
    cases op <;> simp only [arith] at h <;> first
      | (cases h; done)
      | (cases h; simp [Go.binOp, Op.intArith, Op.intBits]; done)
      | (obtain ⟨h1, rfl⟩ := hq _ h; simp [Go.binOp, Op.intDiv, h1]; done)
      | (obtain ⟨h1, rfl⟩ := hs _ h; simp [Go.binOp, Op.shift, h1]; done)
  · have hs : op = .shl ∨ op = .shr := by
      simp only [Bool.or_eq_true, beq_iff_eq] at hk
      rcases hk with (hk | hk) | hk
      · exact absurd hk e
      · exact .inl hk
      · exact .inr hk
    rcases hs with rfl | rfl
    · simp only [arith] at h
      cases hy : decide (y < 0) <;> rw [hy] at h
      · cases h; simp at hy; simp [Go.binOp, Op.shift, show ¬ y < 0 by omega]
      · cases h
    · simp only [arith] at h
      cases hy : decide (y < 0) <;> rw [hy] at h
      · cases h; simp at hy; simp [Go.binOp, Op.shift, show ¬ y < 0 by omega]
      · cases h
theorem cmpL_ok {bd : Bd} (hb : BD bd) {op : BinOp} {T : TypeId} {k : IntKind} {x y : Lin} {t : Bool} (h : cmpL bd op x y = some t) (w : World) : (Go.binOp op T (.int k x.val) (.int k y.val)).run P w = .ok (.bool t) w := by
  cases op <;> simp only [cmpL] at h <;> first
    | (cases h; done)
    | (have e := Lin.eq_ok hb h; subst e; simp [Go.binOp, Op.intCmp]; done)
    | (have e := Lin.lt_ok hb h; subst e; simp [Go.binOp, Op.intCmp]; done)
    | (obtain ⟨b, h1, rfl⟩ := Option.map_eq_some_iff.1 h; have e := Lin.eq_ok hb h1; subst e; simp [Go.binOp, Op.intCmp, bne]; done)
    | (obtain ⟨b, h1, rfl⟩ := Option.map_eq_some_iff.1 h; have e := Lin.lt_ok hb h1; subst e; simp [Go.binOp, Op.intCmp]; rw [← decide_not]; congr 1; exact propext (by omega))
theorem arithL_ok {bd : Bd} (hb : BD bd) {op : BinOp} {T : TypeId} {k : IntKind} {x y z : Lin} (h : arithL bd op k x y = some z) (w : World) : (Go.binOp op T (.int k x.val) (.int k y.val)).run P w = .ok (.int k z.val) w := by
  cases op <;> simp only [arithL] at h <;> first
    | (cases h; done)
    | (cases hq : (x.add y).inK bd k <;> rw [hq] at h <;> cases h; have e := Lin.inK_ok hb hq; rw [Lin.val_add] at e ⊢; simp [Go.binOp, Op.intArith, e]; done)
    | (cases hq : (x.sub y).inK bd k <;> rw [hq] at h <;> cases h; have e := Lin.inK_ok hb hq; rw [Lin.val_sub] at e ⊢; simp [Go.binOp, Op.intArith, e]; done)
    | (cases hq : y.kn && decide (0 ≤ y.c) <;> rw [hq] at h
       · cases h
       · rw [Bool.and_eq_true] at hq
         obtain ⟨⟨q, r⟩, h1, h2⟩ := Option.map_eq_some_iff.1 (show Option.map _ _ = _ from h)
         cases h2
         obtain ⟨g1, g2, g3, g4⟩ := Lin.dm_ok hb h1
         have hy := of_decide_eq_true hq.2
         rw [Lin.val_kn hq.1]
         refine arith_ok (op := .shr) ?_ (by simp) w
         simp only [arith]
         rw [decide_eq_false (by omega), cond_false, (dm_fdiv g1 g2 g3 g4).1])
theorem convL_ok {bd : Bd} (hb : BD bd) {k : IntKind} {e : Lin} {v : AV} (h : convL bd k e = some v) (G : GM) : dv G v = some (.int k (k.wrap e.val)) := by
  unfold convL at h
  cases hkn : e.kn <;> rw [hkn] at h
  · dsimp only [cond_false] at h
    cases hk : e.inK bd k <;> rw [hk] at h
    · dsimp only [cond_false] at h
      cases hs : k.signed <;> rw [hs] at h
      · obtain ⟨⟨q, r⟩, h1, h2⟩ := Option.map_eq_some_iff.1 (show Option.map _ _ = _ from h)
        cases h2
        obtain ⟨g1, g2, g3, g4⟩ := Lin.dm_ok hb h1
        rw [dv_mkNum]
        have := (dm_fdiv g1 g2 g3 g4).2
        unfold IntKind.wrap
        simp only [hs, Bool.false_and, Bool.false_eq_true, if_false, this]
      · cases h
    · cases h
      rw [Lin.inK_ok hb hk]; rfl
  · cases h
    rw [Lin.val_kn hkn]; rfl
theorem eqN_ok {bd : Bd} (hb : BD bd) {x y : Lin} {t : Bool} (h : (bif x.kn && y.kn then some (x.c == y.c) else x.eq bd y) = some t) : t = (x.val == y.val) := by
  cases hk : x.kn && y.kn <;> rw [hk] at h
  · exact Lin.eq_ok hb h
  · rw [Bool.and_eq_true] at hk
    cases h
    rw [Lin.val_kn hk.1, Lin.val_kn hk.2]
theorem eqNums_ok {bd : Bd} (hb : BD bd) {e : TypeId} {ke : IntKind} {d : Nat} (he : P.underlying e = some (.int ke)) {G : GM} (w : World) : ∀ {l m : List AV} {t : Bool} (pre pre' us vs : List Value), eqNums bd l m = some t → pre.length = pre'.length → dns G l = some us → dns G m = some vs →
    (Op.eqItems (d + 1) e 1 (pre ++ us).toArray (pre' ++ vs).toArray ((List.range us.length).map (· + pre.length))).run P w = .ok t w
  | [], [], t, pre, pre', us, vs, h, hp, h1, h2 => by
    cases h; cases h1; simp [Op.eqItems]
  | [], _ :: _, t, pre, pre', us, vs, h, hp, h1, h2 => by cases h
  | _ :: _, [], t, pre, pre', us, vs, h, hp, h1, h2 => by cases h
  | a :: l, b :: m, t, pre, pre', us, vs, h, hp, h1, h2 => by
    simp only [eqNums] at h
    split at h
    · rename_i k x k' y e1 e2
      cases hk : !(k == k') <;> rw [hk] at h
      · have hk : k = k' := by simpa using hk
        subst hk
        obtain ⟨u, h3, h4⟩ := Option.bind_eq_some_iff.1 h
        obtain ⟨ua, us', g1, g2, rfl⟩ := dns_cons.1 h1
        obtain ⟨vb, vs', g3, g4, rfl⟩ := dns_cons.1 h2
        have k1 := dv_num e1 (dv_of_dn g1)
        have k2 := dv_num e2 (dv_of_dn g3)
        subst k1; subst k2
        have hu : u = (x.val == y.val) := eqN_ok hb h3
        have hpart : ∀ (pr : List Value) (c : Int) (tl : List Value), (Go.part e (pr ++ .int k c :: tl).toArray (pr.length * 1)).run P w = .ok (.int k c) w := fun pr c tl => by
          have hagg : (isAgg e).run P w = .ok false w := by
            unfold isAgg; rw [Sem.run_bind, run_underlying he w]; rfl
          simp [Go.part, hagg]
        have hp1 := hpart pre x.val us'
        have hp2 := hpart pre' y.val vs'
        rw [← hp] at hp2
        rw [List.length_cons, List.range_succ_eq_map, List.map_cons, List.map_map]
        simp only [Op.eqItems, Sem.run_bind, Nat.zero_add, hp1, hp2, Result.andThen_ok, run_equalIn_int w d e k ke x.val y.val he]
        rw [← hu]
        cases u
        · cases h4; simp
        · have := eqNums_ok hb (d := d) he w (pre ++ [.int k x.val]) (pre' ++ [.int k y.val]) us' vs' h4 (by simp [hp]) g2 g4
          simp only [Bool.not_true, Bool.false_eq_true, if_false]
          rw [show (pre ++ [Value.int k x.val] ++ us').toArray = (pre ++ Value.int k x.val :: us').toArray by simp, show (pre' ++ [Value.int k y.val] ++ vs').toArray = (pre' ++ Value.int k y.val :: vs').toArray by simp] at this
          rw [← this]
          congr 2
          apply List.map_congr_left; intro i _; simp; omega
      · cases h
    · cases h
theorem eqFields_ok {bd : Bd} (hb : BD bd) {d : Nat} {G : GM} (w : World) : ∀ {l m : List AV} {t : Bool} (fs : List Field) (pre pre' us vs : List Value), eqNums bd l m = some t → pre.length = pre'.length → dns G l = some us → dns G m = some vs → FInts P fs pre.length → fs.length = us.length →
    (Op.eqFields (d + 1) (pre ++ us).toArray (pre' ++ vs).toArray fs).run P w = .ok t w
  | [], [], t, fs, pre, pre', us, vs, h, hp, h1, h2, hf, hl => by
    cases h; cases h1
    have : fs = [] := List.eq_nil_of_length_eq_zero hl
    subst this; simp [Op.eqFields]
  | [], _ :: _, t, fs, pre, pre', us, vs, h, hp, h1, h2, hf, hl => by cases h
  | _ :: _, [], t, fs, pre, pre', us, vs, h, hp, h1, h2, hf, hl => by cases h
  | a :: l, b :: m, t, fs, pre, pre', us, vs, h, hp, h1, h2, hf, hl => by
    simp only [eqNums] at h
    split at h
    · rename_i k x k' y e1 e2
      cases hk : !(k == k') <;> rw [hk] at h
      · have hk : k = k' := by simpa using hk
        subst hk
        obtain ⟨u, h3, h4⟩ := Option.bind_eq_some_iff.1 h
        obtain ⟨ua, us', g1, g2, rfl⟩ := dns_cons.1 h1
        obtain ⟨vb, vs', g3, g4, rfl⟩ := dns_cons.1 h2
        have k1 := dv_num e1 (dv_of_dn g1)
        have k2 := dv_num e2 (dv_of_dn g3)
        subst k1; subst k2
        have hu : u = (x.val == y.val) := eqN_ok hb h3
        cases fs with
        | nil => simp at hl
        | cons f fs =>
          obtain ⟨f1, f2, ⟨ke, he⟩, f3⟩ := hf
          have hpart : ∀ (pr : List Value) (c : Int) (tl : List Value), (Go.part f.type (pr ++ .int k c :: tl).toArray pr.length).run P w = .ok (.int k c) w := fun pr c tl => by
            have hagg : (isAgg f.type).run P w = .ok false w := by
              unfold isAgg; rw [Sem.run_bind, run_underlying he w]; rfl
            simp [Go.part, hagg]
          have hp1 := hpart pre x.val us'
          have hp2 := hpart pre' y.val vs'
          rw [← hp] at hp2
          simp only [Op.eqFields, f2, ne_eq, not_false_eq_true, if_true, f1, Sem.run_bind, hp1, hp2, Result.andThen_ok, run_equalIn_int w d f.type k ke x.val y.val he]
          rw [← hu]
          cases u
          · cases h4; simp
          · have := eqFields_ok hb (d := d) w fs (pre ++ [.int k x.val]) (pre' ++ [.int k y.val]) us' vs' h4 (by simp [hp]) g2 g4 (by simpa using f3) (by simpa using hl)
            simp only [Bool.not_true, Bool.false_eq_true, if_false]
            rw [show (pre ++ [Value.int k x.val] ++ us').toArray = (pre ++ Value.int k x.val :: us').toArray by simp, show (pre' ++ [Value.int k y.val] ++ vs').toArray = (pre' ++ Value.int k y.val :: vs').toArray by simp] at this
            exact this
      · cases h
    · cases h
end Go.Eng
