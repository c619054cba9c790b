/- Texts of the proof, joined. -/
import Derived.Test.YthgnlfikneipiaaGreatMz4
import Derived.Test.YthgnlfikneipiaaGreatMz11
import Derived.Test.YthgnlfikneipiaaGreatMz8
import Derived.Test.YthgnlfikneipiaaGreatMz6
import Derived.Test.YthgnlfikneipiaaGreatMz10
import Derived.Test.YthgnlfikneipiaaGreatMz5
set_option linter.unusedSimpArgs false
set_option linter.unusedVariables false
set_option linter.unusedSectionVars false
namespace Go.Proofs.YthgnlfikneipiaaGreat
open Go.RowKit
theorem updP {L:List Nat} {w w':World} (h:Upd L w w'):Eng.UpdP (fun x=>x∈L) w w':=⟨h.os,h.tape,h.output,h.size,h.block⟩
theorem updP0 {w w':World} (h:Upd [] w w'):Eng.UpdP (fun _=>False) w w':=⟨h.os,h.tape,h.output,h.size,fun k hk _=>h.block k hk (by simp)⟩
theorem updL {S:Nat→Prop} {w w':World} (h:Eng.UpdP S w w'):∃ L:List Nat,Upd L w w'∧∀ x∈L,S x:=by
 classical
 refine ⟨(List.range w.heap.size).filter fun x=>decide (S x),⟨h.os,h.tape,h.output,h.size,fun k hk hn=>h.block k hk fun q=>hn ?_⟩,fun x hx=>?_⟩
 ·exact List.mem_filter.2 ⟨List.mem_range.2 hk,decide_eq_true q⟩
 ·exact of_decide_eq_true (List.mem_filter.1 hx).2
def lA (w0:World) (Q:World→List Nat→Prop) (up:∀ {w w' G L},Q w G→Upd L w w'→(∀ x∈G,x∉L)→(∀ x∈L,w0.heap.size≤x)→Q w' G) (lt:∀ {w G},Q w G→∀ x∈G,w0.heap.size≤x∧x < w.heap.size):Eng.Asr w0.heap.size where
 P w F:=∃ G,Q w G∧∀ x,F x↔x∈G
 up:=by
  rintro w w' F S ⟨G,h1,h2⟩ hu hs hb
  obtain ⟨L,k1,k2⟩:=updL hu
  exact ⟨G,up h1 k1 (fun x hx hl=>hs x ((h2 x).2 hx) (k2 x hl)) (fun x hx=>hb x (k2 x hx)),h2⟩
 lt:=by
  rintro w F ⟨G,h1,h2⟩ x hx
  exact lt h1 x ((h2 x).1 hx)
def YdQ (w0:World) (v:Value) (fl:FL) (n:Nat) (w:World) (G:List Nat):Prop:=∃ gy tk,v = .pointer (some ⟨gy,0,none⟩)∧YD w0 w gy G fl tk∧tk.length≤n∧∀ p∈tk,0≤p.2∧p.2≤n*65536
def YdA (w0:World) (v:Value) (fl:FL) (n:Nat):Eng.Asr w0.heap.size:=lA w0 (YdQ w0 v fl n)
 (by rintro w w' G L ⟨gy,tk,h1,h2,h3⟩ hu hs hb;exact ⟨gy,tk,h1,h2.upd hu hs hb,h3⟩)
 (by rintro w G ⟨gy,tk,h1,h2,h3⟩ x hx;exact h2.ge x hx)
structure Bnd (n k:Nat) (s:DS):Prop where
 ok:DOk s
 tot:dTotal s.now≤n
 num:s.now.length≤k
 log:s.log.length≤n+k
theorem append_bnd {n k:Nat} {s:DS} (h:Bnd n k s) (nm:ByteArray) (p:List UInt8) (hn:nameOk nm=true) (hk:k≤4000) (hp:n+p.length≤262144):(dAppend s nm p).1=0∧Bnd (n+p.length) (k+1) (dAppend s nm p).2:=by
 have ht:=h.tot
 have hnum:=h.num
 have hlog:=h.log
 unfold dAppend
 rw [if_pos hn,if_neg (by omega)]
 refine ⟨rfl,?_⟩
 dsimp only
 cases hin:inD s.now nm with
 | true =>
  rw [if_pos rfl]
  have h1:=PutOk.all p h.ok hin (by omega) (by omega) (chunks p).length (Nat.le_refl _)
  rw [List.take_length] at h1
  have hc:=chunks_len p
  have hm:min (32*(chunks p).length) p.length=p.length:=by rw [hc];omega
  rw [hm] at h1
  exact ⟨h1.ok,by have:=h1.tot;omega,by have:=h1.len;omega,by have:=h1.log;omega⟩
 | false =>
  rw [if_neg (by simp)]
  obtain ⟨g1,g2,g3,g4,g5⟩:=h.ok.make nm hin (by omega)
  have h1:=PutOk.all p g2 g3 (by omega) (by omega) (chunks p).length (Nat.le_refl _)
  rw [List.take_length] at h1
  have hc:=chunks_len p
  have hm:min (32*(chunks p).length) p.length=p.length:=by rw [hc];omega
  rw [hm] at h1
  have hl:(dDo (wMake nm) s).log.length=s.log.length+1:=by unfold dDo;simp
  exact ⟨h1.ok,by have:=h1.tot;omega,by have:=h1.len;omega,by have:=h1.log;omega⟩
theorem Bnd.mark {n k:Nat} {s:DS} (h:Bnd n k s):Bnd n k (dMark s):=⟨h.ok.mark,h.tot,h.num,by unfold dMark;simp⟩
def StQ (w0:World) (vd vl vj:Value) (rl:List Rec) (n k:Nat) (w:World) (G:List Nat):Prop :=
 ∃ gd gl gj F D K s js,vd = .pointer (some ⟨gd,0,none⟩)∧vl = .pointer (some ⟨gl,0,none⟩)∧vj = .pointer (some ⟨gj,0,none⟩)∧LD w0 w gd gl F D rl s∧JD w0 w gd gj K D js s∧Ap F K∧Bnd n k s∧G=F++D++K
def StA (w0:World) (vd vl vj:Value) (rl:List Rec) (n k:Nat):Eng.Asr w0.heap.size:=lA w0 (StQ w0 vd vl vj rl n k)
 (by
  rintro w w' G L ⟨gd,gl,gj,F,D,K,s,js,h1,h2,h3,h4,h5,h6,h7,rfl⟩ hu hs hb
  have hF:∀ x∈F,x∉L:=fun x hx=>hs x (by simp [hx])
  have hD:∀ x∈D,x∉L:=fun x hx=>hs x (by simp [hx])
  have hK:∀ x∈K,x∉L:=fun x hx=>hs x (by simp [hx])
  exact ⟨gd,gl,gj,F,D,K,s,js,h1,h2,h3,h4.upd hu hF hD hb,h5.upd hu hK hD hb,h6,h7,rfl⟩)
 (by
  rintro w G ⟨gd,gl,gj,F,D,K,s,js,h1,h2,h3,h4,h5,h6,h7,rfl⟩ x hx
  rcases List.mem_append.1 hx with hx|hx
  ·rcases List.mem_append.1 hx with hx|hx
   ·exact h4.geF x hx
   ·exact h4.dd.ge x hx
  ·exact h5.geF x hx)
section
variable {w0 w : World} {v vd vl vj : Value} {fl : FL} {rl : List Rec} {n k : Nat} {G : List Nat}
def Chg (Q:World→List Nat→Prop) (w:World) (G:List Nat) (w':World):Prop:=∃ G',Q w' G'∧Upd G w w'∧∀ x∈G',x∈G∨w.heap.size≤x
theorem st_mark (h:StQ w0 vd vl vj rl n k w G) (hk:k≤4000):Calls Tryz.prog 20 #[vd] w fun e w'=>e = .returned (.tuple #[])∧Chg (StQ w0 vd vl vj rl n k) w G w':=by
 obtain ⟨gd,gl,gj,F,D,K,s,js,rfl,rfl,rfl,h4,h5,h6,h7,rfl⟩:=h
 have:=h7.num
 refine (dMark_any h4.dd (by omega)).mono ?_
 rintro e w' ⟨rfl,D',k1,k2,k3⟩
 obtain ⟨gm,lv,hc,hF⟩:=h4.lc
 obtain ⟨gt,F0,hj,hK⟩:=h5.jc
 have hge:∀ x∈D,w0.heap.size≤x:=fun x hx=>(h4.dd.ge x hx).1
 have aF:Ap F D':=fun x hx hd=>by
  rcases k3 x hd with q|q
  ·exact h4.ap x hx q
  ·have:=(h4.geF x hx).2;omega
 have aK:Ap K D':=fun x hx hd=>by
  rcases k3 x hd with q|q
  ·exact h5.ap x hx q
  ·have:=(h5.geF x hx).2;omega
 have hlc:=hc.upd k2 (by rw [← hF];exact h4.ap) hge
 have hjc:=hj.upd k2 (by rw [← hK];exact h5.ap) hge
 refine ⟨rfl,F++D'++K,⟨gd,gl,gj,F,D',K,dMark s,js,rfl,rfl,rfl,⟨⟨gm,lv,hlc,hF⟩,k1,aF,h4.ok⟩,⟨⟨gt,F0,hjc,hK⟩,k1,aK⟩,h6,h7.mark,rfl⟩,k2.mono (fun x hx => .inl (by simp [hx])),fun x hx=>?_⟩
 rcases List.mem_append.1 hx with hx|hx
 ·rcases List.mem_append.1 hx with hx|hx
  ·exact .inl (by simp [hx])
  ·exact (k3 x hx).imp (fun q=>by simp [q]) id
 ·exact .inl (by simp [hx])
theorem st_add (h:StQ w0 vd vl vj rl n k w G) (r:Rec) (hr:recOk r=true) (hh:hasK rl r.key=false) (hk:k≤4000) (hn:n+208≤262144) (hl:rl.length≤100000000) :
  Calls Tryz.prog 166 #[vl,recVal r] w fun e w'=>e = .returned (.tuple #[.bool true,.int .i64 0])∧Chg (StQ w0 vd vl vj (rl++[r]) (n+208) (k+1)) w G w':=by
 obtain ⟨gd,gl,gj,F,D,K,s,js,rfl,rfl,rfl,h4,h5,h6,h7,rfl⟩:=h
 have h8:=h7.num
 have h9:=h7.log
 have hlen:=encRec_len hr
 have hfl:=frameOf_len (encRec r)
 obtain ⟨q1,q2⟩:=append_bnd h7 nmL (frameOf (encRec r)) nmL_ok hk (by omega)
 have he:lAdd rl s r=((true,0),rl++[r],(dAppend s nmL (frameOf (encRec r))).2):=by
  unfold lAdd;rw [if_pos hr,hh,if_neg (by simp),if_pos q1]
 refine (ledAdd_any h4 r (by omega) (by omega) hl he).mono ?_
 rintro e w' ⟨rfl,F',D',k1,k2,k3,k4⟩
 obtain ⟨gt,F0,hj,hK⟩:=h5.jc
 have hjc:=hj.upd k2 (by
  rw [← hK]
  intro x hx hq
  rcases List.mem_append.1 hq with q|q
  ·exact h6 x q hx
  ·exact h5.ap x hx q) (fun x hx=>by
  rcases List.mem_append.1 hx with q|q
  ·exact (h4.geF x q).1
  ·exact (h4.dd.ge x q).1)
 have aK:Ap K D':=fun x hx hd=>by
  rcases k4 x hd with q|q
  ·rcases List.mem_append.1 q with q|q
   ·exact h6 x q hx
   ·exact h5.ap x hx q
  ·have:=(h5.geF x hx).2;omega
 have aF:Ap F' K:=fun x hf hx=>by
  rcases k3 x hf with q|q
  ·rcases List.mem_append.1 q with q|q
   ·exact h6 x q hx
   ·exact h5.ap x hx q
  ·have:=(h5.geF x hx).2;omega
 refine ⟨rfl,F'++D'++K,⟨gd,gl,gj,F',D',K,_,js,rfl,rfl,rfl,k1,⟨⟨gt,F0,hjc,hK⟩,k1.dd,aK⟩,aF,⟨q2.ok,by have:=q2.tot;omega,q2.num,by have:=q2.log;omega⟩,rfl⟩,k2.mono (fun x hx => .inl (by simp at hx ⊢;rcases hx with q|q<;>simp [q])),fun x hx=>?_⟩
 rcases List.mem_append.1 hx with hx|hx
 ·rcases List.mem_append.1 hx with hx|hx
  ·exact (k3 x hx).imp (fun q=>by simp at q ⊢;rcases q with q|q<;>simp [q]) id
  ·exact (k4 x hx).imp (fun q=>by simp at q ⊢;rcases q with q|q<;>simp [q]) id
 ·exact .inl (by simp [hx])
theorem encChs_b1 (c:Ch) (h:c.2.size≤4000) (h2:0≤c.1∧c.1≤40):1≤(encChs [c]).length∧(encChs [c]).length≤c.2.size+30:=by
 have hb:∀ n:Nat,n < 18446744073709551616→(encNum n).length≤9:=fun n hn=>by
  have:=nb_le8 n hn;rw [encNum_len];omega
 have h1:=encNum_ge [c].length
 have h3:=hb [c].length (by simp)
 have h4:=hb c.1.toNat (by omega)
 have h5:=hb c.2.size (by omega)
 have h6:=encText_len c.2
 unfold encChs encCh
 simp only [List.length_append,List.flatMap_cons,List.flatMap_nil,List.append_nil]
 omega
theorem st_set (h:StQ w0 vd vl vj rl n k w G) {u:Value} (c:Ch) (hu:RdN 2 chCells w u [c]) (hap:∀ x∈blk u,x∉G) (hc:0≤c.1∧c.1≤40) (hs:c.2.size≤4000) (hk:k≤4000) (hn:n+c.2.size+38≤262144) :
  Calls Tryz.prog 76 #[vj,u] w fun e w'=>e = .returned (.int .i64 0)∧Chg (StQ w0 vd vl vj rl (n+c.2.size+38) (k+1)) w G w':=by
 obtain ⟨gd,gl,gj,F,D,K,s,js,rfl,rfl,rfl,h4,h5,h6,h7,rfl⟩:=h
 have h8:=h7.num
 have h9:=h7.log
 have hlen:=encChs_b1 c hs hc
 have hfl:=frameOf_len (encChs [c])
 have hfit:Fit (encChs [c]):=⟨by omega,by omega⟩
 have hpf:putF [] (encChs [c])=frameOf (encChs [c]):=by rw [putF_fit _ _ hfit];rfl
 obtain ⟨q1,q2⟩:=append_bnd h7 nmJ (frameOf (encChs [c])) nmJ_ok hk (by omega)
 have he:jSet js s [c]=(0,jAll js [c],(dAppend s nmJ (frameOf (encChs [c]))).2):=by
  unfold jSet
  rw [if_neg (by simp),if_neg (by simp [chBad];omega),if_neg (by omega),hpf,if_neg (by rw [q1];simp),if_neg]
  have h1:=get_le_total (dAppend s nmJ (frameOf (encChs [c]))).2.now nmJ
  have h2:=q2.tot
  omega
 have h2:=jset_any u [c] h5 hu (fun x hx hq=>hap x hx (by simp at hq ⊢;rcases hq with q|q<;>simp [q])) (fun d hd=>by
  obtain rfl:d=c:=by simpa using hd
  exact ⟨⟨by omega,by omega⟩,by omega⟩) (by omega) (by omega)
 rw [he] at h2
 refine h2.mono ?_
 rintro e w' ⟨rfl,K',D',k1,k2,k3,k4⟩
 obtain ⟨gm,lv,hcl,hF⟩:=h4.lc
 have hlc:=hcl.upd k2 (by
  rw [← hF]
  intro x hx hq
  rcases List.mem_append.1 hq with q|q
  ·exact h6 x hx q
  ·exact h4.ap x hx q) (fun x hx=>by
  rcases List.mem_append.1 hx with q|q
  ·exact (h5.geF x q).1
  ·exact (h5.dd.ge x q).1)
 have aF:Ap F D':=fun x hx hd=>by
  rcases k4 x hd with q|q
  ·rcases List.mem_append.1 q with q|q
   ·exact h6 x hx q
   ·exact h4.ap x hx q
  ·have:=(h4.geF x hx).2;omega
 have aK:Ap F K':=fun x hx hd=>by
  rcases k3 x hd with q|q
  ·rcases List.mem_append.1 q with q|q
   ·exact h6 x hx q
   ·exact h4.ap x hx q
  ·have:=(h4.geF x hx).2;omega
 refine ⟨rfl,F++D'++K',⟨gd,gl,gj,F,D',K',(dAppend s nmJ (frameOf (encChs [c]))).2,jAll js [c],rfl,rfl,rfl,⟨⟨gm,lv,hlc,hF⟩,k1.dd,aF,h4.ok⟩,k1,aK,⟨q2.ok,by have:=q2.tot;omega,q2.num,by have:=q2.log;omega⟩,rfl⟩,k2.mono (fun x hx => .inl (by simp at hx ⊢;rcases hx with q|q<;>simp [q])),fun x hx=>?_⟩
 rcases List.mem_append.1 hx with hx|hx
 ·rcases List.mem_append.1 hx with hx|hx
  ·exact .inl (by simp [hx])
  ·exact (k4 x hx).imp (fun q=>by simp at q ⊢;rcases q with q|q<;>simp [q]) id
 ·exact (k3 x hx).imp (fun q=>by simp at q ⊢;rcases q with q|q<;>simp [q]) id
theorem yd_files (h:YdQ w0 v fl n w G):Calls Tryz.prog 65 #[v] w fun e w'=>∃ u,e = .returned u∧OwnN 3 afCells w.heap.size 178 w' u (yFiles fl)∧Upd [] w w':=by
 obtain ⟨gy,tk,rfl,h2,h3⟩:=h
 exact yFiles_any h2
theorem yd_append (h:YdQ w0 v fl n w G) (s:ByteArray) {u:Value} {p:List UInt8} (hp:Bytes w u p) (hl:p.length≤100000) {fl':FL} {r:Int} (he:yAppend fl s p=(r,fl')):Calls Tryz.prog 22 #[v,sv s,u] w fun e w'=>e = .returned (.int .i64 r)∧Chg (YdQ w0 v fl' n) w G w':=by
 obtain ⟨gy,tk,rfl,h2,h3⟩:=h
 refine (yAppend_any s u p hp (by omega) h2).mono ?_
 rw [he]
 rintro e w' ⟨rfl,G',k1,k2,k3⟩
 exact ⟨rfl,G',⟨gy,tk,rfl,k1,h3⟩,k2,k3⟩
theorem yd_create (h:YdQ w0 v fl n w G) (s:ByteArray) {fl':FL} {r:Int} (he:yCreate fl s=(r,fl')):Calls Tryz.prog 21 #[v,sv s] w fun e w'=>e = .returned (.int .i64 r)∧Chg (YdQ w0 v fl' n) w G w':=by
 obtain ⟨gy,tk,rfl,h2,h3⟩:=h
 refine (yCreate_any s h2).mono ?_
 rw [he]
 rintro e w' ⟨rfl,G',k1,k2,k3⟩
 exact ⟨rfl,G',⟨gy,tk,rfl,k1,h3⟩,k2,k3⟩
theorem yd_read (h:YdQ w0 v fl n w G) (hn:n≤1000) {ino:Int} (hi:isIn ltY fl ino=true) (hino:1≤ino∧ino≤12) (a m:Nat) (ha:a≤100000) (hm:m≤100000) :
  Calls Tryz.prog 107 #[v,iv ino,.int .i64 (a:Int),.int .i64 (m:Int)] w fun e w'=>∃ u,e = .returned (.tuple #[u,.int .i64 0])∧Own bv w.heap.size 5 w' u (((nth fl (below ltY fl ino)).2.2.drop a).take m)∧∃ G',YdQ w0 v fl (n+1) w' G'∧Upd G w w'∧(∀ x∈G',x∈G∨w.heap.size≤x)∧Ap (blk u) G':=by
 obtain ⟨gy,tk,rfl,h2,h3,h4⟩:=h
 have hq:yRead fl tk ino a m=(((((nth fl (below ltY fl ino)).2.2.drop a).take m,0)),tSet ltY tk ino ((tGet ltY 0 tk ino).1+((((nth fl (below ltY fl ino)).2.2.drop a).take m).length:Int))):=by
  unfold yRead
  rw [hi,if_pos rfl,if_neg (by omega)]
  simp
 have h5:=yRead_any ino a m ⟨by omega,by omega⟩ ⟨by omega,by omega⟩ ⟨by omega,by omega⟩ h2 (by omega) (fun p hp=>⟨(h4 p hp).1,by have:=(h4 p hp).2;omega⟩)
 rw [hq] at h5
 refine h5.mono ?_
 rintro e w' ⟨u,rfl,k1,G',k2,k3,k4,k5⟩
 have hlen:(((nth fl (below ltY fl ino)).2.2.drop a).take m).length≤65536:=by
  have h6:=h2.ris.2.2
  obtain ⟨q1,q2⟩:below ltY fl ino < fl.length∧(nth fl (below ltY fl ino)).1=ino:=by unfold isIn at hi;exact of_decide_eq_true hi
  have:=(h6 _ (nth_in _ q1)).2.2
  rw [List.length_take,List.length_drop];omega
 have htg:0≤(tGet ltY (0:Int) tk ino).1∧(tGet ltY (0:Int) tk ino).1≤n*65536:=by
  unfold tGet
  split
  ·rename_i hq2
   obtain ⟨q1,q2⟩:below ltY tk ino < tk.length∧(nth tk (below ltY tk ino)).1=ino:=by unfold isIn at hq2;exact of_decide_eq_true hq2
   exact h4 _ (nth_in _ q1)
  ·exact ⟨Int.le_refl _,by omega⟩
 refine ⟨u,rfl,k1,G',⟨gy,_,rfl,k2,?_,fun p hp=>?_⟩,k3,k4,k5⟩
 ·dsimp only
  have:=tSet_len (lt:=ltY) tk ino ((tGet ltY (0:Int) tk ino).1+((((nth fl (below ltY fl ino)).2.2.drop a).take m).length:Int))
  omega
 ·rcases tSet_mem (lt:=ltY) _ _ _ _ hp with q|q
  ·rw [q];dsimp only;omega
  ·have:=h4 p q;omega
end
end Go.Proofs.YthgnlfikneipiaaGreat
namespace Go.Proofs.YthgnlfikneipiaaGreat
open Go.RowKit
open Go.Eng (Asr UpdP Ck engA plainV)
def byA (b:Nat) (v:Value) (k:Nat):Asr b where
 P w F:=∃ l:List UInt8,Own bv b 5 w v l∧l.length≤9*k∧(1≤k→1≤l.length)∧∀ x,F x↔x∈blk v
 up:=by
  rintro w w' F S ⟨l,h1,h2,h3,h4⟩ hu hs hb
  obtain ⟨L,k1,k2⟩:=updL hu
  exact ⟨l,h1.upd k1 (fun x hx hl=>hs x ((h4 x).2 hx) (k2 x hl)),h2,h3,h4⟩
 lt:=by
  rintro w F ⟨l,h1,h2,h3,h4⟩ x hx
  exact h1.ge x ((h4 x).1 hx)
def encSt (b:Nat) (k:Nat) (gs:List Value):List (Asr b) :=
 if k < 100 then (match gs with
  | [v]=>[byA b v k]
  | _=>[Eng.fact False])
 else (match gs with
  | [v,s]=>[byA b v 100,Eng.fact (∃ str:ByteArray,s = .string str∧1≤str.size∧str.size≤900)]
  | _=>[Eng.fact False])
theorem no_false {b:Nat} {w:World} {fs:Nat→Nat→Prop} {l:List (Asr b)} (h:Eng.AllF (Eng.fact False::l) w fs):False:=(h.at_ 0 _ rfl).1
theorem updW {S:Nat→Prop} {w w':World} (h:Upd [] w w'):UpdP S w w':=⟨h.os,h.tape,h.output,h.size,fun k hk _=>h.block k hk (by simp)⟩
theorem own_cell {b:Nat} {e:TypeId} {w:World} {v:Value} {l:List UInt8} (h:Own bv b e w v l):v.oneCell'=true:=by
 rcases h.2 with ⟨rfl,_⟩|⟨g,cap,cur,rfl,_⟩<;>rfl
theorem enc_by {b k:Nat} {gs:List Value} {w:World} {fs:Nat→Nat→Prop} (hk:k < 100) (h:Eng.AllF (encSt b k gs) w fs):∃ v,gs=[v]∧(byA b v k).P w (fs 0):=by
 unfold encSt at h
 rw [if_pos hk] at h
 match gs,h with
 | [v],h=>exact ⟨v,rfl,h.at_ 0 _ rfl⟩
 | [],h=>exact (no_false h).elim
 | _::_::_,h=>exact (no_false h).elim
theorem encSt_1 {b k:Nat} {v:Value} (hk:k < 100):encSt b k [v]=[byA b v k]:=by unfold encSt;rw [if_pos hk]
theorem numT_ok {b:Nat} {ν:Nat→Int} (k:Nat) (hk:k < 90):(Eng.numT k).Ok Tryz.prog ν (encSt b):=by
 intro w gs us fs F ha hA hF hb
 obtain ⟨v,rfl,l,h1,h2,h3,h4⟩:=enc_by (by show k < 100;omega) hA
 match us,ha with
 | [u0,u1],⟨a1,⟨n,a0,a2,a3⟩,_⟩ =>
  have a1:some v=some u0:=a1
  cases a1
  subst a0
  have hl:l.length≤9*k:=h2
  refine (fNum_any v l n w h1.rd (by omega) ⟨a2,a3⟩).mono ?_
  rintro e w' ⟨x,rfl,ho,hu⟩
  have e1:=nb_le8 n.toNat (by omega)
  have e2:=encNum_len n.toNat
  refine ⟨x,[x],[x],fun y=>y∈blk x,rfl,⟨own_cell ho,trivial⟩,rfl,⟨rfl,trivial⟩,?_,updW hu,fun y hy => .inr (ho.ge y hy).1⟩
  show Eng.All (encSt b (k+1) [x]) w' _
  rw [encSt_1 (by omega)]
  exact Eng.All.one.2 ⟨_,ho.base_le hb,by rw [List.length_append];omega,fun _=>by rw [List.length_append];omega,fun _=>Iff.rfl⟩
 | [],h=>exact h.elim
 | [_],h=>exact h.2.elim
 | _::_::_::_,h=>exact h.2.2.elim
theorem txtT_ok {b:Nat} {ν:Nat→Int} (k:Nat) (hk:k < 90):(Eng.txtT k).Ok Tryz.prog ν (encSt b):=by
 intro w gs us fs F ha hA hF hb
 obtain ⟨v,rfl,l,h1,h2,h3,h4⟩:=enc_by (by show k < 100;omega) hA
 match us,ha with
 | [u0,u1],⟨a1,a2,_⟩ =>
  have a1:some v=some u0:=a1
  cases a1
  have a2:some (Value.string ⟨#[]⟩)=some u1:=a2
  cases a2
  have hl:l.length≤9*k:=h2
  refine (fText_any v l ⟨#[]⟩ w h1.rd (by omega) (by decide)).mono ?_
  rintro e w' ⟨x,rfl,ho,hu⟩
  have e1:=encText_len ⟨#[]⟩
  have e2:=nb_le8 (⟨#[]⟩:ByteArray).size (by decide)
  have e3:=encNum_len (⟨#[]⟩:ByteArray).size
  have e4:(⟨#[]⟩:ByteArray).size=0:=rfl
  refine ⟨x,[x],[x],fun y=>y∈blk x,rfl,⟨own_cell ho,trivial⟩,rfl,⟨rfl,trivial⟩,?_,updW hu,fun y hy => .inr (ho.ge y hy).1⟩
  show Eng.All (encSt b (k+2) [x]) w' _
  rw [encSt_1 (by omega)]
  exact Eng.All.one.2 ⟨_,ho.base_le hb,by rw [List.length_append];omega,fun _=>by rw [List.length_append];omega,fun _=>Iff.rfl⟩
 | [],h=>exact h.elim
 | [_],h=>exact h.2.elim
 | _::_::_::_,h=>exact h.2.2.elim
theorem encTs_ok {b:Nat} {ν:Nat→Int}:∀ T∈Eng.encTs,T.Ok Tryz.prog ν (encSt b):=by
 intro T hT
 rcases List.mem_append.1 hT with h|h
 ·obtain ⟨k,hk,rfl⟩:=List.mem_map.1 h
  exact numT_ok k (by have:=List.mem_range.1 hk;omega)
 ·obtain ⟨k,hk,rfl⟩:=List.mem_map.1 h
  exact txtT_ok k (by have:=List.mem_range.1 hk;omega)
theorem encCv_ok {b:Nat}:Eng.encCv.Ok Tryz.prog (encSt b):=by
 intro k v w F hk hk2 hA
 have hk2:k < 100:=hk2
 rw [encSt_1 hk2] at hA
 obtain ⟨l,h1,h2,h3,h4⟩:=Eng.All.one.1 hA
 refine ⟨⟨l.toArray⟩,convb_str Tryz.underlying33 Tryz.underlying5 Tryz.underlying9 w v l h1.rd,?_⟩
 have hz:(⟨l.toArray⟩:ByteArray).size=l.length:=by show l.toArray.size=_;simp
 have e:encSt b 100 [v,.string ⟨l.toArray⟩]=[byA b v 100]++[Eng.fact (∃ str:ByteArray,Value.string ⟨l.toArray⟩ = .string str∧1≤str.size∧str.size≤900)]:=by unfold encSt;rw [if_neg (by omega)];rfl
 show Eng.All (encSt b 100 _) w F
 rw [e]
 exact Eng.All.join (F1:=F) (F2:=fun _=>False) (Eng.All.one.2 ⟨l,h1,by omega,fun _=>h3 hk,h4⟩) (Eng.All.one.2 ⟨⟨_,rfl,by rw [hz];exact h3 hk,by rw [hz];omega⟩,fun _ q=>q⟩) (fun _ _ q=>q) (fun x=>⟨.inl,fun q=>q.elim id False.elim⟩)
theorem enc_str {b:Nat} {gs:List Value} {w:World} {F:Nat→Prop} (h:Eng.All (encSt b 100 gs) w F):∃ v str,gs=[v,.string str]∧1≤str.size∧str.size≤900:=by
 obtain ⟨fs,h,_⟩:=h
 unfold encSt at h
 rw [if_neg (by omega)] at h
 match gs,h with
 | [v,s],h =>
  obtain ⟨⟨str,rfl,h1,h2⟩,_⟩:=h.at_ 1 _ rfl
  exact ⟨v,str,rfl,h1,h2⟩
 | [],h=>exact (no_false h).elim
 | [_],h=>exact (no_false h).elim
 | _::_::_::_,h=>exact (no_false h).elim
def ptVal (ino gen hl:Int) (hs:Int) (sv:List Value):List Value := .bool true :: .int .i64 ino :: .int .i64 gen :: .int .i64 hl :: .int .u32 hs::sv
def nuE (line n:Nat) (hl hs ino gen:Int):Nat→Int
 | 0=>line
 | 1=>n
 | 2=>hl
 | 3=>hs
 | 4=>ino
 | 5=>gen
 | _=>0
theorem puts0E (line n:Nat) (hl hs ino gen:Int):Eng.Puts [Eng.lk 0 [],Eng.lk 0 [],Eng.lk 0 [],Eng.lk 0 [],Eng.lk 0 [],Eng.lk 0 []] (nuE line n hl hs ino gen) nu0:=by
 intro i
 match i with
 | 0=>rfl
 | 1=>rfl
 | 2=>rfl
 | 3=>rfl
 | 4=>rfl
 | 5=>rfl
 | _+6=>rfl
section
variable {b : Nat} {w : World} {F F2 : Nat → Prop} {vr ls : Value} {line n : Nat} {hl hs ino gen : Int}
theorem rules_toE (h:(rulesA b vr).P w F):(engA b (nuE line n hl hs ino gen) Eng.hR 8 [.ptr 1 0] [vr]).P w F:=Eng.engA_sub' (puts0E line n hl hs ino gen) (by rfl) rfl h
theorem rules_ofE (h:(engA b (nuE line n hl hs ino gen) Eng.hR 8 [.ptr 1 0] [vr]).P w F):(rulesA b vr).P w F:=Eng.engA_sub (H:=Eng.hR) (rt:=[.ptr 1 0]) (puts0E line n hl hs ino gen) (by rfl) rfl h
theorem sv_toE (h:(svT b ls n).P w F):(engA b (nuE line n hl hs ino gen) (Eng.vH (two n)) 3 [.slc 1 0 1] [ls]).P w F:=by
 have h:(engA b nu0 (Eng.vH (two n)) 3 [.slc 1 0 1] [ls]).P w F:=h
 have e:∀ t,Eng.sbH [Eng.lk 0 [],Eng.lk 0 [],Eng.lk 0 [],Eng.lk 0 [],Eng.lk 0 [],Eng.lk 0 []] (Eng.vH t)=Eng.vH t:=fun t=>by cases t<;>rfl
 have h1:=Eng.engA_sub' (puts0E line n hl hs ino gen) (by cases (two n)<;>rfl) rfl h
 rw [e] at h1;exact h1
theorem sv_ofE (h:(engA b (nuE line n hl hs ino gen) (Eng.vH (two n)) 3 [.slc 1 0 1] [ls]).P w F):(svT b ls n).P w F:=by
 have e:∀ t,Eng.sbH [Eng.lk 0 [],Eng.lk 0 [],Eng.lk 0 [],Eng.lk 0 [],Eng.lk 0 [],Eng.lk 0 []] (Eng.vH t)=Eng.vH t:=fun t=>by cases t<;>rfl
 exact Eng.engA_sub (H:=Eng.vH (two n)) (rt:=[.slc 1 0 1]) (puts0E line n hl hs ino gen) (by cases (two n)<;>rfl) rfl (by rw [e];exact h)
end
end Go.Proofs.YthgnlfikneipiaaGreat
namespace Go.Proofs.YthgnlfikneipiaaGreat
open Go.RowKit
open Go.Eng (Asr UpdP Ck engA plainV)
section
variable {b : Nat} {w : World} {F F2 : Nat → Prop} {vr ls : Value} {line n : Nat} {hl hs ino gen : Int}
theorem bd_nuE {lo hi:Int} (h1:line≤1073741824) (h2:lo≤n) (h3:(n:Int)≤hi) (h4:0≤hl∧hl≤16) (h5:0≤hs∧hs≤4294967295) (h6:1≤ino∧ino≤12) (h7:1≤gen∧gen≤1099511627776):@Eng.BD (plainV b (nuE line n hl hs ino gen)) (Eng.bdE lo hi):=by
 intro i p h
 match i with
 | 0=>cases h;exact ⟨by show (0:Int)≤(line:Int);omega,by show (line:Int)≤1073741824;omega⟩
 | 1=>cases h;exact ⟨h2,h3⟩
 | 2=>cases h;exact h4
 | 3=>cases h;exact h5
 | 4=>cases h;exact h6
 | 5=>cases h;exact h7
 | _+6=>cases h
theorem pt_cells (c:Ck) (hk:ckOk n c) {G:Eng.GM} {a:Eng.AV} (h:@Eng.dn (plainV b (nuE line n hl hs ino gen)) G a=some ls):@Eng.dv (plainV b (nuE line n hl hs ino gen)) G (Eng.ptA Eng.L4 Eng.L5 c.at_ Eng.L0 c.pl c.lng a)=some (.agg (ptVal ino gen hl hs (svVal line n ls)).toArray):=by
 have e1:@Eng.dn (plainV b (nuE line n hl hs ino gen)) G c.at_=some (.int .i64 ((line+n:Nat):Int)):=by
  cases c<;>first
   | (show some (Value.int .i64 (0+(1*(line:Int)+(1*(n:Int)+0))))=_;congr 2;omega)
   | (have hk:n=0:=hk;show some (Value.int .i64 (0+(1*(line:Int)+0)))=_;congr 2;omega)
 have e2:@Eng.dn (plainV b (nuE line n hl hs ino gen)) G Eng.L0=some (.int .i64 (line:Int)):=by
  show some (Value.int .i64 (0+(1*(line:Int)+0)))=_;congr 2;omega
 have e3:@Eng.dn (plainV b (nuE line n hl hs ino gen)) G c.pl=some (.int .i64 (plN n:Int)):=by
  unfold plN
  cases c<;>first
   | (have hk:n=0:=hk;subst hk;rfl)
   | (have hk:200 < n:=hk;rw [if_neg (by omega)];rfl)
   | (have hk:1≤n∧n≤200:=hk;rw [if_pos hk.2];show some (Value.int .i64 (0+(1*(n:Int)+0)))=_;congr 2;omega)
   | (have hk:n=1:=hk;rw [if_pos (by omega)];show some (Value.int .i64 (0+(1*(n:Int)+0)))=_;congr 2;omega)
 have e4:c.lng=decide (200 < n):=by
  cases c<;>first
   | (have hk:n=0:=hk;subst hk;rfl)
   | (have hk:n=1:=hk;subst hk;rfl)
   | (have hk:200 < n:=hk;exact (decide_eq_true hk).symm)
   | (have hk:1≤n∧n≤200:=hk;exact (decide_eq_false (by omega)).symm)
 have e5:@Eng.dn (plainV b (nuE line n hl hs ino gen)) G Eng.L2=some (.int .i64 hl):=by
  show some (Value.int .i64 (0+(1*hl+0)))=_;congr 2;omega
 have e6:@Eng.dn (plainV b (nuE line n hl hs ino gen)) G Eng.L3=some (.int .u32 hs):=by
  show some (Value.int .u32 (0+(1*hs+0)))=_;congr 2;omega
 have e7:@Eng.dn (plainV b (nuE line n hl hs ino gen)) G Eng.L4=some (.int .i64 ino):=by
  show some (Value.int .i64 (0+(1*ino+0)))=_;congr 2;omega
 have e8:@Eng.dn (plainV b (nuE line n hl hs ino gen)) G Eng.L5=some (.int .i64 gen):=by
  show some (Value.int .i64 (0+(1*gen+0)))=_;congr 2;omega
 show Option.map _ (@Eng.dns (plainV b (nuE line n hl hs ino gen)) G _)=_
 simp only [Eng.dns,e1,e2,e3,h,e4,e5,e6,e7,e8]
 rfl
def EncOut (b:Nat) (vr ls:Value) (n:Nat) (w:World) (F:Nat→Prop) (e:Ending) (w':World):Prop :=
 ∃ str F1 F3,e = .returned (.string str)∧1≤str.size∧str.size≤900∧(rulesA b vr).P w' F1∧(svT b ls n).P w' F3∧(∀ x,F1 x→¬ F3 x)∧UpdP F w w'∧(∀ x,F1 x→F x∨w.heap.size≤x)∧∀ x,F3 x→F x∨w.heap.size≤x
theorem enc_of {bd:Eng.Bd} {c:Ck} {k:Nat} {lg t:Bool} (ht:Eng.goOks (Eng.call (Eng.EBc bd (Eng.hks bd Eng.encTs) (Eng.cvOf Eng.encCv)) 300 75 [.ptr 1 0,Eng.ptA Eng.L4 Eng.L5 c.at_ Eng.L0 c.pl lg (.slc 9 0 1)] ⟨[],(0,.gho 0 [.nils])::(Eng.hR++Eng.shH 8 (Eng.vH t)),11,[],[]⟩) (.opq (k+1)) 100 [.opq k,.opq (k+1)] [⟨List.range 8,Eng.hR,8,[.ptr 1 0],[.ptr 1 0]⟩,⟨[0,9,10],Eng.vH t,3,[.slc 1 0 1],[.slc 9 0 1]⟩]=true)
  (h:(rulesA b vr).P w F) (hs':(svT b ls n).P w F2) (hd:∀ x,F x→¬ F2 x) (hb:b≤w.heap.size) (hbd:@Eng.BD (plainV b (nuE line n hl hs ino gen)) bd) (hok:ckOk n c) (h1:lg=c.lng) (h2:t=c.two) :
  Calls Tryz.prog 75 #[vr,.agg (ptVal ino gen hl hs (svVal line n ls)).toArray] w (EncOut b vr ls n w fun x=>F x∨F2 x):=by
 subst h1;subst h2
 have hA:=rules_toE (line:=line) (n:=n) (hl:=hl) (hs:=hs) (ino:=ino) (gen:=gen) h
 have hV:=sv_toE (line:=line) (hl:=hl) (hs:=hs) (ino:=ino) (gen:=gen) hs'
 rw [← ck_two hok] at hV
 have hj:=Eng.engA_join hA hV hd rfl (by cases c.two<;>rfl) (by cases c.two<;>rfl) hb
 have hall:Eng.All (encSt b 0 [.slice none 0 0]++[engA b (nuE line n hl hs ino gen) (Eng.hR++Eng.shH 8 (Eng.vH c.two)) (8+3) [.ptr 1 0,.slc 9 0 1] [vr,ls]]) w (fun x=>F x∨F2 x):=by
  rw [encSt_1 (by omega)]
  exact Eng.All.join (F1:=fun _=>False) (F2:=fun x=>F x∨F2 x) (Eng.All.one.2 ⟨[],World.ownsRow_nil _ _ _ _,by simp,by omega,fun x=>by simp [blk]⟩) (Eng.All.one.2 hj) (fun _ q=>q.elim) (fun x=>⟨.inr,fun q=>q.elim False.elim id⟩)
 have hE:@Eng.EOK (Eng.mkVal b (nuE line n hl hs ino gen) (encSt b)) Tryz.prog (Eng.EBc bd (Eng.hks bd Eng.encTs) (Eng.cvOf Eng.encCv)):=@Eng.EBc_ok (Eng.mkVal b (nuE line n hl hs ino gen) (encSt b)) bd hbd _ _ (Eng.hks_ok hbd encTs_ok) (Eng.cvOf_ok encCv_ok)
 refine (Eng.run_engs (us:=[vr,.agg (ptVal ino gen hl hs (svVal line n ls)).toArray]) hE ht (by omega) (by cases c.two<;>rfl) hb hall (fun G hG=>⟨?_,?_⟩)).mono ?_
 ·exact dn_one (b:=b) (ν:=nuE line n hl hs ino gen) rfl
 ·exact ⟨@Eng.dv_of_dn (plainV b (nuE line n hl hs ino gen)) _ _ _ (two_dn hG).1,pt_cells c hok (two_dn hG).2,trivial⟩
 ·rintro e w' ⟨u,gs',G,rfl,k1,k2,⟨F0,k3⟩,k4,k5,G0,k6,k7⟩
  obtain ⟨v,str,rfl,s1,s2⟩:=enc_str k3
  have hu:u = .string str:=by
   have e1:=(two_dn k2).2
   have k1:@Eng.dn (plainV b (nuE line n hl hs ino gen)) G (.opq (k+1))=some u:=k1
   rw [k1] at e1
   exact Option.some.inj e1
  subst hu
  have r1:=@Eng.dn_mono (plainV b (nuE line n hl hs ino gen)) _ _ k6 _ _ (two_dn k7).1
  have r2:=@Eng.dn_mono (plainV b (nuE line n hl hs ino gen)) _ _ k6 _ _ (two_dn k7).2
  obtain ⟨F',a1,a2⟩:=k4 [[vr],[ls]] ⟨dn_one r1,dn_one r2,trivial⟩
  obtain ⟨X1,X2,b1,b2,b3,b4⟩:=a1.split
  obtain ⟨Y1,Y2,c1,c2,c3,c4⟩:=Eng.All.split (l:=[_]) (m:=[_]) b2
  have c2:=Eng.All.one.1 c2
  rw [ck_two hok] at c2
  exact ⟨str,Y1,Y2,rfl,s1,s2,rules_ofE (Eng.All.one.1 c1),sv_ofE c2,c3,k5,fun x hx=>a2 x ((b4 x).2 (.inr ((c4 x).2 (.inl hx)))),fun x hx=>a2 x ((b4 x).2 (.inr ((c4 x).2 (.inr hx))))⟩
theorem enc_any (h:(rulesA b vr).P w F) (hs':(svT b ls n).P w F2) (hd:∀ x,F x→¬ F2 x) (hb:b≤w.heap.size) (hl0:line+n≤1000000) (h4:0≤hl∧hl≤16) (h5:0≤hs∧hs≤4294967295) (h6:1≤ino∧ino≤12) (h7:1≤gen∧gen≤1099511627776) :
  Calls Tryz.prog 75 #[vr,.agg (ptVal ino gen hl hs (svVal line n ls)).toArray] w (EncOut b vr ls n w fun x=>F x∨F2 x):=by
 rcases Nat.lt_or_ge 200 n with q|q
 ·exact enc_of Eng.enc_L2 h hs' hd hb (bd_nuE (by omega) (by omega) (by omega) h4 h5 h6 h7) (show ckOk n .L2 from q) rfl rfl
 ·by_cases q0:n=0
  ·exact enc_of Eng.enc_A2 h hs' hd hb (bd_nuE (by omega) (by omega) (by omega) h4 h5 h6 h7) (show ckOk n .A2 from q0) rfl rfl
  ·exact enc_of Eng.enc_B0 h hs' hd hb (bd_nuE (by omega) (by omega) (by omega) h4 h5 h6 h7) (show ckOk n .B0 from ⟨by omega,by omega⟩) rfl rfl
theorem str_of (h:(rulesA b vr).P w F) (hs':(svT b ls n).P w F2) (hd:∀ x,F x→¬ F2 x) (hb:b≤w.heap.size) (hl0:line+n≤1000000) :
  Calls Tryz.prog 46 #[vr,.agg (svVal line n ls).toArray] w fun e w'=>∃ vx F1 F3 F4,e = .returned (.tuple #[vx,.int .i64 0])∧(∃ g,vx = .pointer (some ⟨g,0,none⟩))∧(rulesA b vr).P w' F1∧(svT b ls n).P w' F3∧(strmA b vr vx line n).P w' F4∧(∀ x,F1 x→¬ F3 x)∧(∀ x,F1 x→¬ F4 x)∧(∀ x,F3 x→¬ F4 x)∧UpdP (fun x=>F x∨F2 x) w w'∧(∀ x,F1 x→(F x∨F2 x)∨w.heap.size≤x)∧(∀ x,F3 x→(F x∨F2 x)∨w.heap.size≤x)∧∀ x,F4 x→(F x∨F2 x)∨w.heap.size≤x:=by
 rcases Nat.lt_or_ge 200 n with q|q
 ·exact lgOf_any Eng.tr_of_L2 h hs' hd hb (bd_nu (by omega) (by omega) (by omega)) (show ckOk n .L2 from q) rfl rfl
 ·by_cases q0:n=0
  ·exact lgOf_any Eng.tr_of_A2 h hs' hd hb (bd_nu (by omega) (by omega) (by omega)) (show ckOk n .A2 from q0) rfl rfl
  ·exact lgOf_any Eng.tr_of_B0 h hs' hd hb (bd_nu (by omega) (by omega) (by omega)) (show ckOk n .B0 from ⟨by omega,by omega⟩) rfl rfl
end
end Go.Proofs.YthgnlfikneipiaaGreat
namespace Go.Proofs.YthgnlfikneipiaaGreat
open Go.RowKit
open Go.Eng (Asr UpdP)
theorem updT {O O1:Nat→Prop} {a b c:World} (h:UpdP O a b) (k:UpdP O1 b c) (ho:∀ x,O1 x→O x∨a.heap.size≤x):UpdP O a c:=@Eng.UpdP.trans (Eng.plainV 0 nu0) O O1 a b c h k ho
theorem updR (O:Nat→Prop) (w:World):UpdP O w w:=@Eng.UpdP.refl (Eng.plainV 0 nu0) O w
def feedS (s:(Nat×Nat)×List Fd) (c:UInt8):(Nat×Nat)×List Fd:=((stepL s.1.1 s.1.2 c).1,s.2++(stepL s.1.1 s.1.2 c).2)
def feedL (line n:Nat) (l:List UInt8):(Nat×Nat)×List Fd:=l.foldl feedS ((line,n),[])
theorem feed_snoc (line n:Nat) (l:List UInt8) (k:Nat) (hk:k < l.length):feedL line n (l.take (k+1))=feedS (feedL line n (l.take k)) (nth l k):=by
 unfold feedL
 rw [List.take_succ_eq_append_getElem hk,List.foldl_append]
 have:nth l k=l[k]:=by simp [nth,hk]
 rw [this]
 rfl
theorem step_sum (line n:Nat) (c:UInt8):(stepL line n c).1.1+(stepL line n c).1.2=line+n+1∧(stepL line n c).2.length≤1:=by
 unfold stepL
 split<;>(refine ⟨by (try dsimp only)<;>(try omega),?_⟩;dsimp only;split<;>simp)
theorem feed_sum (line n:Nat):∀ (l:List UInt8) (s:(Nat×Nat)×List Fd),s.1.1+s.1.2+l.length=(l.foldl feedS s).1.1+(l.foldl feedS s).1.2∧(l.foldl feedS s).2.length≤s.2.length+l.length
 | [],s=>by simp
 | c::l,s=>by
  obtain ⟨h1,h2⟩:=step_sum s.1.1 s.1.2 c
  obtain ⟨h3,h4⟩:=feed_sum line n l (feedS s c)
  have e:(feedS s c).1=(stepL s.1.1 s.1.2 c).1:=rfl
  have e2:(feedS s c).2.length=s.2.length+(stepL s.1.1 s.1.2 c).2.length:=by simp [feedS]
  rw [e] at h3
  rw [List.foldl_cons,List.length_cons]
  omega
theorem infoFd:(Tryz.prog.info? 321).map (fun i=>(i.zero,i.size,i.bytes))=some (some (.agg #[.int .i64 0,.int .i64 0,.int .i64 0,.int .i64 0,.int .i64 0,.int .i64 0,.int .i64 0,.int .i64 0,.int .i64 0,.int .i64 0,.int .i64 0,.int .i64 0,.int .i64 0]),13,104):=by kernel_rfl
def FI (b:Nat) (vr vx:Value) (w:World) (F:Nat→Prop) (W:World) (s:(Nat×Nat)×List Fd) (out:Value):Prop :=
 ∃ F',(strmA b vr vx s.1.1 s.1.2).P W F'∧UpdP F w W∧(∀ x,F' x→F x∨w.heap.size≤x)∧(∀ x∈blk out,¬ F' x)∧OwnN 13 fdCells w.heap.size 321 W out s.2
theorem updP_of {S:Nat→Prop} {L:List Nat} {w w1 w2:World} (h:UpdP S w w1) (k:Upd L w1 w2) (hL:∀ x∈L,S x∨w.heap.size≤x):UpdP S w w2:=updT h (updP k) hL
theorem fi_byte {b:Nat} {vr vx:Value} {w:World} {F:Nat→Prop} {W W2:World} {s:(Nat×Nat)×List Fd} {out u:Value} {F2:Nat→Prop} {st:Nat×Nat} {fs:List Fd} (hb:b≤w.heap.size) (h:FI b vr vx w F W s out)
  (hbyte:∀ F',(strmA b vr vx s.1.1 s.1.2).P W F'→(∀ x∈blk out,¬ F' x)→∃ F2,(strmA b vr vx st.1 st.2).P W2 F2∧UpdP F' W W2∧∀ x,F2 x→F' x∨W.heap.size≤x):FI b vr vx w F W2 (st,s.2) out:=by
 obtain ⟨F',h1,h2,h3,h4,h5⟩:=h
 obtain ⟨F2,k1,k2,k3⟩:=hbyte F' h1 h4
 obtain ⟨L,l1,l2⟩:=updL k2
 refine ⟨F2,k1,updT h2 k2 h3,fun x hx=>?_,fun x hx hq=>?_,h5.upd l1 (fun x hx hl=>h4 x hx (l2 x hl))⟩
 ·rcases k3 x hx with q|q
  ·exact h3 x q
  ·exact .inr (Nat.le_trans h2.size q)
 ·rcases k3 x hq with q|q
  ·exact h4 x hx q
  ·have:=(h5.ge x hx).2;omega
theorem fi_app {b:Nat} {vr vx:Value} {w:World} {F:Nat→Prop} {W W2:World} {st:Nat×Nat} {fs gs:List Fd} {out out':Value} (hb:b≤w.heap.size) (h:FI b vr vx w F W (st,fs) out)
  (ho:OwnN 13 fdCells w.heap.size 321 W2 out' gs) (hu:Upd (blk out) W W2) (hn:∀ x∈blk out',x∈blk out∨W.heap.size≤x):FI b vr vx w F W2 (st,gs) out':=by
 obtain ⟨F',h1,h2,h3,h4,h5⟩:=h
 refine ⟨F',(strmA b vr vx st.1 st.2).up h1 (updP hu) (fun x hx hl=>h4 x hl hx) (fun x hx=>Nat.le_trans hb (h5.ge x hx).1),updP_of h2 hu (fun x hx => .inr (h5.ge x hx).1),h3,fun x hx hq=>?_,ho⟩
 rcases hn x hx with q|q
 ·exact h4 x q hq
 ·have:=((strmA b vr vx st.1 st.2).lt h1 x hq).2;omega
set_option maxRecDepth 20000 in
set_option maxHeartbeats 1000000 in
theorem str_feed {b:Nat} {w:World} {F:Nat→Prop} {vr vx v:Value} {line n:Nat} {l:List UInt8} (h:(strmA b vr vx line n).P w F) (hb:b≤w.heap.size) (hv:Bytes w v l) (hap:∀ x∈blk v,¬ F x) (hbv:∀ x∈blk v,x < w.heap.size) (hl:line+n+l.length≤900000) (hc:∀ c∈l,c=121∨c=10) :
  Calls Tryz.prog 112 #[vx,v] w fun e w'=>∃ out F',e = .returned out∧OwnN 13 fdCells w.heap.size 321 w' out (feedL line n l).2∧(strmA b vr vx (feedL line n l).1.1 (feedL line n l).1.2).P w' F'∧UpdP F w w'∧(∀ x,F' x→F x∨w.heap.size≤x)∧∀ x∈blk out,¬ F' x:=by
 have HI:Hid (FI b vr vx w F w (feedL line n (l.take 0)) (.slice none 0 0)):=⟨F,by rw [List.take_zero];exact h,updR F w,fun x hx => .inl hx,fun x hx=>by simp [blk] at hx,OwnN.nil _ _ _⟩
 have H:=Lib.hid hv
 have HAP:=Lib.hid hap
 have HBV:=Lib.hid hbv
 obtain ⟨a,cap,rfl,hle,hcm,hcell⟩:=hv
 have HC:=Lib.hid hcell
 have HCC:=Lib.hid hc
 clear h hap hcell hc hbv
 go_enter Tryz.func112,Tryz.ntmps112
 go_wp2_with fail
 go_loopw [5,10] (fun out i wr=>∃ k:Nat,k≤l.length∧i = .int .i64 k∧Hid (FI b vr vx w F wr (feedL line n (l.take k)) out)) (fun _ i _=>l.length-(intOf i).toNat)
 case atStart=>exact ⟨0,Nat.zero_le _,rfl,HI⟩
 case round =>
  obtain ⟨k,hk,rfl,hi⟩:=hrel
  by_cases hlt:k < l.length
  ·obtain ⟨g,off,rfl,hc'⟩:=HC.out (by intro h;simp [h] at hlt)
   have hsum:=feed_sum line n (l.take k) ((line,n),[])
   have HSN:=Lib.hid (feed_snoc line n l k hlt)
   have hs:(feedL line n (l.take k)).1.1+(feedL line n (l.take k)).1.2=line+n+k∧(feedL line n (l.take k)).2.length≤k:=by
    unfold feedL
    have:(l.take k).length=k:=by rw [List.length_take];omega
    rw [this] at hsum
    simp only [List.length_nil] at hsum
    omega
   have HS:=Lib.hid hs
   clear hsum hs
   generalize feedL line n (l.take k)=s at *
   have hx:=HCC.out (nth l k) (by unfold nth;simp [hlt])
   obtain ⟨F',h1,h2,h3,h4,h5⟩:=hi.out
   obtain ⟨L,l1,l2⟩:=updL h2
   have c0:=l1.cell (hc' k hlt) (fun hl=>HAP.out g (by simp [blk]) (l2 g hl))
   have HB:=Lib.hid (str_byte h1 (Nat.le_trans hb h2.size) (by have:=HS.out;omega) (nth l k) hx)
   have HX:=Lib.hid (And.intro h1 (And.intro h2 (And.intro h3 (And.intro h4 h5))))
   clear hc' h1 h2 h3 h4 h5 l1 l2 hx hi
   go_wp2_with fail
   (with_reducible refine HB.out.mono ?_)
   rintro e w2 ⟨u,F2,rfl,k1,k2,k3,k4,k5⟩
   obtain ⟨h1,h2,h3,h4,h5⟩:=HX.out
   obtain ⟨L,l1,l2⟩:=updL k3
   have hF2:∀ x,F2 x→F x∨w.heap.size≤x:=fun x hx=>by
    rcases k4 x hx with q|q
    ·exact h3 x q
    ·exact .inr (Nat.le_trans h2.size q)
   have hout2:∀ x∈blk u5,¬ F2 x:=fun x hx hq=>by
    rcases k4 x hq with q|q
    ·exact h4 x hx q
    ·have:=(h5.ge x hx).2;omega
   have ho2:=h5.upd l1 (fun x hx hl=>h4 x hx (l2 x hl))
   have HI2:Hid (FI b vr vx w F w2 ((stepL s.1.1 s.1.2 (nth l k)).1,s.2) u5):=⟨F2,k1,updT h2 k3 h3,hF2,hout2,ho2⟩
   have hfs:=(step_sum s.1.1 s.1.2 (nth l k)).2
   have HRUN:=Lib.hid (fun ty=>run_appN (P:=Tryz.prog) (w:=w2) (ty:=ty) fdCells_len (by decide) fdCells_one Tryz.underlying254 infoFd rfl u5 u s.2 (stepL s.1.1 s.1.2 (nth l k)).2 ho2 (k2.rd fdCells_len) (by have:=HS.out;omega) (by have:=HS.out;unfold maxLen;omega) (by have:=h2.size;have:=k3.size;omega))
   clear HX h1 h2 h3 h4 h5 l1 l2 hF2 hout2 ho2 hfs k1 k2 k3 k4 k5 HB c0
   go_wp2_with (at_builtin;go_must (refine wpList_app_of rfl _ _ rfl u5 u rfl rfl (HRUN.out _) ?_;rintro v3 w3 ⟨ho3,hu3,hk3⟩;have HI3:=Lib.hid (fi_app hb HI2.out ho3 hu3 hk3);clear ho3 hu3 hk3 HRUN;dsimp only))
   go_roundw
   case rel=>exact ⟨k+1,by omega,by go_num,by rw [HSN.out];exact HI3⟩
   case measure=>simp [intOf];omega
  ·obtain rfl:k=l.length:=by omega
   rw [List.take_length] at hi
   obtain ⟨F',h1,h2,h3,h4,h5⟩:=hi.out
   clear hi
   go_wp2_with fail
   go_ret
   exact ⟨_,F',rfl,h5,h1,h2,h3,h4⟩
end Go.Proofs.YthgnlfikneipiaaGreat
namespace Go.Proofs.YthgnlfikneipiaaGreat
open Go.RowKit
open Go.Eng (Asr UpdP)
abbrev nmA:ByteArray:=⟨#[97]⟩
structure RNm (W:World) (gr g2 c:Nat):Prop where
 c0:W.cell? ⟨gr,0,none⟩=some (.slice (some ⟨g2,0,none⟩) 1 c)
 c1:W.cell? ⟨g2,0,none⟩=some (.string nmA)
theorem rules_nm {b:Nat} {vr:Value} {w:World} {F:Nat→Prop} (h:(rulesA b vr).P w F):∃ gr g2 c,vr = .pointer (some ⟨gr,0,none⟩)∧F gr∧F g2∧RNm w gr g2 c:=by
 letI:Eng.Val:=Eng.plainV b nu0
 obtain ⟨G,h1,h2,h3,h4⟩:=h
 obtain ⟨x,k1,k2,k3,us,k4,k5⟩:=h1.bs 1 _ rfl trivial
 obtain ⟨y,q1,q2,q3,_,_,us2,ys,q4,q5,_⟩:=h1.bs 2 _ rfl trivial
 obtain ⟨z,z1,hz⟩:=Option.map_eq_some_iff.1 (show (G 1).map _=some vr from one_dn h3)
 rw [k1] at z1;cases z1
 obtain ⟨u0,r0,e1,e2,rfl⟩:=Eng.dns_cons.1 k4
 obtain ⟨z,z1,hz2⟩:=Option.map_eq_some_iff.1 (show (G 2).map _=some u0 from e1)
 rw [q1] at z1;cases z1
 obtain ⟨u1,r1,e3,e4,rfl⟩:=Eng.dns_cons.1 q4
 cases e3
 have hoff:y.off=0:=by
  obtain ⟨g1,_⟩:=‹y.sz=2∧y.off=0›
  exact (‹y.sz=2∧y.off=0›).2
 refine ⟨x.g,y.g,y.cap,hz.symm,k2,q2,⟨?_,?_⟩⟩
 ·rw [cell_of_row w x.g 0 _ _ _ k5,← hz2,hoff]
  simp
 ·rw [cell_of_row w y.g 0 _ _ _ q5]
  simp
theorem RNm.upd {W W':World} {gr g2 c:Nat} (h:RNm W gr g2 c) {L:List Nat} (hu:Upd L W W') (h1:gr∉L) (h2:g2∉L):RNm W' gr g2 c:=⟨hu.cell h.c0 h1,hu.cell h.c1 h2⟩
set_option maxRecDepth 20000 in
set_option maxHeartbeats 1000000 in
theorem rName_any {W:World} {gr g2 c:Nat} (h:RNm W gr g2 c):Calls Tryz.prog 165 #[.pointer (some ⟨gr,0,none⟩),.int .i64 0] W fun e w'=>e = .returned (.string nmA)∧Upd [] W w':=by
 obtain ⟨c0,c1⟩:=h
 go_enter Tryz.func165,Tryz.ntmps165
 go_wp2_with fail
 go_ret
 exact ⟨rfl,Upd.refl _ _⟩
end Go.Proofs.YthgnlfikneipiaaGreat
namespace Go.Proofs.YthgnlfikneipiaaGreat
open Go.RowKit
theorem fd_mk (f:Fd):∃ kind at_ rule c0 c1 c2 c3 c4 c5 c6 c7 c8 c9,f=⟨kind,at_,rule,⟨[c0,c1,c2,c3,c4,c5,c6,c7,c8,c9],rfl⟩⟩:=by
 obtain ⟨kind,at_,rule,⟨l,hl⟩⟩:=f
 obtain ⟨c0,c1,c2,c3,c4,c5,c6,c7,c8,c9,rfl⟩:=ten hl
 exact ⟨kind,at_,rule,c0,c1,c2,c3,c4,c5,c6,c7,c8,c9,rfl⟩
def recF (ino gen:Int) (f:Fd):Rec:=⟨⟨ino,gen,f.at_,if f.kind=1 then nmA else ⟨#[]⟩⟩,f.kind,f.caps⟩
def AddOk (ino gen:Int) (rl:List Rec) (fs:List Fd):Prop:=∀ k,k < fs.length→(nth fs k).rule=0∧((nth fs k).kind=1∨(nth fs k).kind=2)∧recOk (recF ino gen (nth fs k))=true∧hasK (rl++(fs.take k).map (recF ino gen)) (recF ino gen (nth fs k)).key=false
theorem take_map_succ (ino gen:Int) (fs:List Fd) (k:Nat) (hk:k < fs.length):(fs.take (k+1)).map (recF ino gen)=(fs.take k).map (recF ino gen)++[recF ino gen (nth fs k)]:=by
 rw [List.take_succ_eq_append_getElem hk,List.map_append]
 have:nth fs k=fs[k]:=by simp [nth,hk]
 rw [this];rfl
theorem st_upd {w0 w w':World} {vd vl vj:Value} {rl:List Rec} {n k:Nat} {G L:List Nat} (h:StQ w0 vd vl vj rl n k w G) (hu:Upd L w w') (hs:∀ x∈G,x∉L) (hb:∀ x∈L,w0.heap.size≤x):StQ w0 vd vl vj rl n k w' G:=by
 obtain ⟨gd,gl,gj,F,D,K,s,js,h1,h2,h3,h4,h5,h6,h7,rfl⟩:=h
 exact ⟨gd,gl,gj,F,D,K,s,js,h1,h2,h3,h4.upd hu (fun x hx=>hs x (by simp [hx])) (fun x hx=>hs x (by simp [hx])) hb,h5.upd hu (fun x hx=>hs x (by simp [hx])) (fun x hx=>hs x (by simp [hx])) hb,h6,h7,rfl⟩
theorem st_ge {w0 w:World} {vd vl vj:Value} {rl:List Rec} {n k:Nat} {G:List Nat} (h:StQ w0 vd vl vj rl n k w G):∀ x∈G,w0.heap.size≤x∧x < w.heap.size:=by
 obtain ⟨gd,gl,gj,F,D,K,s,js,h1,h2,h3,h4,h5,h6,h7,rfl⟩:=h
 intro x hx
 rcases List.mem_append.1 hx with hx|hx
 ·rcases List.mem_append.1 hx with hx|hx
  ·exact h4.geF x hx
  ·exact h4.dd.ge x hx
 ·exact h5.geF x hx
set_option maxRecDepth 20000 in
set_option maxHeartbeats 2000000 in
theorem fAdd_any {w0 w:World} {vd vl vj vy vp va v:Value} {rl:List Rec} {n m:Nat} {G:List Nat} {gf gr g2 cr:Nat} {live:Value} {ino gen:Int} {ps:List Value} {fs:List Fd}
  (hs:StQ w0 vd vl vj rl n m w G) (hf:Blk w gf 98 [vy,.pointer (some ⟨gr,0,none⟩),vl,vj,vp,va]) (hr:RNm w gr g2 cr) (hv:RdN 13 fdCells w v fs)
  (h1:gf∉G) (h2:gr∉G) (h3:g2∉G) (h4:∀ x∈blk v,x∉G) (hlv:∃ g,vl = .pointer (some ⟨g,0,none⟩)) (hb:w0.heap.size≤w.heap.size) (hok:AddOk ino gen rl fs) (hm:m+fs.length≤4000) (hn:n+208*fs.length≤262000) (hl:rl.length+fs.length≤90000000) :
  Calls Tryz.prog 111 #[.pointer (some ⟨gf,0,none⟩),.agg (live :: .int .i64 ino :: .int .i64 gen::ps).toArray,v] w fun e w'=>e = .returned (.int .i64 0)∧Chg (StQ w0 vd vl vj (rl++fs.map (recF ino gen)) (n+208*fs.length) (m+fs.length)) w G w':=by
 have hu0:=(Upd.refl [] w).alloc (.cells (live :: .int .i64 ino :: .int .i64 gen::ps).toArray 90)
 have hbx:=Blk.new w 90 (live :: .int .i64 ino :: .int .i64 gen::ps)
 have HU0:=Lib.hid hu0
 have HBX:=Lib.hid hbx
 have hs0:=hs
 have HS:=Lib.hid hs0
 have hge:=st_ge hs
 have hbG:w.heap.size∉G:=fun q=>by have:=(hge _ q).2;omega
 have HF:=Lib.hid (hf.upd hu0 (by simp))
 have HR:=Lib.hid (hr.upd hu0 (by simp) (by simp))
 have HV:=Lib.hid (hv.upd0 fdCells_len hu0)
 have HST:=Lib.hid (st_upd hs hu0 (by simp) (by simp))
 have HGE:=Lib.hid hge
 have HOK:=Lib.hid hok
 have HM:=Lib.hid hm
 have HN:=Lib.hid hn
 have HL:=Lib.hid hl
 have H1:=Lib.hid h1
 have H2:=Lib.hid h2
 have H3:=Lib.hid h3
 have H4:=Lib.hid h4
 have HBG:=Lib.hid hbG
 have HB:=Lib.hid hb
 obtain ⟨gl,rfl⟩:=hlv
 obtain ⟨a,cap,rfl,hle,hcm,hcell⟩:=hv
 have HCM:Hid (fs.length≤9223372036854775807):=by unfold Hid;unfold maxLen at hcm;omega
 clear hu0 hbx hs0 hs hge hbG hf hr hcell hcm hle h1 h2 h3 h4 hb hok hm hn hl
 go_enter Tryz.func111,Tryz.ntmps111
 go_wp2_with fail
 have HSZ:Hid (w.heap.size < (w.alloc (.cells (live :: .int .i64 ino :: .int .i64 gen::ps).toArray 90)).heap.size):=HBX.out.lt
 generalize w.alloc (.cells (live :: .int .i64 ino :: .int .i64 gen::ps).toArray 90)=w1 at *
 go_loopw [14] (fun i wr=>∃ (k:Nat) (G':List Nat),k≤fs.length∧i = .int .i64 k∧Hid (StQ w0 vd (.pointer (some ⟨gl,0,none⟩)) vj (rl++(fs.take k).map (recF ino gen)) (n+208*k) (m+k) wr G')∧Hid (Upd G w1 wr)∧Hid (∀ x∈G',x∈G∨w1.heap.size≤x)) (fun i _=>fs.length-(intOf i).toNat)
 case atStart=>exact ⟨0,G,Nat.zero_le _,rfl,by rw [List.take_zero,List.map_nil,List.append_nil];exact HST,Upd.refl _ _,fun x hx => .inl hx⟩
 case round =>
  obtain ⟨k,G',hk,rfl,hst,hu,hg⟩:=hrel
  by_cases hlt:k < fs.length
  ·have hv:=HV.out.upd fdCells_len hu.out H4.out
   obtain ⟨A',C',he,_,_,hc⟩:=hv
   injection he with he1 he2 he3
   subst he1
   obtain ⟨b,off,rfl,hcc⟩:=hc (fun q=>by rw [q] at hlt;simp at hlt)
   clear hc
   have hc:=hcc k hlt
   obtain ⟨o1,o2,o3,o4⟩:=HOK.out k hlt
   obtain ⟨kind,at_,rule,c0,c1,c2,c3,c4,c5,c6,c7,c8,c9,hx⟩:=fd_mk (nth fs k)
   rw [hx] at hc o1 o2 o3 o4
   have o1:rule=0:=o1
   subst o1
   have e0:wr.cell? ⟨b,off+k*13,none⟩=some (.int .i64 kind):=hc 0 (by omega)
   have e1:wr.cell? ⟨b,off+k*13+1,none⟩=some (.int .i64 at_):=hc 1 (by omega)
   have e2:wr.cell? ⟨b,off+k*13+2,none⟩=some (.int .i64 0):=hc 2 (by omega)
   have e3:wr.cell? ⟨b,off+k*13+3,none⟩=some (.int .i64 c0):=hc 3 (by omega)
   have e4:wr.cell? ⟨b,off+k*13+4,none⟩=some (.int .i64 c1):=hc 4 (by omega)
   have e5:wr.cell? ⟨b,off+k*13+5,none⟩=some (.int .i64 c2):=hc 5 (by omega)
   have e6:wr.cell? ⟨b,off+k*13+6,none⟩=some (.int .i64 c3):=hc 6 (by omega)
   have e7:wr.cell? ⟨b,off+k*13+7,none⟩=some (.int .i64 c4):=hc 7 (by omega)
   have e8:wr.cell? ⟨b,off+k*13+8,none⟩=some (.int .i64 c5):=hc 8 (by omega)
   have e9:wr.cell? ⟨b,off+k*13+9,none⟩=some (.int .i64 c6):=hc 9 (by omega)
   have e10:wr.cell? ⟨b,off+k*13+10,none⟩=some (.int .i64 c7):=hc 10 (by omega)
   have e11:wr.cell? ⟨b,off+k*13+11,none⟩=some (.int .i64 c8):=hc 11 (by omega)
   have e12:wr.cell? ⟨b,off+k*13+12,none⟩=some (.int .i64 c9):=hc 12 (by omega)
   have HX:=Lib.hid hx
   have HO3:=Lib.hid o3
   have HO4:=Lib.hid o4
   have hB:=HBX.out.upd hu.out HBG.out
   have hFr:=HF.out.upd hu.out H1.out
   have d1:wr.cell? ⟨w.heap.size,1,none⟩=some (.int .i64 ino):=by rw [hB.cell];rfl
   have d2:wr.cell? ⟨w.heap.size,2,none⟩=some (.int .i64 gen):=by rw [hB.cell];rfl
   have q1:(k:Int) < (fs.length:Int):=by omega
   have hlt2:w.heap.size < wr.heap.size:=hB.lt
   clear hc hcc hx o3 o4 he2 he3 hB hFr
   rcases o2 with o2|o2
   ·have o2:kind=1:=o2
    subst o2
    go_wp2_with fail
    have hu3:Upd [] wr ((wr.alloc (.cells #[.int .i64 1,.int .i64 at_,.int .i64 0,.int .i64 c0,.int .i64 c1,.int .i64 c2,.int .i64 c3,.int .i64 c4,.int .i64 c5,.int .i64 c6,.int .i64 c7,.int .i64 c8,.int .i64 c9] 321)).alloc (.cells #[.int .i64 ino,.int .i64 gen,.int .i64 at_,.string ⟨#[]⟩,.int .i64 1,.int .i64 c0,.int .i64 c1,.int .i64 c2,.int .i64 c3,.int .i64 c4,.int .i64 c5,.int .i64 c6,.int .i64 c7,.int .i64 c8,.int .i64 c9] 48)):=((Upd.refl [] wr).alloc _).alloc _
    have hx3:Blk ((wr.alloc (.cells #[.int .i64 1,.int .i64 at_,.int .i64 0,.int .i64 c0,.int .i64 c1,.int .i64 c2,.int .i64 c3,.int .i64 c4,.int .i64 c5,.int .i64 c6,.int .i64 c7,.int .i64 c8,.int .i64 c9] 321)).alloc (.cells #[.int .i64 ino,.int .i64 gen,.int .i64 at_,.string ⟨#[]⟩,.int .i64 1,.int .i64 c0,.int .i64 c1,.int .i64 c2,.int .i64 c3,.int .i64 c4,.int .i64 c5,.int .i64 c6,.int .i64 c7,.int .i64 c8,.int .i64 c9] 48)) wr.heap.size 321 [.int .i64 1,.int .i64 at_,.int .i64 0,.int .i64 c0,.int .i64 c1,.int .i64 c2,.int .i64 c3,.int .i64 c4,.int .i64 c5,.int .i64 c6,.int .i64 c7,.int .i64 c8,.int .i64 c9]:=(Blk.new wr 321 [.int .i64 1,.int .i64 at_,.int .i64 0,.int .i64 c0,.int .i64 c1,.int .i64 c2,.int .i64 c3,.int .i64 c4,.int .i64 c5,.int .i64 c6,.int .i64 c7,.int .i64 c8,.int .i64 c9]).upd ((Upd.refl [] _).alloc _) (by simp)
    have hb3:Blk ((wr.alloc (.cells #[.int .i64 1,.int .i64 at_,.int .i64 0,.int .i64 c0,.int .i64 c1,.int .i64 c2,.int .i64 c3,.int .i64 c4,.int .i64 c5,.int .i64 c6,.int .i64 c7,.int .i64 c8,.int .i64 c9] 321)).alloc (.cells #[.int .i64 ino,.int .i64 gen,.int .i64 at_,.string ⟨#[]⟩,.int .i64 1,.int .i64 c0,.int .i64 c1,.int .i64 c2,.int .i64 c3,.int .i64 c4,.int .i64 c5,.int .i64 c6,.int .i64 c7,.int .i64 c8,.int .i64 c9] 48)) (wr.heap.size+1) 48 [.int .i64 ino,.int .i64 gen,.int .i64 at_,.string ⟨#[]⟩,.int .i64 1,.int .i64 c0,.int .i64 c1,.int .i64 c2,.int .i64 c3,.int .i64 c4,.int .i64 c5,.int .i64 c6,.int .i64 c7,.int .i64 c8,.int .i64 c9]:=by
     have:=Blk.new (wr.alloc (.cells #[.int .i64 1,.int .i64 at_,.int .i64 0,.int .i64 c0,.int .i64 c1,.int .i64 c2,.int .i64 c3,.int .i64 c4,.int .i64 c5,.int .i64 c6,.int .i64 c7,.int .i64 c8,.int .i64 c9] 321)) 48 [.int .i64 ino,.int .i64 gen,.int .i64 at_,.string ⟨#[]⟩,.int .i64 1,.int .i64 c0,.int .i64 c1,.int .i64 c2,.int .i64 c3,.int .i64 c4,.int .i64 c5,.int .i64 c6,.int .i64 c7,.int .i64 c8,.int .i64 c9]
     simpa using this
    have HX3:=Lib.hid hx3
    generalize (wr.alloc (.cells #[.int .i64 1,.int .i64 at_,.int .i64 0,.int .i64 c0,.int .i64 c1,.int .i64 c2,.int .i64 c3,.int .i64 c4,.int .i64 c5,.int .i64 c6,.int .i64 c7,.int .i64 c8,.int .i64 c9] 321)).alloc (.cells #[.int .i64 ino,.int .i64 gen,.int .i64 at_,.string ⟨#[]⟩,.int .i64 1,.int .i64 c0,.int .i64 c1,.int .i64 c2,.int .i64 c3,.int .i64 c4,.int .i64 c5,.int .i64 c6,.int .i64 c7,.int .i64 c8,.int .i64 c9] 48)=w3 at *
    have hR3:=(HR.out.upd hu.out H2.out H3.out).upd hu3 (by simp) (by simp)
    have hF3:=(HF.out.upd hu.out H1.out).upd hu3 (by simp)
    have HU3:=Lib.hid hu3
    have HF3:=Lib.hid hF3
    have HB3:=Lib.hid hb3
    have hne3:gf < wr.heap.size:=(HF.out.upd hu.out H1.out).lt
    have hlt3:wr.heap.size+1 < w3.heap.size:=hb3.lt
    have z0:w3.cell? ⟨gf,1,none⟩=some (.pointer (some ⟨gr,0,none⟩)):=by rw [hF3.cell];rfl
    have z1:w3.cell? ⟨wr.heap.size,2,none⟩=some (.int .i64 0):=by rw [hx3.cell];rfl
    have HNM:Hid (∀ W,Upd [] w3 W→Calls Tryz.prog 165 #[.pointer (some ⟨gr,0,none⟩),.int .i64 0] W fun e w'=>e = .returned (.string nmA)∧Upd [] w3 w'):=fun W hW=>(rName_any (hR3.upd hW (by simp) (by simp))).mono fun e w' ⟨h1,h2⟩=>⟨h1,hW.seq h2⟩
    clear hu3 hR3 hF3 hx3 hb3 d1 d2 e0 e1 e2 e3 e4 e5 e6 e7 e8 e9 e10 e11 e12
    go_region_with (first
     | (go_at_call 165;(with_reducible refine (HNM.out _ ?_).mono ?_);(repeat (first|exact Upd.refl _ _|apply Upd.drew));(rintro e w4 ⟨rfl,hu4⟩;have f3:=(HB3.out.upd hu4 (by simp)).frozen 3;have s3:w4.cell? ⟨wr.heap.size+1,3,none⟩=some (.string ⟨#[]⟩):=(by rw [(HB3.out.upd hu4 (by simp)).cell];rfl);dsimp only)))
    all_goals
     have hb5:=(HB3.out.upd hu4 (by simp)).set_ 3 (.string nmA)
     have hu5:Upd [] wr (w4.setCell ⟨wr.heap.size+1,3,none⟩ (.string nmA)):=(HU3.out.seq hu4).setCell _ _ (.inr (by show wr.heap.size≤wr.heap.size+1;omega))
     have hF5:=(HF3.out.upd hu4 (by simp)).upd ((Upd.refl [wr.heap.size+1] w4).setCell ⟨wr.heap.size+1,3,none⟩ (.string nmA) (.inl (by simp))) (by simp;omega)
     simp only [List.set_cons_succ,List.set_cons_zero] at hb5
     generalize w4.setCell ⟨wr.heap.size+1,3,none⟩ (.string nmA)=w5 at *
     clear hu4 f3 s3 HNM z0 z1
     go_wp2_with fail
     have y0:w5.cell? ⟨gf,2,none⟩=some (.pointer (some ⟨gl,0,none⟩)):=by rw [hF5.cell];rfl
     have x0:w5.cell? ⟨wr.heap.size+1,0,none⟩=some (.int .i64 ino):=by rw [hb5.cell];rfl
     have x1:w5.cell? ⟨wr.heap.size+1,1,none⟩=some (.int .i64 gen):=by rw [hb5.cell];rfl
     have x2:w5.cell? ⟨wr.heap.size+1,2,none⟩=some (.int .i64 at_):=by rw [hb5.cell];rfl
     have x3:w5.cell? ⟨wr.heap.size+1,3,none⟩=some (.string ⟨#[97]⟩):=by rw [hb5.cell];rfl
     have x4:w5.cell? ⟨wr.heap.size+1,4,none⟩=some (.int .i64 1):=by rw [hb5.cell];rfl
     have x5:w5.cell? ⟨wr.heap.size+1,5,none⟩=some (.int .i64 c0):=by rw [hb5.cell];rfl
     have x6:w5.cell? ⟨wr.heap.size+1,6,none⟩=some (.int .i64 c1):=by rw [hb5.cell];rfl
     have x7:w5.cell? ⟨wr.heap.size+1,7,none⟩=some (.int .i64 c2):=by rw [hb5.cell];rfl
     have x8:w5.cell? ⟨wr.heap.size+1,8,none⟩=some (.int .i64 c3):=by rw [hb5.cell];rfl
     have x9:w5.cell? ⟨wr.heap.size+1,9,none⟩=some (.int .i64 c4):=by rw [hb5.cell];rfl
     have x10:w5.cell? ⟨wr.heap.size+1,10,none⟩=some (.int .i64 c5):=by rw [hb5.cell];rfl
     have x11:w5.cell? ⟨wr.heap.size+1,11,none⟩=some (.int .i64 c6):=by rw [hb5.cell];rfl
     have x12:w5.cell? ⟨wr.heap.size+1,12,none⟩=some (.int .i64 c7):=by rw [hb5.cell];rfl
     have x13:w5.cell? ⟨wr.heap.size+1,13,none⟩=some (.int .i64 c8):=by rw [hb5.cell];rfl
     have x14:w5.cell? ⟨wr.heap.size+1,14,none⟩=some (.int .i64 c9):=by rw [hb5.cell];rfl
     have HADD:Hid (∀ W,Upd [] w5 W→Calls Tryz.prog 166 #[.pointer (some ⟨gl,0,none⟩),.agg #[.int .i64 ino,.int .i64 gen,.int .i64 at_,.string ⟨#[97]⟩,.int .i64 1,.int .i64 c0,.int .i64 c1,.int .i64 c2,.int .i64 c3,.int .i64 c4,.int .i64 c5,.int .i64 c6,.int .i64 c7,.int .i64 c8,.int .i64 c9]] W fun e w'=>e = .returned (.tuple #[.bool true,.int .i64 0])∧∃ G2,Hid (StQ w0 vd (.pointer (some ⟨gl,0,none⟩)) vj (rl++(fs.take (k+1)).map (recF ino gen)) (n+208*(k+1)) (m+(k+1)) w' G2)∧Upd G w1 w'∧∀ x∈G2,x∈G∨w1.heap.size≤x):=fun W hW=>by
      have hsw:=st_upd hst.out (hu5.seq hW) (by simp) (by simp)
      have hl1:(rl++(fs.take k).map (recF ino gen)).length≤100000000:=by have:=HL.out;rw [List.length_append,List.length_map,List.length_take];omega
      refine (st_add hsw (recF ino gen ⟨1,at_,0,⟨[c0,c1,c2,c3,c4,c5,c6,c7,c8,c9],rfl⟩⟩) HO3.out HO4.out (by have:=HM.out;omega) (by have:=HN.out;omega) hl1).mono ?_
      rintro e w' ⟨rfl,G2,g1,g2,g3⟩
      rw [List.append_assoc,← HX.out,← take_map_succ ino gen fs k hlt] at g1
      have hgs:=hu.out.size
      have hws:=hu5.size
      have hwz:=hW.size
      exact ⟨rfl,G2,g1,(hu.out.trans (hu5.seq hW) (T:=G) (fun x hx=>hx) (by simp)).trans g2 (fun x hx=>hx) (fun x hx=>hg.out x hx),fun x hx=>by
       rcases g3 x hx with q|q
       ·exact hg.out x q
       ·exact .inr (by omega)⟩
     clear hb5 hu5 hF5
     go_region_with (first
      | (go_at_call 166;(with_reducible refine (HADD.out _ ?_).mono ?_);(repeat (first|exact Upd.refl _ _|apply Upd.drew));(rintro e w6 ⟨rfl,G2,hs6,hu6,hg6⟩;dsimp only)))
     all_goals
      have HU6:=Lib.hid hu6
      have HG6:=Lib.hid hg6
      clear hu6 hg6 HADD y0 x0 x1 x2 x3 x4 x5 x6 x7 x8 x9 x10 x11 x12 x13 x14
      have hcm3:=HCM.out
      go_wp2_with fail
      go_roundw
      case rel=>exact ⟨k+1,G2,by omega,by go_num,hs6,HU6,HG6⟩
      case measure=>simp [intOf];omega
   ·have o2:kind=2:=o2
    subst o2
    go_wp2_with fail
    have hu3:Upd [] wr ((wr.alloc (.cells #[.int .i64 2,.int .i64 at_,.int .i64 0,.int .i64 c0,.int .i64 c1,.int .i64 c2,.int .i64 c3,.int .i64 c4,.int .i64 c5,.int .i64 c6,.int .i64 c7,.int .i64 c8,.int .i64 c9] 321)).alloc (.cells #[.int .i64 ino,.int .i64 gen,.int .i64 at_,.string ⟨#[]⟩,.int .i64 2,.int .i64 c0,.int .i64 c1,.int .i64 c2,.int .i64 c3,.int .i64 c4,.int .i64 c5,.int .i64 c6,.int .i64 c7,.int .i64 c8,.int .i64 c9] 48)):=((Upd.refl [] wr).alloc _).alloc _
    have hx3:Blk ((wr.alloc (.cells #[.int .i64 2,.int .i64 at_,.int .i64 0,.int .i64 c0,.int .i64 c1,.int .i64 c2,.int .i64 c3,.int .i64 c4,.int .i64 c5,.int .i64 c6,.int .i64 c7,.int .i64 c8,.int .i64 c9] 321)).alloc (.cells #[.int .i64 ino,.int .i64 gen,.int .i64 at_,.string ⟨#[]⟩,.int .i64 2,.int .i64 c0,.int .i64 c1,.int .i64 c2,.int .i64 c3,.int .i64 c4,.int .i64 c5,.int .i64 c6,.int .i64 c7,.int .i64 c8,.int .i64 c9] 48)) wr.heap.size 321 [.int .i64 2,.int .i64 at_,.int .i64 0,.int .i64 c0,.int .i64 c1,.int .i64 c2,.int .i64 c3,.int .i64 c4,.int .i64 c5,.int .i64 c6,.int .i64 c7,.int .i64 c8,.int .i64 c9]:=(Blk.new wr 321 [.int .i64 2,.int .i64 at_,.int .i64 0,.int .i64 c0,.int .i64 c1,.int .i64 c2,.int .i64 c3,.int .i64 c4,.int .i64 c5,.int .i64 c6,.int .i64 c7,.int .i64 c8,.int .i64 c9]).upd ((Upd.refl [] _).alloc _) (by simp)
    have hb3:Blk ((wr.alloc (.cells #[.int .i64 2,.int .i64 at_,.int .i64 0,.int .i64 c0,.int .i64 c1,.int .i64 c2,.int .i64 c3,.int .i64 c4,.int .i64 c5,.int .i64 c6,.int .i64 c7,.int .i64 c8,.int .i64 c9] 321)).alloc (.cells #[.int .i64 ino,.int .i64 gen,.int .i64 at_,.string ⟨#[]⟩,.int .i64 2,.int .i64 c0,.int .i64 c1,.int .i64 c2,.int .i64 c3,.int .i64 c4,.int .i64 c5,.int .i64 c6,.int .i64 c7,.int .i64 c8,.int .i64 c9] 48)) (wr.heap.size+1) 48 [.int .i64 ino,.int .i64 gen,.int .i64 at_,.string ⟨#[]⟩,.int .i64 2,.int .i64 c0,.int .i64 c1,.int .i64 c2,.int .i64 c3,.int .i64 c4,.int .i64 c5,.int .i64 c6,.int .i64 c7,.int .i64 c8,.int .i64 c9]:=by
     have:=Blk.new (wr.alloc (.cells #[.int .i64 2,.int .i64 at_,.int .i64 0,.int .i64 c0,.int .i64 c1,.int .i64 c2,.int .i64 c3,.int .i64 c4,.int .i64 c5,.int .i64 c6,.int .i64 c7,.int .i64 c8,.int .i64 c9] 321)) 48 [.int .i64 ino,.int .i64 gen,.int .i64 at_,.string ⟨#[]⟩,.int .i64 2,.int .i64 c0,.int .i64 c1,.int .i64 c2,.int .i64 c3,.int .i64 c4,.int .i64 c5,.int .i64 c6,.int .i64 c7,.int .i64 c8,.int .i64 c9]
     simpa using this
    have HX3:=Lib.hid hx3
    generalize (wr.alloc (.cells #[.int .i64 2,.int .i64 at_,.int .i64 0,.int .i64 c0,.int .i64 c1,.int .i64 c2,.int .i64 c3,.int .i64 c4,.int .i64 c5,.int .i64 c6,.int .i64 c7,.int .i64 c8,.int .i64 c9] 321)).alloc (.cells #[.int .i64 ino,.int .i64 gen,.int .i64 at_,.string ⟨#[]⟩,.int .i64 2,.int .i64 c0,.int .i64 c1,.int .i64 c2,.int .i64 c3,.int .i64 c4,.int .i64 c5,.int .i64 c6,.int .i64 c7,.int .i64 c8,.int .i64 c9] 48)=w3 at *
    have hR3:=(HR.out.upd hu.out H2.out H3.out).upd hu3 (by simp) (by simp)
    have hF3:=(HF.out.upd hu.out H1.out).upd hu3 (by simp)
    have HU3:=Lib.hid hu3
    have HF3:=Lib.hid hF3
    have HB3:=Lib.hid hb3
    have hne3:gf < wr.heap.size:=(HF.out.upd hu.out H1.out).lt
    have hlt3:wr.heap.size+1 < w3.heap.size:=hb3.lt
    have hb5:=hb3
    have hu5:=hu3
    have hF5:=hF3
    clear hu3 hR3 hF3 hx3 hb3 d1 d2 e0 e1 e2 e3 e4 e5 e6 e7 e8 e9 e10 e11 e12
    generalize w3=w5 at *
    have y0:w5.cell? ⟨gf,2,none⟩=some (.pointer (some ⟨gl,0,none⟩)):=by rw [hF5.cell];rfl
    have x0:w5.cell? ⟨wr.heap.size+1,0,none⟩=some (.int .i64 ino):=by rw [hb5.cell];rfl
    have x1:w5.cell? ⟨wr.heap.size+1,1,none⟩=some (.int .i64 gen):=by rw [hb5.cell];rfl
    have x2:w5.cell? ⟨wr.heap.size+1,2,none⟩=some (.int .i64 at_):=by rw [hb5.cell];rfl
    have x3:w5.cell? ⟨wr.heap.size+1,3,none⟩=some (.string ⟨#[]⟩):=by rw [hb5.cell];rfl
    have x4:w5.cell? ⟨wr.heap.size+1,4,none⟩=some (.int .i64 2):=by rw [hb5.cell];rfl
    have x5:w5.cell? ⟨wr.heap.size+1,5,none⟩=some (.int .i64 c0):=by rw [hb5.cell];rfl
    have x6:w5.cell? ⟨wr.heap.size+1,6,none⟩=some (.int .i64 c1):=by rw [hb5.cell];rfl
    have x7:w5.cell? ⟨wr.heap.size+1,7,none⟩=some (.int .i64 c2):=by rw [hb5.cell];rfl
    have x8:w5.cell? ⟨wr.heap.size+1,8,none⟩=some (.int .i64 c3):=by rw [hb5.cell];rfl
    have x9:w5.cell? ⟨wr.heap.size+1,9,none⟩=some (.int .i64 c4):=by rw [hb5.cell];rfl
    have x10:w5.cell? ⟨wr.heap.size+1,10,none⟩=some (.int .i64 c5):=by rw [hb5.cell];rfl
    have x11:w5.cell? ⟨wr.heap.size+1,11,none⟩=some (.int .i64 c6):=by rw [hb5.cell];rfl
    have x12:w5.cell? ⟨wr.heap.size+1,12,none⟩=some (.int .i64 c7):=by rw [hb5.cell];rfl
    have x13:w5.cell? ⟨wr.heap.size+1,13,none⟩=some (.int .i64 c8):=by rw [hb5.cell];rfl
    have x14:w5.cell? ⟨wr.heap.size+1,14,none⟩=some (.int .i64 c9):=by rw [hb5.cell];rfl
    have HADD:Hid (∀ W,Upd [] w5 W→Calls Tryz.prog 166 #[.pointer (some ⟨gl,0,none⟩),.agg #[.int .i64 ino,.int .i64 gen,.int .i64 at_,.string ⟨#[]⟩,.int .i64 2,.int .i64 c0,.int .i64 c1,.int .i64 c2,.int .i64 c3,.int .i64 c4,.int .i64 c5,.int .i64 c6,.int .i64 c7,.int .i64 c8,.int .i64 c9]] W fun e w'=>e = .returned (.tuple #[.bool true,.int .i64 0])∧∃ G2,Hid (StQ w0 vd (.pointer (some ⟨gl,0,none⟩)) vj (rl++(fs.take (k+1)).map (recF ino gen)) (n+208*(k+1)) (m+(k+1)) w' G2)∧Upd G w1 w'∧∀ x∈G2,x∈G∨w1.heap.size≤x):=fun W hW=>by
     have hsw:=st_upd hst.out (hu5.seq hW) (by simp) (by simp)
     have hl1:(rl++(fs.take k).map (recF ino gen)).length≤100000000:=by have:=HL.out;rw [List.length_append,List.length_map,List.length_take];omega
     refine (st_add hsw (recF ino gen ⟨2,at_,0,⟨[c0,c1,c2,c3,c4,c5,c6,c7,c8,c9],rfl⟩⟩) HO3.out HO4.out (by have:=HM.out;omega) (by have:=HN.out;omega) hl1).mono ?_
     rintro e w' ⟨rfl,G2,g1,g2,g3⟩
     rw [List.append_assoc,← HX.out,← take_map_succ ino gen fs k hlt] at g1
     have hgs:=hu.out.size
     have hws:=hu5.size
     have hwz:=hW.size
     exact ⟨rfl,G2,g1,(hu.out.trans (hu5.seq hW) (T:=G) (fun x hx=>hx) (by simp)).trans g2 (fun x hx=>hx) (fun x hx=>hg.out x hx),fun x hx=>by
      rcases g3 x hx with q|q
      ·exact hg.out x q
      ·exact .inr (by omega)⟩
    clear hb5 hu5 hF5
    go_region_with (first
     | (go_at_call 166;(with_reducible refine (HADD.out _ ?_).mono ?_);(repeat (first|exact Upd.refl _ _|apply Upd.drew));(rintro e w6 ⟨rfl,G2,hs6,hu6,hg6⟩;dsimp only)))
    all_goals
     have HU6:=Lib.hid hu6
     have HG6:=Lib.hid hg6
     clear hu6 hg6 HADD y0 x0 x1 x2 x3 x4 x5 x6 x7 x8 x9 x10 x11 x12 x13 x14
     have hcm3:=HCM.out
     go_wp2_with fail
     go_roundw
     case rel=>exact ⟨k+1,G2,by omega,by go_num,hs6,HU6,HG6⟩
     case measure=>simp [intOf];omega
  ·obtain rfl:k=fs.length:=by omega
   rw [List.take_length] at hst
   have hgg:∀ x∈G',x∈G∨w.heap.size≤x:=fun x hx=>(hg.out x hx).imp id (fun q=>by have:=HSZ.out;omega)
   have huu:=HU0.out.trans hu.out (T:=G) (by simp) (fun x hx => .inl hx)
   have hst:=hst.out
   clear hu hg
   go_wp2_with fail
   go_ret
   exact ⟨rfl,G',hst,huu,hgg⟩
end Go.Proofs.YthgnlfikneipiaaGreat
namespace Go.Proofs.YthgnlfikneipiaaGreat
open Go.RowKit
open Go.Eng (Asr UpdP TS AllF All)
def gv (gs:List Value) (i:Nat):Value:=(Eng.nth gs i).getD (.pointer none)
theorem gv_at {gs:List Value} {i:Nat} {v:Value} (h:Eng.nth gs i=some v):gv gs i=v:=by unfold gv;rw [h];rfl
theorem nth_l {α} (L:List α) (i:Nat):Eng.nth L i=L[i]?:=@Eng.nth_eq (Eng.plainV 0 nu0) α L i
theorem gv_app {gs:List Value} (vs:List Value) {i:Nat} (h:i < gs.length):gv (gs++vs) i=gv gs i:=by
 unfold gv
 rw [nth_l,nth_l,List.getElem?_append_left h]
theorem nth_new {gs:List Value} {n:Nat} (h:gs.length=n) (vs:List Value) (j:Nat):Eng.nth (gs++vs) (n+j)=Eng.nth vs j:=by
 rw [nth_l,nth_l,List.getElem?_append_right (by omega)];congr 1;omega
theorem mos_aux [Eng.Val]:∀ (M P:List Value),Eng.mos (P++M) ((List.range' P.length M.length).map Eng.Sel.at) M
 | [],P=>trivial
 | v::M,P=>by
  refine ⟨?_,?_⟩
  ·show Eng.nth (P++v::M) P.length=some v
   rw [nth_l];simp
  ·have:=mos_aux M (P++[v])
   rw [List.append_assoc,List.length_append] at this
   exact this
theorem mos_ats [Eng.Val] {L:List Value} {n:Nat} (h:L.length=n):Eng.mos L (Eng.ats n) L:=by
 have:=mos_aux L []
 rw [List.nil_append,List.length_nil,h,← List.range_eq_range'] at this
 exact this
def byO (b:Nat) (v:Value) (l:List UInt8):Asr b where
 P w F:=Own bv b 5 w v l∧∀ x,F x↔x∈blk v
 up:=by
  rintro w w' F S ⟨h1,h4⟩ hu hs hb
  obtain ⟨L,k1,k2⟩:=updL hu
  exact ⟨h1.upd k1 (fun x hx hl=>hs x ((h4 x).2 hx) (k2 x hl)),h4⟩
 lt:=by
  rintro w F ⟨h1,h4⟩ x hx
  exact h1.ge x ((h4 x).1 hx)
def fdO (b:Nat) (v:Value) (l:List Fd):Asr b where
 P w F:=OwnN 13 fdCells b 321 w v l∧∀ x,F x↔x∈blk v
 up:=by
  rintro w w' F S ⟨h1,h4⟩ hu hs hb
  obtain ⟨L,k1,k2⟩:=updL hu
  exact ⟨h1.upd k1 (fun x hx hl=>hs x ((h4 x).2 hx) (k2 x hl)),h4⟩
 lt:=by
  rintro w F ⟨h1,h4⟩ x hx
  exact h1.ge x ((h4 x).1 hx)
theorem updF {f:Nat→Prop} {G:List Nat} {w w':World} (h:Upd G w w') (hf:∀ x,f x↔x∈G):UpdP f w w':=⟨h.os,h.tape,h.output,h.size,fun k hk hn=>h.block k hk fun q=>hn ((hf k).2 q)⟩
theorem updO {f g:Nat→Prop} {w w':World} (h:UpdP f w w') (k:∀ x,f x→g x):UpdP g w w':=⟨h.os,h.tape,h.output,h.size,fun j hj hn=>h.block j hj fun q=>hn (k j q)⟩
section
variable {w0 : World} {ν : Nat → Int} {st : Nat → List Value → List (Asr w0.heap.size)} {k n : Nat} {p0 p1 : List Value → Prop} {a1 a2 a3 a4 a5 a6 a7 a8 : List Value → Asr w0.heap.size}
theorem okMark {k':Nat} {rl:List Rec} {N K:Nat} (h0:∀ gs,st k gs=[Eng.fact (p0 gs),a1 gs,StA w0 (gv gs 1) (gv gs 2) (gv gs 3) rl N K,a3 gs,a4 gs,a5 gs,a6 gs,a7 gs,a8 gs]) (h1:∀ gs,p0 gs→st k' gs=[Eng.fact (p0 gs),a1 gs,StA w0 (gv gs 1) (gv gs 2) (gv gs 3) rl N K,a3 gs,a4 gs,a5 gs,a6 gs,a7 gs,a8 gs])
  (hp:∀ gs,p0 gs→gs.length=n) (hK:K≤4000):(Eng.tMark k k' n).Ok Tryz.prog ν st:=by
 intro w gs us fs F ha hA hF hb
 have hA:AllF (st k gs) w fs:=hA
 rw [h0] at hA
 have hq:=(hA.at_ 0 _ rfl).1
 obtain ⟨G,hs,hG⟩:=hA.at_ 2 _ rfl
 match us,ha with
 | [u0],⟨a,_⟩ =>
  rw [gv_at a] at hs
  refine (st_mark hs hK).mono ?_
  rintro e w' ⟨rfl,G',s',u',n'⟩
  rw [← gv_at a] at s'
  obtain ⟨F',r1,r2,r3⟩:=hA.step1 hF 2 (by simp) (A:=StA w0 (gv gs 1) (gv gs 2) (gv gs 3) rl N K) (f:=fun x=>x∈G') ⟨G',s',fun _=>Iff.rfl⟩ (updF u' hG) (fun x hx=>(n' x hx).imp (hG x).2 id)
  refine ⟨_,[],gs,F',rfl,trivial,⟨[],rfl,trivial⟩,?_,?_,r2,r3⟩
  ·rw [List.append_nil];exact @mos_ats (Eng.mkVal _ ν st) gs n (hp gs hq)
  ·show All (st k' gs) w' F'
   rw [h1 gs hq];exact r1
 | [],h=>exact h.elim
 | _::_::_,h=>exact h.2.elim
theorem okHead {hd:Nat} {l:List UInt8} {N:Nat} (h0:∀ gs,st k gs=[Eng.fact (p0 gs),a1 gs,a2 gs,a3 gs,byO _ (gv gs hd) l,a5 gs,a6 gs,a7 gs,a8 gs]) (h1:∀ gs,p0 gs→st (k+1) gs=[Eng.fact (p0 gs),a1 gs,a2 gs,a3 gs,byO _ (gv gs hd) l,a5 gs,a6 gs,a7 gs,a8 gs])
  (hp:∀ gs,p0 gs→gs.length=n) (hl:ν 2=(min l.length 16:Nat)) (hs:ν 3=(headSum l).toNat):(Eng.tHead k n hd).Ok Tryz.prog ν st:=by
 intro w gs us fs F ha hA hF hb
 have hA:AllF (st k gs) w fs:=hA
 rw [h0] at hA
 have hq:=(hA.at_ 0 _ rfl).1
 obtain ⟨ho,hG⟩:=hA.at_ 4 _ rfl
 match us,ha with
 | [u0],⟨a,_⟩ =>
  rw [gv_at a] at ho
  refine (idHead_any w u0 l ho.rd).mono ?_
  rintro e w' ⟨rfl,u'⟩
  obtain ⟨F',r1,r2,r3⟩:=hA.step0 hF (updP0 u')
  refine ⟨_,[],gs,F',rfl,trivial,⟨[.int .i64 ((min l.length 16:Nat):Int),.int .u32 ((headSum l).toNat:Int)],rfl,?_,?_,trivial⟩,?_,?_,r2,r3⟩
  ·show some (Value.int .i64 (0+(1*ν 2+0)))=_
   rw [hl];congr 2;omega
  ·show some (Value.int .u32 (0+(1*ν 3+0)))=_
   rw [hs];congr 2;omega
  ·rw [List.append_nil];exact @mos_ats (Eng.mkVal _ ν st) gs n (hp gs hq)
  ·show All (st (k+1) gs) w' F'
   rw [h1 gs hq];exact r1
 | [],h=>exact h.elim
 | _::_::_,h=>exact h.2.elim
theorem okSame {hd m:Nat} {l:List UInt8} {at_:Int} (h0:∀ gs,st k gs=[Eng.fact (p0 gs),a1 gs,a2 gs,a3 gs,byO _ (gv gs hd) l,a5 gs,a6 gs,a7 gs,a8 gs]) (h1:∀ gs,p0 gs→st (k+1) gs=[Eng.fact (p0 gs),a1 gs,a2 gs,a3 gs,byO _ (gv gs hd) l,a5 gs,a6 gs,a7 gs,a8 gs])
  (hp:∀ gs,p0 gs→gs.length=n) (e1:ν 10=m) (e2:ν 11=(sumOn 0 (l.take m)).toNat) (e3:ν 12≤ν 6) (e4:m≤16) (e5:m≤l.length):(Eng.tSame k n (Eng.s64 10) (.c (Eng.lt32 11)) (Eng.s64 12) hd).Ok Tryz.prog ν st:=by
 intro w gs us fs F ha hA hF hb
 have hA:AllF (st k gs) w fs:=hA
 rw [h0] at hA
 have hq:=(hA.at_ 0 _ rfl).1
 obtain ⟨ho,hG⟩:=hA.at_ 4 _ rfl
 match us,ha with
 | [u0,u1,u2,u3],⟨⟨vs,hv1,hv2⟩,b1,b2,b3,_⟩ =>
  match vs,hv2 with
  | [x0,x1],⟨c1,c2,_⟩ =>
   have c1:some (Value.int .i64 (0+(1*ν 10+0)))=some x0:=c1
   have c2:some (Value.int .u32 (0+(1*ν 11+0)))=some x1:=c2
   have b1:some (Value.int .i64 (0+(1*ν 12+0)))=some u1:=b1
   have b2:some (Value.int .i64 (0+(1*ν 6+0)))=some u2:=b2
   cases c1;cases c2;cases b1;cases b2
   subst hv1
   have b3:Eng.nth gs hd=some u3:=b3
   rw [gv_at b3] at ho
   have:=idSame_yes w m (sumOn 0 (l.take m)) (ν 12) (ν 6) u3 l ho.rd e3 e4 e5 rfl
   rw [show (0+(1*ν 10+0):Int)=m by omega,show (0+(1*ν 11+0):Int)=(sumOn 0 (l.take m)).toNat by omega,show (0+(1*ν 12+0):Int)=ν 12 by omega,show (0+(1*ν 6+0):Int)=ν 6 by omega]
   refine this.mono ?_
   rintro e w' ⟨rfl,u'⟩
   obtain ⟨F',r1,r2,r3⟩:=hA.step0 hF (updP0 u')
   refine ⟨_,[],gs,F',rfl,trivial,rfl,?_,?_,r2,r3⟩
   ·rw [List.append_nil];exact @mos_ats (Eng.mkVal _ ν st) gs n (hp gs hq)
   ·show All (st (k+1) gs) w' F'
    rw [h1 gs hq];exact r1
  | [],h=>exact h.elim
  | [_],h=>exact h.2.elim
  | _::_::_::_,h=>exact h.2.2.elim
 | [],h=>exact h.elim
 | [_],h=>exact h.2.elim
 | [_,_],h=>exact h.2.2.elim
 | [_,_,_],h=>exact h.2.2.2.elim
 | _::_::_::_::_::_,h=>exact h.2.2.2.2.elim
end
end Go.Proofs.YthgnlfikneipiaaGreat
namespace Go.Proofs.YthgnlfikneipiaaGreat
open Go.RowKit
open Go.Eng (Asr UpdP TS AllF All)
section
variable {w0 : World} {ν : Nat → Int} {st : Nat → List Value → List (Asr w0.heap.size)} {k n : Nat} {p0 p1 : List Value → Prop} {a1 a2 a3 a4 a5 a6 a7 a8 : List Value → Asr w0.heap.size}
theorem fact_swap {b:Nat} {p q:Prop} {l:List (Asr b)} {w:World} {F:Nat→Prop} (h:All (Eng.fact p::l) w F) (hq:q):All (Eng.fact q::l) w F:=by
 obtain ⟨fs,h1,h2⟩:=h
 refine ⟨fs,⟨fun i A hi=>?_,h1.ap,fun i hi=>h1.no i (by cases i with|zero=>cases hi|succ i=>exact hi)⟩,h2⟩
 cases i with
 | zero =>
  cases hi
  exact ⟨hq,(h1.at_ 0 _ rfl).2⟩
 | succ i=>exact h1.at_ (i+1) A hi
abbrev nmLog:ByteArray:=⟨#[108,111,103]⟩
theorem okFiles {fl:FL} {n0 sz:Nat} (h0:∀ gs,st k gs=[Eng.fact (p0 gs),YdA w0 (gv gs 0) fl n0,a2 gs,a3 gs,a4 gs,a5 gs,a6 gs,a7 gs,a8 gs]) (h1:∀ gs,p0 gs→st (k+1) gs=[Eng.fact (p0 gs),YdA w0 (gv gs 0) fl n0,a2 gs,a3 gs,a4 gs,a5 gs,a6 gs,a7 gs,a8 gs])
  (hp:∀ gs,p0 gs→gs.length=n) (hfl:yFiles fl=[(1,nmLog,(sz:Int))]) (hz:ν 6=sz):(Eng.tFiles k n).Ok Tryz.prog ν st:=by
 intro w gs us fs F ha hA hF hb
 have hA:AllF (st k gs) w fs:=hA
 rw [h0] at hA
 have hq:=(hA.at_ 0 _ rfl).1
 obtain ⟨G,hs,hG⟩:=hA.at_ 1 _ rfl
 match us,ha with
 | [u0],⟨a,_⟩ =>
  rw [gv_at a] at hs
  refine (yd_files hs).mono ?_
  rintro e w' ⟨u,rfl,ho,u'⟩
  rw [hfl] at ho
  obtain ⟨F',r1,r2,r3⟩:=hA.step0 hF (updP0 u')
  have hlt:∀ x,F' x→x < w.heap.size∨w.heap.size≤x:=fun x hx=>Nat.lt_or_ge _ _
  obtain ⟨o1,o2⟩:=ho
  rcases o2 with ⟨rfl,hn⟩|⟨g,cap,cur,rfl,hbg,hg,hc,hm,hcs,ht⟩
  ·simp at hn
  ·refine ⟨_,[],gs,F,rfl,trivial,⟨g,[.int .i64 1,.string nmLog,.int .i64 (sz:Int)],cur.toList.drop 3,cap,rfl,hbg,?_,?_,⟨rfl,rfl,?_,trivial⟩,?_,?_,hm,by omega⟩,?_,?_,updO (updP0 u') (fun _ q=>q.elim),fun x hx => .inl hx⟩
   ·exact (Array.getElem?_eq_some_iff.1 hg).1
   ·intro q
    obtain ⟨i,hi⟩:=(hF g).1 q
    have:=(hA.lt i g hi).2
    omega
   ·show some (Value.int .i64 (0+(1*ν 6+0)))=_
    rw [hz];congr 2;omega
   ·have e:[Value.int .i64 1,.string nmLog,.int .i64 (sz:Int)]=cur.toList.take 3:=ht.symm
    rw [e,List.take_append_drop];simpa using hg
   ·have e:cur.toList.length=cap*3:=by rw [Array.length_toList];exact hcs
    simp only [List.length_cons,List.length_nil,List.length_drop]
    have:1≤cap:=hc
    omega
   ·rw [List.append_nil];exact @mos_ats (Eng.mkVal _ ν st) gs n (hp gs hq)
   ·show All (st (k+1) gs) w' F
    rw [h1 gs hq]
    exact ⟨fs,hA.up (updP0 u') (fun _ _ _ q=>q) (fun _ q=>q.elim),hF⟩
 | [],h=>exact h.elim
 | _::_::_,h=>exact h.2.elim
theorem okRead4 {fl:FL} {n0 at_ m:Nat} {sa sm:Eng.Sel} {len:Eng.Lin} (h0:∀ gs,st k gs=[Eng.fact (p0 gs),YdA w0 (gv gs 0) fl n0,a2 gs,a3 gs,a4 gs,a5 gs,a6 gs,a7 gs,a8 gs])
  (h1:∀ gs u,p0 gs→st (k+1) (gs++[u])=[Eng.fact (p1 (gs++[u])),YdA w0 (gv gs 0) fl (n0+1),a2 gs,a3 gs,byO _ u (((nth fl (below ltY fl 1)).2.2.drop at_).take m),a5 gs,a6 gs,a7 gs,a8 gs])
  (hp:∀ gs,p0 gs→gs.length=n) (hp1:∀ gs u,p0 gs→p1 (gs++[u])) (hin:isIn ltY fl 1=true) (hn0:n0≤1000) (ha:at_≤100000) (hm:m≤100000)
  (hsa:∀ gs v,@Eng.mv (Eng.mkVal w0.heap.size ν st) gs sa v→v = .int .i64 (at_:Int)) (hsm:∀ gs v,@Eng.mv (Eng.mkVal w0.heap.size ν st) gs sm v→v = .int .i64 (m:Int)) (hl:@Eng.Lin.val (Eng.mkVal w0.heap.size ν st) len=(((nth fl (below ltY fl 1)).2.2.drop at_).take m).length):(Eng.tRead k n sa sm len).Ok Tryz.prog ν st:=by
 intro w gs us fs F hargs hA hF hb
 have hA:AllF (st k gs) w fs:=hA
 rw [h0] at hA
 have hq:=(hA.at_ 0 _ rfl).1
 obtain ⟨G,hs,hG⟩:=hA.at_ 1 _ rfl
 match us,hargs with
 | [u0,u1,u2,u3],⟨a,b1,b2,b3,_⟩ =>
  have b1:some (Value.int .i64 1)=some u1:=b1
  cases b1
  have b2:=hsa gs u2 b2
  have b3:=hsm gs u3 b3
  subst b2;subst b3
  rw [gv_at a] at hs
  refine (yd_read hs hn0 (ino:=1) hin (by omega) at_ m ha hm).mono ?_
  rintro e w' ⟨u,rfl,ho,G',s',u',n',ap'⟩
  rw [← gv_at a] at s'
  obtain ⟨F',r1,r2,r3⟩:=hA.step2 hF 1 4 (by omega) (by simp) (by simp [Eng.put]) (A:=YdA w0 (gv gs 0) fl (n0+1)) (B:=byO _ u (((nth fl (below ltY fl 1)).2.2.drop at_).take m)) (f:=fun x=>x∈G') (g:=fun x=>x∈blk u) ⟨G',s',fun _=>Iff.rfl⟩ ⟨ho.base_le hb,fun _=>Iff.rfl⟩
   (updO (updF u' hG) fun x hx => .inl hx) (fun x hx=>(n' x hx).imp (fun q => .inl ((hG x).2 q)) id) (fun x hx => .inr (ho.ge x hx).1) (fun x hx hy=>ap' x hy hx)
  refine ⟨_,[u],gs++[u],F',rfl,⟨?_,trivial⟩,⟨[u,.int .i64 0],rfl,?_,rfl,trivial⟩,?_,?_,r2,r3⟩
  ·obtain ⟨aa,cc,hu,_⟩:=ho.rd
   exact ⟨aa,_,cc,hu,hl.symm⟩
  ·show Eng.nth (gs++[u]) n=some u
   have:=nth_new (hp gs hq) [u] 0
   exact this
  ·exact @mos_ats (Eng.mkVal _ ν st) _ (n+1) (by rw [List.length_append,hp gs hq];rfl)
  ·show All (st (k+1) (gs++[u])) w' F'
   rw [h1 gs u hq]
   exact fact_swap r1 (hp1 gs u hq)
 | [],h=>exact h.elim
 | [_],h=>exact h.2.elim
 | [_,_],h=>exact h.2.2.elim
 | [_,_,_],h=>exact h.2.2.2.elim
 | _::_::_::_::_::_,h=>exact h.2.2.2.2.elim
end
end Go.Proofs.YthgnlfikneipiaaGreat
namespace Go.Proofs.YthgnlfikneipiaaGreat
open Go.RowKit
open Go.Eng (Asr UpdP TS AllF All)
theorem ownN_le {α:Type} {sz:Nat} {c:α→List Value} {base base':Nat} {e:TypeId} {w:World} {v:Value} {l:List α} (h:OwnN sz c base e w v l) (hb:base'≤base):OwnN sz c base' e w v l:=by
 obtain ⟨h1,h2⟩:=h
 refine ⟨h1,?_⟩
 rcases h2 with h2|⟨g,cap,cur,e1,e2,r⟩
 ·exact .inl h2
 ·exact .inr ⟨g,cap,cur,e1,Nat.le_trans hb e2,r⟩
section
variable {w0 : World} {ν : Nat → Int} {st : Nat → List Value → List (Asr w0.heap.size)} {k n : Nat} {p0 p1 : List Value → Prop} {a1 a2 a3 a4 a5 a6 a7 a8 : List Value → Asr w0.heap.size}
theorem okRead7 {fl:FL} {n0 at_ m:Nat} {sa sm:Eng.Sel} {len:Eng.Lin} (h0:∀ gs,st k gs=[Eng.fact (p0 gs),YdA w0 (gv gs 0) fl n0,a2 gs,a3 gs,a4 gs,a5 gs,a6 gs,a7 gs,a8 gs])
  (h1:∀ gs u,p0 gs→st (k+1) (gs++[u])=[Eng.fact (p1 (gs++[u])),YdA w0 (gv gs 0) fl (n0+1),a2 gs,a3 gs,a4 gs,a5 gs,a6 gs,byO _ u (((nth fl (below ltY fl 1)).2.2.drop at_).take m),a8 gs])
  (hp:∀ gs,p0 gs→gs.length=n) (hp1:∀ gs u,p0 gs→p1 (gs++[u])) (hin:isIn ltY fl 1=true) (hn0:n0≤1000) (ha:at_≤100000) (hm:m≤100000)
  (hsa:∀ gs v,@Eng.mv (Eng.mkVal w0.heap.size ν st) gs sa v→v = .int .i64 (at_:Int)) (hsm:∀ gs v,@Eng.mv (Eng.mkVal w0.heap.size ν st) gs sm v→v = .int .i64 (m:Int)) (hl:@Eng.Lin.val (Eng.mkVal w0.heap.size ν st) len=(((nth fl (below ltY fl 1)).2.2.drop at_).take m).length):(Eng.tRead k n sa sm len).Ok Tryz.prog ν st:=by
 intro w gs us fs F hargs hA hF hb
 have hA:AllF (st k gs) w fs:=hA
 rw [h0] at hA
 have hq:=(hA.at_ 0 _ rfl).1
 obtain ⟨G,hs,hG⟩:=hA.at_ 1 _ rfl
 match us,hargs with
 | [u0,u1,u2,u3],⟨a,b1,b2,b3,_⟩ =>
  have b1:some (Value.int .i64 1)=some u1:=b1
  cases b1
  have b2:=hsa gs u2 b2
  have b3:=hsm gs u3 b3
  subst b2;subst b3
  rw [gv_at a] at hs
  refine (yd_read hs hn0 (ino:=1) hin (by omega) at_ m ha hm).mono ?_
  rintro e w' ⟨u,rfl,ho,G',s',u',n',ap'⟩
  rw [← gv_at a] at s'
  obtain ⟨F',r1,r2,r3⟩:=hA.step2 hF 1 7 (by omega) (by simp) (by simp [Eng.put]) (A:=YdA w0 (gv gs 0) fl (n0+1)) (B:=byO _ u (((nth fl (below ltY fl 1)).2.2.drop at_).take m)) (f:=fun x=>x∈G') (g:=fun x=>x∈blk u) ⟨G',s',fun _=>Iff.rfl⟩ ⟨ho.base_le hb,fun _=>Iff.rfl⟩
   (updO (updF u' hG) fun x hx => .inl hx) (fun x hx=>(n' x hx).imp (fun q => .inl ((hG x).2 q)) id) (fun x hx => .inr (ho.ge x hx).1) (fun x hx hy=>ap' x hy hx)
  refine ⟨_,[u],gs++[u],F',rfl,⟨?_,trivial⟩,⟨[u,.int .i64 0],rfl,?_,rfl,trivial⟩,?_,?_,r2,r3⟩
  ·obtain ⟨aa,cc,hu,_⟩:=ho.rd
   exact ⟨aa,_,cc,hu,hl.symm⟩
  ·show Eng.nth (gs++[u]) n=some u
   have:=nth_new (hp gs hq) [u] 0
   exact this
  ·exact @mos_ats (Eng.mkVal _ ν st) _ (n+1) (by rw [List.length_append,hp gs hq];rfl)
  ·show All (st (k+1) (gs++[u])) w' F'
   rw [h1 gs u hq]
   exact fact_swap r1 (hp1 gs u hq)
 | [],h=>exact h.elim
 | [_],h=>exact h.2.elim
 | [_,_],h=>exact h.2.2.elim
 | [_,_,_],h=>exact h.2.2.2.elim
 | _::_::_::_::_::_,h=>exact h.2.2.2.2.elim
theorem okSNew (h0:∀ gs,st k gs=[Eng.fact (p0 gs),a1 gs,a2 gs,rulesA _ (gv gs 4),a4 gs,a5 gs,a6 gs,a7 gs,a8 gs]) (h1:∀ gs u,p0 gs→st (k+1) (gs++[u])=[Eng.fact (p1 (gs++[u])),a1 gs,a2 gs,rulesA _ (gv gs 4),a4 gs,strmA _ (gv gs 4) u 0 0,a6 gs,a7 gs,a8 gs])
  (hp:∀ gs,p0 gs→gs.length=n) (hp1:∀ gs u,p0 gs→p1 (gs++[u])):(Eng.tSNew k n).Ok Tryz.prog ν st:=by
 intro w gs us fs F hargs hA hF hb
 have hA:AllF (st k gs) w fs:=hA
 rw [h0] at hA
 have hq:=(hA.at_ 0 _ rfl).1
 have hr:=hA.at_ 3 _ rfl
 match us,hargs with
 | [u0],⟨a,_⟩ =>
  rw [gv_at a] at hr
  refine (str_new hr hb).mono ?_
  rintro e w' ⟨vx,F1,F2,rfl,hx,g1,g2,g3,g4,g5,g6⟩
  rw [← gv_at a] at g1 g2
  obtain ⟨F',r1,r2,r3⟩:=hA.step2 hF 3 5 (by omega) (by simp) (by simp [Eng.put]) g1 g2 (updO g4 fun x hx => .inl hx) (fun x hx=>(g5 x hx).imp .inl id) (fun x hx=>(g6 x hx).imp .inl id) g3
  refine ⟨_,[vx],gs++[vx],F',rfl,⟨hx,trivial⟩,⟨[vx,.int .i64 0],rfl,?_,rfl,trivial⟩,?_,?_,r2,r3⟩
  ·exact nth_new (hp gs hq) [vx] 0
  ·exact @mos_ats (Eng.mkVal _ ν st) _ (n+1) (by rw [List.length_append,hp gs hq];rfl)
  ·show All (st (k+1) (gs++[vx])) w' F'
   rw [h1 gs vx hq]
   exact fact_swap r1 (hp1 gs vx hq)
 | [],h=>exact h.elim
 | _::_::_,h=>exact h.2.elim
theorem okState0 {x:Nat} (h0:∀ gs,st k gs=[Eng.fact (p0 gs),a1 gs,a2 gs,a3 gs,a4 gs,strmA _ (gv gs 4) (gv gs x) 0 0,a6 gs,a7 gs,a8 gs]) (h1:∀ gs u,p0 gs→st (k+1) (gs++[u])=[Eng.fact (p1 (gs++[u])),a1 gs,a2 gs,a3 gs,a4 gs,strmA _ (gv gs 4) (gv gs x) 0 0,svT _ u 0,a7 gs,a8 gs])
  (hp:∀ gs,p0 gs→gs.length=n) (hp1:∀ gs u,p0 gs→p1 (gs++[u])) (hone:∀ b w F u m,(svT b u m).P w F→u.oneCell'=true):(Eng.tState0 k n x).Ok Tryz.prog ν st:=by
 intro w gs us fs F hargs hA hF hb
 have hA:AllF (st k gs) w fs:=hA
 rw [h0] at hA
 have hq:=(hA.at_ 0 _ rfl).1
 have hr:=hA.at_ 5 _ rfl
 match us,hargs with
 | [u0],⟨a,_⟩ =>
  rw [gv_at a] at hr
  refine (str_state hr hb (by omega)).mono ?_
  rintro e w' ⟨ls,F1,F2,rfl,g1,g2,g3,g4,g5,g6⟩
  have hls:=hone _ _ _ _ _ g2
  rw [← gv_at a] at g1
  obtain ⟨F',r1,r2,r3⟩:=hA.step2 hF 5 6 (by omega) (by simp) (by simp [Eng.put]) g1 g2 (updO g4 fun x hx => .inl hx) (fun x hx=>(g5 x hx).imp .inl id) (fun x hx=>(g6 x hx).imp .inl id) g3
  refine ⟨_,[ls],gs++[ls],F',rfl,⟨hls,trivial⟩,⟨svVal 0 0 ls,rfl,rfl,rfl,rfl,rfl,rfl,rfl,rfl,rfl,rfl,rfl,rfl,rfl,?_,rfl,rfl,rfl,trivial⟩,?_,?_,r2,r3⟩
  ·exact nth_new (hp gs hq) [ls] 0
  ·exact @mos_ats (Eng.mkVal _ ν st) _ (n+1) (by rw [List.length_append,hp gs hq];rfl)
  ·show All (st (k+1) (gs++[ls])) w' F'
   rw [h1 gs ls hq]
   exact fact_swap r1 (hp1 gs ls hq)
 | [],h=>exact h.elim
 | _::_::_,h=>exact h.2.elim
theorem okState {x line m:Nat} (h0:∀ gs,st k gs=[Eng.fact (p0 gs),a1 gs,a2 gs,a3 gs,a4 gs,strmA _ (gv gs 4) (gv gs x) line m,a6 gs,a7 gs,a8 gs]) (h1:∀ gs u v,p0 gs→st (k+1) (gs++[u,v])=[Eng.fact (p1 (gs++[u,v])),a1 gs,a2 gs,a3 gs,a4 gs,strmA _ (gv gs 4) (gv gs x) line m,svT _ u m,a7 gs,a8 gs])
  (hp:∀ gs,p0 gs→gs.length=n) (hp1:∀ gs u,p0 gs→p1 (gs++[u,.bool (decide (200 < m))])) (hone:∀ b w F u m,(svT b u m).P w F→u.oneCell'=true) (hl:line+m≤1000000) (e7:ν 7=(line+m:Nat)) (e8:ν 8=line) (e9:ν 9=(plN m:Nat)):(Eng.tState k n x).Ok Tryz.prog ν st:=by
 intro w gs us fs F hargs hA hF hb
 have hA:AllF (st k gs) w fs:=hA
 rw [h0] at hA
 have hq:=(hA.at_ 0 _ rfl).1
 have hr:=hA.at_ 5 _ rfl
 match us,hargs with
 | [u0],⟨a,_⟩ =>
  rw [gv_at a] at hr
  refine (str_state hr hb hl).mono ?_
  rintro e w' ⟨ls,F1,F2,rfl,g1,g2,g3,g4,g5,g6⟩
  have hls:=hone _ _ _ _ _ g2
  rw [← gv_at a] at g1
  obtain ⟨F',r1,r2,r3⟩:=hA.step2 hF 5 6 (by omega) (by simp) (by simp [Eng.put]) g1 g2 (updO g4 fun x hx => .inl hx) (fun x hx=>(g5 x hx).imp .inl id) (fun x hx=>(g6 x hx).imp .inl id) g3
  refine ⟨_,[ls,.bool (decide (200 < m))],gs++[ls,.bool (decide (200 < m))],F',rfl,⟨hls,rfl,trivial⟩,⟨svVal line m ls,rfl,?_,?_,?_,rfl,rfl,rfl,rfl,rfl,rfl,rfl,rfl,?_,?_,rfl,rfl,rfl,trivial⟩,?_,?_,r2,r3⟩
  ·show some (Value.int .i64 (0+(1*ν 7+0)))=_
   rw [e7];congr 2;omega
  ·show some (Value.int .i64 (0+(1*ν 8+0)))=_
   rw [e8];congr 2;omega
  ·exact nth_new (hp gs hq) [ls,.bool (decide (200 < m))] 1
  ·show some (Value.int .i64 (0+(1*ν 9+0)))=_
   rw [e9];congr 2;omega
  ·exact nth_new (hp gs hq) [ls,.bool (decide (200 < m))] 0
  ·exact @mos_ats (Eng.mkVal _ ν st) _ (n+2) (by rw [List.length_append,hp gs hq];rfl)
  ·show All (st (k+1) (gs++[ls,.bool (decide (200 < m))])) w' F'
   rw [h1 gs _ _ hq]
   exact fact_swap r1 (hp1 gs ls hq)
 | [],h=>exact h.elim
 | _::_::_,h=>exact h.2.elim
theorem okFeed {x bb line m:Nat} {l:List UInt8} (h0:∀ gs,st k gs=[Eng.fact (p0 gs),a1 gs,a2 gs,a3 gs,a4 gs,strmA _ (gv gs 4) (gv gs x) line m,a6 gs,byO _ (gv gs bb) l,a8 gs])
  (h1:∀ gs u,p0 gs→st (k+1) (gs++[u])=[Eng.fact (p1 (gs++[u])),a1 gs,a2 gs,a3 gs,a4 gs,strmA _ (gv gs 4) (gv gs x) (feedL line m l).1.1 (feedL line m l).1.2,a6 gs,byO _ (gv gs bb) l,fdO _ u (feedL line m l).2])
  (hp:∀ gs,p0 gs→gs.length=n) (hp1:∀ gs u,p0 gs→p1 (gs++[u])) (hl:line+m+l.length≤900000) (hc:∀ c∈l,c=121∨c=10):(Eng.tFeed k n x bb).Ok Tryz.prog ν st:=by
 intro w gs us fs F hargs hA hF hb
 have hA:AllF (st k gs) w fs:=hA
 rw [h0] at hA
 have hq:=(hA.at_ 0 _ rfl).1
 have hr:=hA.at_ 5 _ rfl
 obtain ⟨ho,hG⟩:=hA.at_ 7 _ rfl
 match us,hargs with
 | [u0,u1],⟨a,b1,_⟩ =>
  have b1:Eng.nth gs bb=some u1:=b1
  rw [gv_at a] at hr
  rw [gv_at b1] at ho hG
  refine (str_feed hr hb ho.rd (fun y hy hq=>by have:=hA.ap 7 5 y ((hG y).2 hy) hq;omega) (fun y hy=>(ho.ge y hy).2) hl hc).mono ?_
  rintro e w' ⟨out,F2,rfl,g1,g2,g3,g4,g5⟩
  rw [← gv_at a] at g2
  have hone:out.oneCell'=true:=by
   rcases g1.2 with ⟨rfl,_⟩|⟨g,cap,cur,rfl,_⟩<;>rfl
  obtain ⟨F',r1,r2,r3⟩:=hA.step2 hF 5 8 (by omega) (by simp) (by simp [Eng.put]) (B:=fdO _ out (feedL line m l).2) (g:=fun y=>y∈blk out) g2 ⟨ownN_le g1 hb,fun _=>Iff.rfl⟩ (updO g3 fun x hx => .inl hx) (fun x hx=>(g4 x hx).imp .inl id) (fun y hy => .inr (g1.ge y hy).1) (fun y hy hq=>g5 y hq hy)
  refine ⟨_,[out],gs++[out],F',rfl,⟨hone,trivial⟩,?_,?_,?_,r2,r3⟩
  ·exact nth_new (hp gs hq) [out] 0
  ·exact @mos_ats (Eng.mkVal _ ν st) _ (n+1) (by rw [List.length_append,hp gs hq];rfl)
  ·show All (st (k+1) (gs++[out])) w' F'
   rw [h1 gs out hq]
   exact fact_swap r1 (hp1 gs out hq)
 | [],h=>exact h.elim
 | [_],h=>exact h.2.elim
 | _::_::_::_,h=>exact h.2.2.elim
end
end Go.Proofs.YthgnlfikneipiaaGreat
namespace Go.Proofs.YthgnlfikneipiaaGreat
open Go.RowKit
open Go.Eng (Asr UpdP TS AllF All)
theorem st_mono {w0 w:World} {vd vl vj:Value} {rl:List Rec} {n k n' k':Nat} {G:List Nat} (h:StQ w0 vd vl vj rl n k w G) (h1:n≤n') (h2:k≤k'):StQ w0 vd vl vj rl n' k' w G:=by
 obtain ⟨gd,gl,gj,F,D,K,s,js,e1,e2,e3,e4,e5,e6,e7,e8⟩:=h
 exact ⟨gd,gl,gj,F,D,K,s,js,e1,e2,e3,e4,e5,e6,⟨e7.ok,Nat.le_trans e7.tot h1,Nat.le_trans e7.num h2,by have:=e7.log;omega⟩,e8⟩
section
variable {w0 : World} {ν : Nat → Int} {st : Nat → List Value → List (Asr w0.heap.size)} {k n : Nat} {p0 p1 : List Value → Prop} {a1 a2 a3 a4 a5 a6 a7 a8 : List Value → Asr w0.heap.size}
theorem okOf {line m li:Nat} {sv:List Eng.Sel} (h0:∀ gs,st k gs=[Eng.fact (p0 gs),a1 gs,a2 gs,rulesA _ (gv gs 4),a4 gs,a5 gs,svT _ (gv gs li) m,a7 gs,a8 gs]) (h1:∀ gs u,p0 gs→st (k+1) (gs++[u])=[Eng.fact (p1 (gs++[u])),a1 gs,a2 gs,rulesA _ (gv gs 4),a4 gs,strmA _ (gv gs 4) u line m,svT _ (gv gs li) m,a7 gs,a8 gs])
  (hp:∀ gs,p0 gs→gs.length=n) (hp1:∀ gs u,p0 gs→p1 (gs++[u])) (hl:line+m≤1000000) (hsv:∀ gs us,p0 gs→@Eng.mvs (Eng.mkVal w0.heap.size ν st) gs sv us→us=svVal line m (gv gs li)):(Eng.tOf k n sv).Ok Tryz.prog ν st:=by
 intro w gs us fs F hargs hA hF hb
 have hA:AllF (st k gs) w fs:=hA
 rw [h0] at hA
 have hq:=(hA.at_ 0 _ rfl).1
 have hr:=hA.at_ 3 _ rfl
 have hv:=hA.at_ 6 _ rfl
 match us,hargs with
 | [u0,u1],⟨a,⟨vs,hu1,hvs⟩,_⟩ =>
  have hvs:=hsv gs vs hq hvs
  subst hvs
  subst hu1
  rw [gv_at a] at hr
  refine (str_of hr hv (fun x h3 h6=>by have:=hA.ap 3 6 x h3 h6;omega) hb hl).mono ?_
  rintro e w' ⟨vx,F1,F3,F4,rfl,hx,g1,g2,g3,d1,d2,d3,g4,g5,g6,g7⟩
  rw [← gv_at a] at g1 g3
  obtain ⟨F',r1,r2,r3⟩:=hA.stepN hF [(3,rulesA _ (gv gs 4),F1),(6,svT _ (gv gs li) m,F3),(5,strmA _ (gv gs 4) vx line m,F4)] (l':=[Eng.fact (p0 gs),a1 gs,a2 gs,rulesA _ (gv gs 4),a4 gs,strmA _ (gv gs 4) vx line m,svT _ (gv gs li) m,a7 gs,a8 gs]) (fun x=>fs 3 x∨fs 6 x) (fun j=>by
   match j with
   | 0=>rfl
   | 1=>rfl
   | 2=>rfl
   | 3=>rfl
   | 4=>rfl
   | 5=>rfl
   | 6=>rfl
   | 7=>rfl
   | 8=>rfl
   | _+9=>rfl)
   (fun p hp=>by
    simp only [List.mem_cons,List.not_mem_nil,or_false] at hp
    rcases hp with rfl|rfl|rfl
    ·exact g1
    ·exact g2
    ·exact g3) g4 (fun x hx=>hx.elim (fun q=>⟨_,List.mem_cons_self ..,q⟩) (fun q=>⟨_,List.mem_cons_of_mem _ (List.mem_cons_self ..),q⟩))
   (fun p hp x hx=>by
    simp only [List.mem_cons,List.not_mem_nil,or_false] at hp
    rcases hp with rfl|rfl|rfl
    ·exact g5 x hx
    ·exact g6 x hx
    ·exact g7 x hx)
   (fun p hp q hq x hx hy=>by
    simp only [List.mem_cons,List.not_mem_nil,or_false] at hp hq
    rcases hp with rfl|rfl|rfl<;>rcases hq with rfl|rfl|rfl<;>first
     | rfl
     | exact absurd hy (d1 x hx)
     | exact absurd hx (d1 x hy)
     | exact absurd hy (d2 x hx)
     | exact absurd hx (d2 x hy)
     | exact absurd hy (d3 x hx)
     | exact absurd hx (d3 x hy))
  refine ⟨_,[vx],gs++[vx],F',rfl,⟨hx,trivial⟩,⟨[vx,.int .i64 0],rfl,?_,rfl,trivial⟩,?_,?_,r2,r3⟩
  ·exact nth_new (hp gs hq) [vx] 0
  ·exact @mos_ats (Eng.mkVal _ ν st) _ (n+1) (by rw [List.length_append,hp gs hq];rfl)
  ·show All (st (k+1) (gs++[vx])) w' F'
   rw [h1 gs vx hq]
   exact fact_swap r1 (hp1 gs vx hq)
 | [],h=>exact h.elim
 | [_],h=>exact h.2.elim
 | _::_::_::_,h=>exact h.2.2.elim
theorem okEnc {line m li gi:Nat} {hl hs:Int} (h0:∀ gs,st k gs=[Eng.fact (p0 gs),a1 gs,a2 gs,rulesA _ (gv gs 4),a4 gs,a5 gs,svT _ (gv gs li) m,a7 gs,a8 gs]) (h1:∀ gs u,p0 gs→st (k+1) (gs++[u])=[Eng.fact (p1 (gs++[u])),a1 gs,a2 gs,rulesA _ (gv gs 4),a4 gs,a5 gs,svT _ (gv gs li) m,Eng.emp,a8 gs])
  (hp:∀ gs,p0 gs→gs.length=n) (hp1:∀ gs str,p0 gs→1≤str.size→str.size≤900→p1 (gs++[.string str])) (hlm:line+m≤1000000) (hg:∀ gs,p0 gs→gv gs gi = .bool (decide (200 < m))) (e2:ν 2=hl) (e3:ν 3=hs) (e7:ν 7=(line+m:Nat)) (e8:ν 8=line) (e9:ν 9=(plN m:Nat)) (b2:0≤hl∧hl≤16) (b3:0≤hs∧hs≤4294967295):(Eng.tEnc k n li gi).Ok Tryz.prog ν st:=by
 intro w gs us fs F hargs hA hF hb
 have hA:AllF (st k gs) w fs:=hA
 rw [h0] at hA
 have hq:=(hA.at_ 0 _ rfl).1
 have hr:=hA.at_ 3 _ rfl
 have hv:=hA.at_ 6 _ rfl
 match us,hargs with
 | [u0,u1],⟨a,⟨vs,hu1,hvs⟩,_⟩ =>
  have hvs:vs=ptVal 1 1 hl hs (svVal line m (gv gs li)):=by
   simp only [Eng.ptS,Eng.svS] at hvs
   match vs,hvs with
   | [x0,x1,x2,x3,x4,x5,x6,x7,x8,x9,x10,x11,x12,x13,x14,x15,x16,x17,x18,x19,x20],⟨c0,c1,c2,c3,c4,c5,c6,c7,c8,c9,c10,c11,c12,c13,c14,c15,c16,c17,c18,c19,c20,_⟩ =>
    have c3:some (Value.int .i64 (0+(1*ν 2+0)))=some x3:=c3
    have c4:some (Value.int .u32 (0+(1*ν 3+0)))=some x4:=c4
    have c5:some (Value.int .i64 (0+(1*ν 7+0)))=some x5:=c5
    have c6:some (Value.int .i64 (0+(1*ν 8+0)))=some x6:=c6
    have c16:some (Value.int .i64 (0+(1*ν 9+0)))=some x16:=c16
    have c7:=gv_at (show Eng.nth gs gi=some x7 from c7)
    have c17:=gv_at (show Eng.nth gs li=some x17 from c17)
    rw [hg gs hq] at c7
    rw [show (0+(1*ν 2+0):Int)=hl by omega] at c3
    rw [show (0+(1*ν 3+0):Int)=hs by omega] at c4
    rw [show (0+(1*ν 7+0):Int)=(line+m:Nat) by omega] at c5
    rw [show (0+(1*ν 8+0):Int)=line by omega] at c6
    rw [show (0+(1*ν 9+0):Int)=(plN m:Nat) by omega] at c16
    cases c0;cases c1;cases c2;cases c3;cases c4;cases c5;cases c6;cases c8;cases c9;cases c10;cases c11;cases c12;cases c13;cases c14;cases c15;cases c16;cases c18;cases c19;cases c20
    rw [← c7,c17]
    rfl
  subst hvs
  subst hu1
  rw [gv_at a] at hr
  refine (enc_any hr hv (fun x h3 h6=>by have:=hA.ap 3 6 x h3 h6;omega) hb hlm b2 b3 (by omega) (by omega)).mono ?_
  rintro e w' ⟨str,F1,F3,rfl,s1,s2,g1,g2,d1,g4,g5,g6⟩
  rw [← gv_at a] at g1
  obtain ⟨F',r1,r2,r3⟩:=hA.stepN hF [(3,rulesA _ (gv gs 4),F1),(6,svT _ (gv gs li) m,F3),(7,Eng.emp,fun _=>False)] (l':=[Eng.fact (p0 gs),a1 gs,a2 gs,rulesA _ (gv gs 4),a4 gs,a5 gs,svT _ (gv gs li) m,Eng.emp,a8 gs]) (fun x=>fs 3 x∨fs 6 x) (fun j=>by
   match j with
   | 0=>rfl
   | 1=>rfl
   | 2=>rfl
   | 3=>rfl
   | 4=>rfl
   | 5=>rfl
   | 6=>rfl
   | 7=>rfl
   | 8=>rfl
   | _+9=>rfl)
   (fun p hp=>by
    simp only [List.mem_cons,List.not_mem_nil,or_false] at hp
    rcases hp with rfl|rfl|rfl
    ·exact g1
    ·exact g2
    ·exact fun x q=>q) g4 (fun x hx=>hx.elim (fun q=>⟨_,List.mem_cons_self ..,q⟩) (fun q=>⟨_,List.mem_cons_of_mem _ (List.mem_cons_self ..),q⟩))
   (fun p hp x hx=>by
    simp only [List.mem_cons,List.not_mem_nil,or_false] at hp
    rcases hp with rfl|rfl|rfl
    ·exact g5 x hx
    ·exact g6 x hx
    ·exact hx.elim)
   (fun p hp q hq x hx hy=>by
    simp only [List.mem_cons,List.not_mem_nil,or_false] at hp hq
    rcases hp with rfl|rfl|rfl<;>rcases hq with rfl|rfl|rfl<;>first
     | rfl
     | exact absurd hy (d1 x hx)
     | exact absurd hx (d1 x hy)
     | exact hx.elim
     | exact hy.elim)
  refine ⟨_,[.string str],gs++[.string str],F',rfl,⟨rfl,trivial⟩,?_,?_,?_,r2,r3⟩
  ·exact nth_new (hp gs hq) [.string str] 0
  ·exact @mos_ats (Eng.mkVal _ ν st) _ (n+1) (by rw [List.length_append,hp gs hq];rfl)
  ·show All (st (k+1) (gs++[.string str])) w' F'
   rw [h1 gs _ hq]
   exact fact_swap r1 (hp1 gs str hq s1 s2)
 | [],h=>exact h.elim
 | [_],h=>exact h.2.elim
 | _::_::_::_,h=>exact h.2.2.elim
theorem okSet {si N K:Nat} {rl:List Rec} {keep:List Eng.Sel} {kp:List Value→List Value} (h0:∀ gs,st k gs=[Eng.fact (p0 gs),a1 gs,StA w0 (gv gs 1) (gv gs 2) (gv gs 3) rl N K,a3 gs,a4 gs,a5 gs,a6 gs,a7 gs,a8 gs]) (h1:∀ gs,p0 gs→st (k+1) (kp gs)=[Eng.fact (p1 (kp gs)),a1 gs,StA w0 (gv gs 1) (gv gs 2) (gv gs 3) rl (N+938) (K+1),a3 gs,Eng.emp,Eng.emp,a6 gs,Eng.emp,Eng.emp])
  (hp1:∀ gs,p0 gs→p1 (kp gs)) (hk:∀ gs,p0 gs→@Eng.mos (Eng.mkVal w0.heap.size ν st) gs keep (kp gs)) (hs:∀ gs,p0 gs→∃ str,gv gs si = .string str∧str.size≤900) (hK:K≤4000) (hN:N+938≤262144):(Eng.tSet k n 190 si keep).Ok Tryz.prog ν st:=by
 intro w gs us fs F hargs hA hF hb
 have hA:AllF (st k gs) w fs:=hA
 rw [h0] at hA
 have hq:=(hA.at_ 0 _ rfl).1
 obtain ⟨G,hst,hG⟩:=hA.at_ 2 _ rfl
 match us,hargs with
 | [u0,u1],⟨a,⟨g,vs,hu1,hvs,hkn⟩,_⟩ =>
  match vs,hvs with
  | [x0,x1],⟨c0,c1,_⟩ =>
   have c0:some (Value.int .i64 1)=some x0:=c0
   cases c0
   have c1:=gv_at (show Eng.nth gs si=some x1 from c1)
   obtain ⟨str,hstr,hsz⟩:=hs gs hq
   rw [c1] at hstr
   subst hstr
   subst hu1
   rw [gv_at a] at hst
   have hrd:RdN 2 chCells w (.slice (some ⟨g,0,none⟩) 1 1) [((1:Int),str)]:=by
    refine ⟨_,1,rfl,by simp,by simp [maxLen],fun _=>⟨g,0,rfl,fun j hj i hi=>?_⟩⟩
    have hj0:j=0:=by simpa using hj
    subst hj0
    rw [Nat.zero_mul,Nat.zero_add,Nat.zero_add,cell_of_row w g i _ _ (0,0) hkn.1]
    match i,hi with
    | 0,_=>rfl
    | 1,_=>rfl
   refine (st_set hst ((1:Int),str) hrd (fun x hx hq=>?_) (by simp) (by dsimp only;omega) hK (by dsimp only;omega)).mono ?_
   ·simp [blk] at hx
    subst hx
    exact hkn.2.1 ((hF x).2 ⟨2,(hG x).2 hq⟩)
   ·rintro e w' ⟨rfl,G',s',u',n'⟩
    have s':=st_mono s' (show N+str.size+38≤N+938 by omega) (Nat.le_refl _)
    rw [← gv_at a] at s'
    obtain ⟨F',r1,r2,r3⟩:=hA.stepN hF [(2,StA w0 (gv gs 1) (gv gs 2) (gv gs 3) rl (N+938) (K+1),fun x=>x∈G'),(4,Eng.emp,fun _=>False),(5,Eng.emp,fun _=>False),(7,Eng.emp,fun _=>False),(8,Eng.emp,fun _=>False)] (l':=[Eng.fact (p0 gs),a1 gs,StA w0 (gv gs 1) (gv gs 2) (gv gs 3) rl (N+938) (K+1),a3 gs,Eng.emp,Eng.emp,a6 gs,Eng.emp,Eng.emp]) (fun x=>fs 2 x) (fun j=>by
   match j with
   | 0=>rfl
   | 1=>rfl
   | 2=>rfl
   | 3=>rfl
   | 4=>rfl
   | 5=>rfl
   | 6=>rfl
   | 7=>rfl
   | 8=>rfl
   | _+9=>rfl)
     (fun p hp=>by
      simp only [List.mem_cons,List.not_mem_nil,or_false] at hp
      rcases hp with rfl|rfl|rfl|rfl|rfl
      ·exact ⟨G',s',fun _=>Iff.rfl⟩
      ·exact fun x q=>q
      ·exact fun x q=>q
      ·exact fun x q=>q
      ·exact fun x q=>q) (updF u' hG) (fun x hx=>⟨_,List.mem_cons_self ..,hx⟩)
     (fun p hp x hx=>by
      simp only [List.mem_cons,List.not_mem_nil,or_false] at hp
      rcases hp with rfl|rfl|rfl|rfl|rfl
      ·exact (n' x hx).imp (hG x).2 id
      ·exact hx.elim
      ·exact hx.elim
      ·exact hx.elim
      ·exact hx.elim)
     (fun p hp q hq x hx hy=>by
      simp only [List.mem_cons,List.not_mem_nil,or_false] at hp hq
      rcases hp with rfl|rfl|rfl|rfl|rfl<;>rcases hq with rfl|rfl|rfl|rfl|rfl<;>first
       | rfl
       | exact hx.elim
       | exact hy.elim)
    refine ⟨_,[],kp gs,F',rfl,trivial,rfl,?_,?_,r2,r3⟩
    ·rw [List.append_nil];exact hk gs hq
    ·show All (st (k+1) (kp gs)) w' F'
     rw [h1 gs hq]
     exact fact_swap r1 (hp1 gs hq)
  | [],h=>exact h.elim
  | [_],h=>exact h.2.elim
  | _::_::_::_,h=>exact h.2.2.elim
 | [],h=>exact h.elim
 | [_],h=>exact h.2.elim
 | _::_::_::_,h=>exact h.2.2.elim
theorem okAdd {li N K:Nat} {rl:List Rec} {fds:List Fd} (h0:∀ gs,st k gs=[Eng.fact (p0 gs),a1 gs,StA w0 (gv gs 1) (gv gs 2) (gv gs 3) rl N K,rulesA _ (gv gs 4),a4 gs,a5 gs,a6 gs,a7 gs,fdO _ (gv gs li) fds])
  (h1:∀ gs,p0 gs→st (k+1) gs=[Eng.fact (p0 gs),a1 gs,StA w0 (gv gs 1) (gv gs 2) (gv gs 3) (rl++fds.map (recF 1 1)) (N+208*fds.length) (K+fds.length),rulesA _ (gv gs 4),a4 gs,a5 gs,a6 gs,a7 gs,fdO _ (gv gs li) fds])
  (hp:∀ gs,p0 gs→gs.length=n) (hok:AddOk 1 1 rl fds) (hK:K+fds.length≤4000) (hN:N+208*fds.length≤262000) (hl:rl.length+fds.length≤90000000):(Eng.tAdd k n li).Ok Tryz.prog ν st:=by
 intro w gs us fs F hargs hA hF hb
 have hA:AllF (st k gs) w fs:=hA
 rw [h0] at hA
 have hq:=(hA.at_ 0 _ rfl).1
 obtain ⟨G,hst,hG⟩:=hA.at_ 2 _ rfl
 have hr:=hA.at_ 3 _ rfl
 obtain ⟨ho,hO⟩:=hA.at_ 8 _ rfl
 match us,hargs with
 | [u0,u1,u2],⟨⟨gf,ws,hu0,hws,hkn⟩,⟨vs,hu1,hvs⟩,c2,_⟩ =>
  match ws,hws with
  | [y0,y1,y2,y3,y4,y5],⟨d0,d1,d2,d3,d4,d5,_⟩ =>
   match vs,hvs with
   | x0::x1::x2::ps,⟨c0,c1,c3,_⟩ =>
    have c1:some (Value.int .i64 1)=some x1:=c1
    have c3:some (Value.int .i64 1)=some x2:=c3
    cases c1;cases c3
    subst hu0
    subst hu1
    rw [gv_at d1] at hr
    rw [gv_at c2] at ho hO
    rw [gv_at d2,gv_at d3] at hst
    obtain ⟨gr,g2,cr,rfl,f1,f2,hnm⟩:=rules_nm hr
    have hlv:∃ g,y2 = .pointer (some ⟨g,0,none⟩):=by
     obtain ⟨gd,gl,gj,F,D,K,s,js,e1,e2,e3,_⟩:=hst
     exact ⟨gl,e2⟩
    refine (fAdd_any hst hkn.1 hnm (ho.rd fdCells_len) (fun q=>hkn.2.1 ((hF _).2 ⟨2,(hG _).2 q⟩)) (fun q=>by have:=hA.ap 2 3 _ ((hG _).2 q) f1;omega) (fun q=>by have:=hA.ap 2 3 _ ((hG _).2 q) f2;omega) (fun x hx q=>by have:=hA.ap 2 8 _ ((hG _).2 q) ((hO _).2 hx);omega) hlv hb hok hK hN hl).mono ?_
    rintro e w' ⟨rfl,G',s',u',n'⟩
    rw [← gv_at d2,← gv_at d3] at s'
    obtain ⟨F',r1,r2,r3⟩:=hA.step1 hF 2 (by simp) (A:=StA w0 (gv gs 1) (gv gs 2) (gv gs 3) (rl++fds.map (recF 1 1)) (N+208*fds.length) (K+fds.length)) (f:=fun x=>x∈G') ⟨G',s',fun _=>Iff.rfl⟩ (updF u' hG) (fun x hx=>(n' x hx).imp (hG x).2 id)
    refine ⟨_,[],gs,F',rfl,trivial,rfl,?_,?_,r2,r3⟩
    ·rw [List.append_nil];exact @mos_ats (Eng.mkVal _ ν st) gs n (hp gs hq)
    ·show All (st (k+1) gs) w' F'
     rw [h1 gs hq];exact r1
   | [],h=>exact h.elim
   | [_],h=>exact h.2.elim
   | [_,_],h=>exact h.2.2.elim
  | [],h=>exact h.elim
  | [_],h=>exact h.2.elim
  | [_,_],h=>exact h.2.2.elim
  | [_,_,_],h=>exact h.2.2.2.elim
  | [_,_,_,_],h=>exact h.2.2.2.2.elim
  | [_,_,_,_,_],h=>exact h.2.2.2.2.2.elim
  | _::_::_::_::_::_::_::_,h=>exact h.2.2.2.2.2.2.elim
 | [],h=>exact h.elim
 | [_],h=>exact h.2.elim
 | [_,_],h=>exact h.2.2.elim
 | _::_::_::_::_,h=>exact h.2.2.2.elim
end
end Go.Proofs.YthgnlfikneipiaaGreat
