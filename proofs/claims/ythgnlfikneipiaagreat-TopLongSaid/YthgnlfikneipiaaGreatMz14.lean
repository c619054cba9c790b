/- Texts of the proof, joined. -/
import Derived.Test.YthgnlfikneipiaaGreatMz4
import Derived.Test.YthgnlfikneipiaaGreatMz5
import Derived.Test.YthgnlfikneipiaaGreatMz13
import Derived.Test.YthgnlfikneipiaaGreatMz7
import Derived.Deep.MidRow
import Derived.Test.YthgnlfikneipiaaGreatMz11
import Derived.Deep.CutRange
import Derived.Test.YthgnlfikneipiaaGreatMz9
set_option linter.unusedSimpArgs false
set_option linter.unusedVariables false
set_option linter.unusedSectionVars false
namespace Go.Eng
set_option maxRecDepth 100000
theorem none_e:callP (EB []) 200 9 [] [] 1 (.agg (List.replicate 10 (i6 (-1)))) []=true:=by kernel_rfl
end Go.Eng
namespace Go.Proofs.YthgnlfikneipiaaGreat
open Go.RowKit
open Go.Eng (UpdP plainV)
theorem sat_none (w:World):@Eng.Sat (plainV w.heap.size nu0) w (fun _=>none) (fun _=>False) [] 1:=by
 letI:Eng.Val:=plainV w.heap.size nu0
 have h0:Eng.Sat0 w (fun _=>none) (fun _=>False) []:=⟨fun i c hi=>(by cases hi),fun i j c e x y hi=>(by cases hi)⟩
 exact @Eng.Sat.mk (plainV w.heap.size nu0) _ _ _ _ _ h0 (fun i _=>rfl) (fun x hx=>False.elim hx) (fun k l hk=>(by cases hk)) (fun x hx=>False.elim hx) (Nat.le_refl _)
abbrev noC:Value := .agg #[.int .i64 (-1),.int .i64 (-1),.int .i64 (-1),.int .i64 (-1),.int .i64 (-1),.int .i64 (-1),.int .i64 (-1),.int .i64 (-1),.int .i64 (-1),.int .i64 (-1)]
theorem noneC_any (w:World):Calls Tryz.prog 9 #[] w fun e w'=>e = .returned noC∧UpdP (fun _=>False) w w':=by
 have hbd:@Eng.BD (plainV w.heap.size nu0) []:=bd_nil
 have hS:=sat_none w
 refine (Eng.callP_ok (us:=[]) (@Eng.EB_ok (plainV w.heap.size nu0) [] hbd) Eng.none_e trivial hS).mono ?_
 rintro e w' ⟨u,G,O,H,nx,rfl,k1,-,-,-,-,k2,-⟩
 have k1:some noC=some u:=k1
 cases k1
 exact ⟨rfl,k2⟩
end Go.Proofs.YthgnlfikneipiaaGreat
namespace Go.Proofs.YthgnlfikneipiaaGreat
open Go.RowKit
open Go.Eng (Asr UpdP TS AllF All engA plainV)
def LM (w0:World) (vw u:Value) (n:Nat) (rs:List Rec) (vl:Value) (q P:Nat) (B:List UInt8) (wr:World):Prop :=
 ∃ F,WS w0 vw q P B wr F∧Own bv w0.heap.size 5 wr u (ln n)∧(∀ x∈blk u,¬ F x)∧OwnN 15 recCells w0.heap.size 48 wr vl rs∧(∀ x∈blk vl,¬ F x)∧(∀ x∈blk vl,x∉blk u)∧Upd [] w0 wr
section
variable {w0 w : World} {vw u vl dv : Value} {n q P : Nat} {rs : List Rec} {B p : List UInt8}
theorem lm_app (h:LM w0 vw u n rs vl q P B w) (hq:q≤20) (hf:∃ p' fT,feedL 0 0 B=(p',fT)∧fT.length≤20) (hdv:∀ w,Own bv w0.heap.size 5 w u (ln n)→Bytes w dv p) (h1:dv.oneCell'=true) (hl:B.length+p.length≤65536) :
  Calls Tryz.prog 8 #[vw,appS dv] w fun e w'=>e = .returned out0∧LM w0 vw u n rs vl q P (B++p) w':=by
 obtain ⟨F,a1,a2,a3,a4,a5,a6,a7⟩:=h
 have hlt:=a1.lt
 refine (ws_app a1 a7.size hq hf a2 a3 hdv h1 hl).mono ?_
 rintro e w' ⟨rfl,k1,k2,F',k3,k4,k5⟩
 obtain ⟨L,l1,l2⟩:=updL k1
 refine ⟨rfl,F',k3,k2,k4,a4.upd l1 (fun x hx hL=>?_),fun x hx hF=>?_,a6,updOld a7 k1 fun x hx=>?_⟩
 ·rcases l2 x hL with z|z
  ·exact a5 x hx z
  ·exact a6 x hx z
 ·rcases k5 x hF with z|z
  ·exact a5 x hx z
  ·have:=(a4.ge x hx).2;omega
 ·rcases hx with z|z
  ·exact (hlt x z).1
  ·exact (a2.ge x z).1
theorem lm_poll (h:LM w0 vw u n rs vl q P B w) (hq:q≤20) (hP:0 < q→P < B.length) (hB:B.length≤60000) (hc:∀ c∈B,c=121∨c=10) (hf:∃ p' fT,feedL 0 0 B=(p',fT)∧fT.length≤20) :
  Calls Tryz.prog 8 #[vw,pollS] w fun e w'=>e = .returned out0∧LM w0 vw u n rs vl (q+1) B.length B w':=by
 obtain ⟨F,a1,a2,a3,a4,a5,a6,a7⟩:=h
 have hlt:=a1.lt
 obtain ⟨⟨l1,n1⟩,fT,f1,f2⟩:=hf
 refine (ws_poll a1 a7.size hq hP hB hc f1 f2).mono ?_
 rintro e w' ⟨rfl,k1,F',k3,k5⟩
 obtain ⟨L,l1,l2⟩:=updL k1
 refine ⟨rfl,F',k3,a2.upd l1 (fun x hx hL=>a3 x hx (l2 x hL)),fun x hx hF=>?_,a4.upd l1 (fun x hx hL=>a5 x hx (l2 x hL)),fun x hx hF=>?_,a6,updOld a7 k1 fun x hx=>(hlt x hx).1⟩
 ·rcases k5 x hF with z|z
  ·exact a3 x hx z
  ·have:=(a2.ge x hx).2;omega
 ·rcases k5 x hF with z|z
  ·exact a5 x hx z
  ·have:=(a4.ge x hx).2;omega
theorem lm_start {F:Nat→Prop} {k n cap:Nat} {w1:World} (a1:WS w0 vw q P B w F) (a4:OwnN 15 recCells w0.heap.size 48 w vl rs) (a5:∀ x∈blk vl,¬ F x) (a7:Upd [] w0 w) (hu:Upd [] w w1) (ho:Own bv w0.heap.size 5 w1 (.slice (some ⟨w.heap.size,0,none⟩) n cap) (ln k)):LM w0 vw (.slice (some ⟨w.heap.size,0,none⟩) n cap) k rs vl q P B w1 :=
 ⟨F,a1.up (updP hu) (fun x _=>by simp) (fun x hx=>by simp at hx),ho,fun x hx hF=>by
  have:=(a1.lt x hF).2
  simp [blk] at hx
  omega,a4.upd hu (fun x _=>by simp),a5,fun x hx hb=>by
  have:=(a4.ge x hx).2
  simp [blk] at hb
  omega,a7.seq hu⟩
theorem lm_up {w1:World} (h:LM w0 vw u n rs vl q P B w) (hu:Upd [] w w1):LM w0 vw u n rs vl q P B w1:=by
 obtain ⟨F,a1,a2,a3,a4,a5,a6,a7⟩:=h
 exact ⟨F,a1.up (updP hu) (fun x _=>by simp) (fun x hx=>by simp at hx),a2.upd hu (fun x _=>by simp),a3,a4.upd hu (fun x _=>by simp),a5,a6,a7.seq hu⟩
theorem upd_none {w w':World} (h:UpdP (fun _=>False) w w'):Upd [] w w':=⟨h.os,h.tape,h.output,h.size,fun k hk hn=>h.block k hk fun q=>q⟩
theorem li_next {ns:List Nat} {w1:World} {v':Value} {at':Value} (h:LM w0 vw u n ((wants 0 ns).map (recF 1 1)) vl q P (lines ns++ln n) w) (hn:n≤450) (hns:∀ x∈ns,x≤450) (hq:q≤ns.length+1) (hP:0 < q→P < (lines ns++ln n).length) (hu:Upd (blk vl) w w1)
  (ho:OwnN 15 recCells w0.heap.size 48 w1 v' ((wants 0 ns).map (recF 1 1)++[recF 1 1 (wantF (lines ns).length n)])) (hk:∀ x∈blk v',x∈blk vl∨w.heap.size≤x) (ha:at' = .int .i64 ((lines ns).length+n+1:Int)):LI w0 vw (ns.length+1) w1 v' at':=by
 obtain ⟨F,a1,a2,a3,a4,a5,a6,a7⟩:=h
 have hlt:=a1.lt
 refine ⟨ns++[n],q,P,F,by simp,fun x hx=>?_,?_,?_,?_,fun x hx hF=>?_,hq,by rw [lines_snoc];exact hP,updOld a7 (updP hu) fun x hx=>(a4.ge x hx).1⟩
 ·rcases List.mem_append.1 hx with z|z
  ·exact hns x z
  ·rw [List.mem_singleton.1 z];exact hn
 ·rw [ha,lines_snoc,List.length_append,ln_len];congr 1
 ·rw [lines_snoc]
  exact a1.up (updP hu) (fun x hF hx=>a5 x hx hF) (fun x hx=>(a4.ge x hx).1)
 ·rw [wants_snoc,List.map_append,Nat.zero_add];exact ho
 ·rcases hk x hx with z|z
  ·exact a5 x z hF
  ·have:=(hlt x hF).2;omega
theorem rd_one {wA:World} {g:Nat} {r:Rec} (hb:Blk wA g 48 (recCells r)):RdN 15 recCells wA (.slice (some ⟨g,0,none⟩) 1 1) [r]:=by
 refine ⟨_,1,rfl,by simp,by simp [maxLen],fun _=>⟨g,0,rfl,fun j hj i hi=>?_⟩⟩
 have hj0:j=0:=by simpa using hj
 subst hj0
 rw [Nat.zero_mul,Nat.zero_add,Nat.zero_add,hb.cell]
 rfl
theorem app_rec {wA:World} (h:LM w0 vw u n rs vl q P B w) (hu:Upd [] w wA) {g:Nat} {r:Rec} (hb:Blk wA g 48 (recCells r)) (hl:rs.length≤20) (ty:TypeId) :
  ∃ v' w',(Builtin.append_ #[36,36] ty #[vl,.slice (some ⟨g,0,none⟩) 1 1]).run Tryz.prog wA = .ok v' w'∧OwnN 15 recCells w0.heap.size 48 w' v' (rs++[r])∧Upd (blk vl) wA w'∧(∀ x∈blk v',x∈blk vl∨wA.heap.size≤x):=by
 obtain ⟨F,a1,a2,a3,a4,a5,a6,a7⟩:=h
 exact run_appN (P:=Tryz.prog) (ty:=ty) recCells_len (by decide) recCells_one undRec infoRec3 rfl vl _ rs [r] (a4.upd hu (fun x _=>by simp)) (rd_one hb) (by simp only [List.length_cons,List.length_nil];omega) (by simp only [List.length_cons,List.length_nil];unfold maxLen;omega) (Nat.le_trans a7.size hu.size)
theorem infoCapsL:(Tryz.prog.info? 46).map (·.size)=some 10:=by kernel_rfl
def setsL (xs:List Value) (o:Nat):List Value→List Value
 | []=>xs
 | v::r=>setsL (xs.set o v) (o+1) r
theorem blk_setCells {b:Nat} {e:TypeId}:∀ (vs:List Value) {w:World} {xs:List Value} (o:Nat),Blk w b e xs→Blk (w.setCells b o vs) b e (setsL xs o vs)
 | [],w,xs,o,h=>h
 | v::r,w,xs,o,h=>blk_setCells r (o+1) (h.set_ o v)
theorem upd_setCellsL (b:Nat):∀ (vs:List Value) (w:World) (o:Nat),Upd [b] w (w.setCells b o vs)
 | [],w,o=>Upd.refl _ _
 | v::r,w,o=>((Upd.refl [b] w).setCell ⟨b,o,none⟩ v (.inl (by simp))).trans (upd_setCellsL b r _ (o+1)) (fun x hx=>hx) (fun x hx => .inl hx)
theorem blk_there {w:World} {b:Nat} {e:TypeId} {xs:List Value} (h:Blk w b e xs) (o n:Nat) (hn:o+n≤xs.length):w.there b o n:=fun j hj=>by
 rw [h.cell]
 exact ⟨by rw [List.getElem?_eq_getElem (by omega)];rfl,h.frozen _⟩
end
end Go.Proofs.YthgnlfikneipiaaGreat
namespace Go.Proofs.YthgnlfikneipiaaGreat
open Go.RowKit
open Go.Eng (Asr UpdP TS AllF All engA plainV)
theorem ws_query {w0 w:World} {vw:Value} {q:Nat} {B:List UInt8} {F:Nat→Prop} (h:WS w0 vw (q+1) B.length B w F) (hb:w0.heap.size≤w.heap.size) (hq:q≤20) {p:Nat×Nat} {fT:List Fd} (hf:feedL 0 0 B=(p,fT)) (hfl:fT.length≤20) :
  Calls Tryz.prog 8 #[vw,.agg #[.int .i64 8,.int .i64 0,.string ⟨#[]⟩,.string ⟨#[]⟩,.slice none 0 0,.slice none 0 0,.string ⟨#[]⟩]] w fun e w'=>∃ v,e = .returned (.agg #[.int .i64 0,.int .i64 0,.slice none 0 0,v])∧UpdP F w w'∧OwnN 15 recCells w0.heap.size 48 w' v (fT.map (recF 1 1)):=by
 rcases h with ⟨h1,-⟩|⟨l',m,fds,hl0,hs0,n0,N,K,a1,a2,a3,a4,a5,a6,a7,a8,a9,a10,h⟩
 ·omega
 ·rw [List.take_length,hf] at a3
  cases a3
  refine (do_query h hb (by omega) (by rw [List.length_map];omega)).mono ?_
  rintro e w' ⟨v,e1,e2,e3,-⟩
  exact ⟨v,e1,e2,e3⟩
set_option maxRecDepth 20000 in
theorem query_any {w0 w:World} {vw:Value} {q:Nat} {B:List UInt8} {F:Nat→Prop} (h:WS w0 vw (q+1) B.length B w F) (hb:w0.heap.size≤w.heap.size) (hq:q≤20) {p:Nat×Nat} {fT:List Fd} (hf:feedL 0 0 B=(p,fT)) (hfl:fT.length≤20) :
  Calls Tryz.prog 11 #[vw] w fun e w'=>∃ v,e = .returned v∧UpdP F w w'∧OwnN 15 recCells w0.heap.size 48 w' v (fT.map (recF 1 1)):=by
 have HC:=Lib.hid (ws_query h hb hq hf hfl)
 clear h hf hfl
 go_enter Tryz.func11,Tryz.ntmps11
 go_wp2_with fail
 (with_reducible refine HC.out.mono ?_)
 rintro e w' ⟨v,rfl,h1,h2⟩
 obtain ⟨a,n,c,rfl⟩:∃ a n c,v = .slice a n c:=by
  rcases h2.2 with ⟨rfl,_⟩|⟨g,cap,cur,rfl,_⟩<;>exact ⟨_,_,_,rfl⟩
 have H1:=Lib.hid h1
 have H2:=Lib.hid h2
 clear HC h1 h2
 have hfl:∀ u:World,(Instr.field 41 (.agg #[.int .i64 0,.int .i64 0,.slice none 0 0,.slice a n c]) 3).run Tryz.prog u = .ok (.slice a n c) u:=fun u=>by kernel_rfl
 dsimp only
 go_wp2_with fail
 go_ret
 exact ⟨_,rfl,H1.out,H2.out⟩
end Go.Proofs.YthgnlfikneipiaaGreat
namespace Go.Proofs.YthgnlfikneipiaaGreat
open Go.RowKit
set_option maxRecDepth 20000 in
set_option maxHeartbeats 4000000 in
theorem sameRec_any (v u:Value) (l m:List Rec) (w:World) (h:RdN 15 recCells w v l) (h2:RdN 15 recCells w u m) :
  Calls Tryz.prog 10 #[v,u] w fun e w'=>e = .returned (.bool (decide (l=m)))∧∃ n,w'=w.drewN n:=by
 obtain ⟨a,cap,rfl,hlc,hm,hc⟩:=h
 obtain ⟨a2,cap2,rfl,hlc2,hm2,hc2⟩:=h2
 have hm':l.length≤9223372036854775807:=by unfold maxLen at hm;omega
 have hm2':m.length≤9223372036854775807:=by unfold maxLen at hm2;omega
 clear hm hlc hm2 hlc2
 by_cases hlen:l.length=m.length
 ·have HL:=Lib.hid hlen
  have t1:((l.length:Int) != (m.length:Int))=false:=by rw [bne_eq_false_iff_eq];omega
  have H1:=Lib.hid hc
  have H2:=Lib.hid hc2
  clear hlen hc hc2
  go_enter Tryz.func10,Tryz.ntmps10
  go_wp2
  go_loopw [5] (fun i wr=>∃ k n:Nat,wr=w.drewN n∧k≤l.length∧i = .int .i64 k∧Hid (∀ j,j < k→nth l j=nth m j)) (fun i _=>l.length-(intOf i).toNat)
  case atStart=>exact ⟨0,0,rfl,Nat.zero_le _,rfl,fun j hj=>absurd hj (by omega)⟩
  case round =>
   obtain ⟨k,n,rfl,hk,rfl,hs⟩:=hrel
   by_cases hlt:k < l.length
   ·obtain ⟨b,off,rfl,hc⟩:=H1.out (by intro h;simp [h] at hlt)
    have hlt2:k < m.length:=by rw [← HL.out];exact hlt
    obtain ⟨b2,off2,rfl,hc2⟩:=H2.out (by intro h;simp [h] at hlt2)
    obtain ⟨ino,gen,at_,rule,kind,c0,c1,c2,c3,c4,c5,c6,c7,c8,c9,hx⟩:=rec_mk (nth l k)
    obtain ⟨ino',gen',at',rule',kind',d0,d1,d2,d3,d4,d5,d6,d7,d8,d9,hy⟩:=rec_mk (nth m k)
    have hc:∀ j,j < l.length→∀ i,i < 15→w.cell? ⟨b,off+(j*15+i),none⟩=(recCells (nth l j))[i]?:=hc
    have hc2:∀ j,j < m.length→∀ i,i < 15→w.cell? ⟨b2,off2+(j*15+i),none⟩=(recCells (nth m j))[i]?:=hc2
    have hc:=hc k hlt
    have hc2:=hc2 k hlt2
    rw [hx] at hc
    rw [hy] at hc2
    have HX:=Lib.hid hx
    have HY:=Lib.hid hy
    clear hx hy
    have e0:w.cell? ⟨b,off+k*15,none⟩=some (.int .i64 ino):=hc 0 (by omega)
    have e1:w.cell? ⟨b,off+k*15+1,none⟩=some (.int .i64 gen):=hc 1 (by omega)
    have e2:w.cell? ⟨b,off+k*15+2,none⟩=some (.int .i64 at_):=hc 2 (by omega)
    have e3:w.cell? ⟨b,off+k*15+3,none⟩=some (.string rule):=hc 3 (by omega)
    have e4:w.cell? ⟨b,off+k*15+4,none⟩=some (.int .i64 kind):=hc 4 (by omega)
    have e5:w.cell? ⟨b,off+k*15+5,none⟩=some (.int .i64 c0):=hc 5 (by omega)
    have e6:w.cell? ⟨b,off+k*15+6,none⟩=some (.int .i64 c1):=hc 6 (by omega)
    have e7:w.cell? ⟨b,off+k*15+7,none⟩=some (.int .i64 c2):=hc 7 (by omega)
    have e8:w.cell? ⟨b,off+k*15+8,none⟩=some (.int .i64 c3):=hc 8 (by omega)
    have e9:w.cell? ⟨b,off+k*15+9,none⟩=some (.int .i64 c4):=hc 9 (by omega)
    have e10:w.cell? ⟨b,off+k*15+10,none⟩=some (.int .i64 c5):=hc 10 (by omega)
    have e11:w.cell? ⟨b,off+k*15+11,none⟩=some (.int .i64 c6):=hc 11 (by omega)
    have e12:w.cell? ⟨b,off+k*15+12,none⟩=some (.int .i64 c7):=hc 12 (by omega)
    have e13:w.cell? ⟨b,off+k*15+13,none⟩=some (.int .i64 c8):=hc 13 (by omega)
    have e14:w.cell? ⟨b,off+k*15+14,none⟩=some (.int .i64 c9):=hc 14 (by omega)
    have f0:w.cell? ⟨b2,off2+k*15,none⟩=some (.int .i64 ino'):=hc2 0 (by omega)
    have f1:w.cell? ⟨b2,off2+k*15+1,none⟩=some (.int .i64 gen'):=hc2 1 (by omega)
    have f2:w.cell? ⟨b2,off2+k*15+2,none⟩=some (.int .i64 at'):=hc2 2 (by omega)
    have f3:w.cell? ⟨b2,off2+k*15+3,none⟩=some (.string rule'):=hc2 3 (by omega)
    have f4:w.cell? ⟨b2,off2+k*15+4,none⟩=some (.int .i64 kind'):=hc2 4 (by omega)
    have f5:w.cell? ⟨b2,off2+k*15+5,none⟩=some (.int .i64 d0):=hc2 5 (by omega)
    have f6:w.cell? ⟨b2,off2+k*15+6,none⟩=some (.int .i64 d1):=hc2 6 (by omega)
    have f7:w.cell? ⟨b2,off2+k*15+7,none⟩=some (.int .i64 d2):=hc2 7 (by omega)
    have f8:w.cell? ⟨b2,off2+k*15+8,none⟩=some (.int .i64 d3):=hc2 8 (by omega)
    have f9:w.cell? ⟨b2,off2+k*15+9,none⟩=some (.int .i64 d4):=hc2 9 (by omega)
    have f10:w.cell? ⟨b2,off2+k*15+10,none⟩=some (.int .i64 d5):=hc2 10 (by omega)
    have f11:w.cell? ⟨b2,off2+k*15+11,none⟩=some (.int .i64 d6):=hc2 11 (by omega)
    have f12:w.cell? ⟨b2,off2+k*15+12,none⟩=some (.int .i64 d7):=hc2 12 (by omega)
    have f13:w.cell? ⟨b2,off2+k*15+13,none⟩=some (.int .i64 d8):=hc2 13 (by omega)
    have f14:w.cell? ⟨b2,off2+k*15+14,none⟩=some (.int .i64 d9):=hc2 14 (by omega)
    have q1:(k:Int) < (l.length:Int):=by omega
    have q2:(k:Int) < (m.length:Int):=by omega
    clear hc hc2
    by_cases he:mkRec ino gen at_ rule kind c0 c1 c2 c3 c4 c5 c6 c7 c8 c9=mkRec ino' gen' at' rule' kind' d0 d1 d2 d3 d4 d5 d6 d7 d8 d9
    ·have hq:=fun W=>recEq_run W ino gen at_ rule kind c0 c1 c2 c3 c4 c5 c6 c7 c8 c9 ino' gen' at' rule' kind' d0 d1 d2 d3 d4 d5 d6 d7 d8 d9
     rw [decide_eq_true he] at hq
     have HE:=Lib.hid he
     clear he
     go_wp2
     go_quiet (fail)
     go_wp2
     go_roundw
     case rel=>exact ⟨k+1,_,rfl,by omega,by go_num,fun j hj=>by
      by_cases e:j=k
      ·rw [e,HX.out,HY.out];exact HE.out
      ·exact hs.out j (by omega)⟩
     case measure=>simp [intOf];omega
    ·have hq:=fun W=>recEq_run W ino gen at_ rule kind c0 c1 c2 c3 c4 c5 c6 c7 c8 c9 ino' gen' at' rule' kind' d0 d1 d2 d3 d4 d5 d6 d7 d8 d9
     rw [decide_eq_false he] at hq
     have HE:=Lib.hid he
     clear he
     go_wp2
     go_quiet (fail)
     go_wp2
     go_ret
     exact ⟨congrArg (fun b=>Ending.returned (.bool b)) (decide_eq_false (fun e=>HE.out (by rw [← HX.out,← HY.out,e]))).symm,_,World.drewN_drewN ..⟩
   ·obtain rfl:k=l.length:=by omega
    go_wp2
    go_ret
    exact ⟨congrArg (fun b=>Ending.returned (.bool b)) (decide_eq_true (same_ext HL.out hs.out)).symm,_,rfl⟩
 ·have t1:((l.length:Int) != (m.length:Int))=true:=by rw [bne_iff_ne];omega
  have t2:decide (l=m)=false:=by simp;intro h;exact hlen (by rw [h])
  have T2:=Lib.hid t2
  clear hlen t2
  go_enter Tryz.func10,Tryz.ntmps10
  go_wp2
  go_ret
  exact ⟨congrArg (fun b=>Ending.returned (.bool b)) T2.out.symm,0,rfl⟩
theorem sameRec_yes (v u:Value) (l:List Rec) (w:World) (h:RdN 15 recCells w v l) (h2:RdN 15 recCells w u l) :
  Calls Tryz.prog 10 #[v,u] w fun e w'=>e = .returned (.bool true)∧Upd [] w w':=by
 refine (sameRec_any v u l l w h h2).mono ?_
 rw [decide_eq_true rfl]
 rintro e w' ⟨rfl,n,rfl⟩
 exact ⟨rfl,(Upd.refl [] w).drewN n⟩
end Go.Proofs.YthgnlfikneipiaaGreat
namespace Go.Proofs.YthgnlfikneipiaaGreat
open Go.RowKit
open Go.Eng (Asr UpdP TS AllF All engA plainV)
theorem run_start {w w1:World} {gw:Nat} {F1:Nat→Prop} (ho:Upd [] w w1) (hn:WN w (.pointer (some ⟨gw,0,none⟩)) w1 F1) (hF:∀ x,F1 x→w.heap.size≤x) :
  Calls Tryz.prog 6 #[.pointer (some ⟨gw,0,none⟩),.slice (some ⟨w1.heap.size+1,0,none⟩) 2 2] ((w1.alloc (.cells #[.string ⟨#[97]⟩,.string ⟨#[94,121,42,36]⟩] 29)).alloc (.cells #[.int .i64 7,.int .i64 0,.string ⟨#[]⟩,.string ⟨#[]⟩,.slice none 0 0,.slice (some ⟨w1.heap.size,0,none⟩) 1 1,.string ⟨#[]⟩,.int .i64 1,.int .i64 0,.string ⟨#[108,111,103]⟩,.string ⟨#[]⟩,.slice none 0 0,.slice none 0 0,.string ⟨#[]⟩] 35))
   fun e w'=>∃ v,e = .returned v∧LI w (.pointer (some ⟨gw,0,none⟩)) 0 w' (.slice none 0 0) (.int .i64 0):=by
 have hlt:∀ x,F1 x→x < w1.heap.size:=fun x hx=>by
  obtain ⟨-,gs,h⟩:=hn
  exact (All.lt_ h x hx).2
 have u1:Upd [] w1 (w1.alloc (.cells #[.string ⟨#[97]⟩,.string ⟨#[94,121,42,36]⟩] 29)):=(Upd.refl [] w1).alloc _
 have hb2:=Blk.new w1 29 patV
 have z1:(w1.alloc (.cells #[.string ⟨#[97]⟩,.string ⟨#[94,121,42,36]⟩] 29)).heap.size=w1.heap.size+1:=by simp
 have hb1:=Blk.new (w1.alloc (.cells #[.string ⟨#[97]⟩,.string ⟨#[94,121,42,36]⟩] 29)) 35 (stepsV w1.heap.size)
 have u2:=u1.alloc (.cells (stepsV w1.heap.size).toArray 35)
 have hb2:=hb2.upd ((Upd.refl [] _).alloc (.cells (stepsV w1.heap.size).toArray 35)) (by simp)
 rw [z1] at hb1
 have hn2:WN w (.pointer (some ⟨gw,0,none⟩)) ((w1.alloc (.cells #[.string ⟨#[97]⟩,.string ⟨#[94,121,42,36]⟩] 29)).alloc (.cells (stepsV w1.heap.size).toArray 35)) F1:=by
  obtain ⟨hg,gs,h⟩:=hn
  exact ⟨hg,gs,All.up_ h (updP u2) (fun x _=>by simp) (fun x hx=>by simp at hx)⟩
 have hs:=ho.size
 refine (do_run hn2 (Nat.le_trans hs u2.size) hb1 hb2 (by omega) hs (by omega) (fun q=>by have:=hlt _ q;omega) (fun q=>by have:=hlt _ q;omega)).mono ?_
 rintro e w' ⟨v,rfl,k1,F',k2,k3⟩
 refine ⟨v,rfl,[],0,0,F',rfl,(fun n hn=>by cases hn),rfl,.inl ⟨rfl,rfl,k2⟩,OwnN.nil _ _ _,(fun x hx=>by simp [blk] at hx),Nat.le_refl _,(fun h=>by omega),?_⟩
 exact updOld (ho.seq u2) k1 (fun x hx=>by
  rcases hx with q|rfl|rfl
  ·exact hF x q
  ·omega
  ·exact hs)
theorem set_rep (j n:Nat) (h:j < n+1):(List.replicate j (121:UInt8)++List.replicate (n+1-j) 0).set j 121=List.replicate (j+1) 121++List.replicate (n+1-(j+1)) 0:=by
 rw [List.set_append_right _ _ (by simp),List.length_replicate,Nat.sub_self,show n+1-j=(n-j)+1 by omega,List.replicate_succ,List.set_cons_zero,List.replicate_succ',List.append_assoc]
 congr 3
 omega
theorem set_end (n:Nat):(List.replicate n (121:UInt8)++List.replicate (n+1-n) 0).set n 10=ln n:=by
 rw [List.set_append_right _ _ (by simp),List.length_replicate,Nat.sub_self,show n+1-n=1 by omega]
 rfl
set_option maxRecDepth 20000 in
set_option maxHeartbeats 1000000 in
theorem topLong_any (haw:∀ w,Calls Tryz.prog 12 #[] w fun e w'=>e = .returned (.bool true)∧UpdP (fun _=>False) w w') (w:World) (v0 v1:Value) (sz:List Int) (pl:List Bool) (h0:Rd iv w v0 sz) (h1:Rd Value.bool w v1 pl) (hi:∀ x∈sz,I64 x) :
  Calls Tryz.prog 3 #[v0,v1] w fun e w'=>e = .returned (.bool true)∧Upd [] w w':=by
 have HAW:=Lib.hid haw
 clear haw
 have H0:=Lib.hid h0
 have H1:=Lib.hid h1
 have HI:=Lib.hid hi
 obtain ⟨a0,c0,rfl,hl0,hm0,hc0⟩:=h0
 obtain ⟨a1,c1,rfl,hl1,hm1,hc1⟩:=h1
 have HL0:=Lib.hid hl0
 have HL1:=Lib.hid hl1
 have HM0:=Lib.hid hm0
 have HM1:=Lib.hid hm1
 clear hc0 hc1 hi hl0 hl1 hm0 hm1
 go_enter Tryz.func3,Tryz.ntmps3
 go_wp2_with fail
 (with_reducible refine (do_new (Upd.refl [] w)).mono ?_)
 rintro e w1 ⟨vw,rfl,u1,F1,hn1,hF1⟩
 have HO1:Hid (Upd [] w w1):=updOld (Upd.refl [] w) u1 (fun x h=>h.elim)
 have HN1:=Lib.hid hn1
 have HF1:=Lib.hid hF1
 obtain ⟨⟨gw,rfl⟩,-⟩:=hn1
 clear hF1 u1
 go_wp2_with fail
 (with_reducible refine (run_start HO1.out HN1.out HF1.out).mono ?_)
 rintro e w2 ⟨vo,rfl,hli⟩
 have HLI:=Lib.hid hli
 clear hli HN1 HF1 HO1
 go_wp2_with fail
 go_loopw [6,7,8] (fun vl va vi wr=>∃ k:Nat,k≤sz.length∧k≤12∧vi = .int .i64 (k:Int)∧Hid (LI w (.pointer (some ⟨gw,0,none⟩)) k wr vl va)) (fun _ _ i _=>sz.length-(intOf i).toNat)
 case atStart=>exact ⟨0,Nat.zero_le _,Nat.zero_le _,rfl,HLI⟩
 case round =>
  obtain ⟨k,hk,hk12,rfl,hli⟩:=hrel
  clear HLI
  by_cases hlt:k < sz.length∧k < 12
  ·obtain ⟨hlt,hlt12⟩:=hlt
   obtain ⟨ns,q,P,F,hns,hn450,rfl,hws,how,hap,hq,hP,hup⟩:=hli.out
   obtain ⟨aa,cc,he,_,_,hc⟩:=H0.out
   injection he with he1 he2 he3
   subst he1
   obtain ⟨b0,off0,rfl,hcc⟩:=hc (fun q=>by rw [q] at hlt;simp at hlt)
   have cz:=hup.cell (hcc k hlt) (by simp)
   have HZ:Hid (I64 (nth sz k)):=HI.out _ (by simp [nth,hlt])
   have HWS:=Lib.hid hws
   have HOW:=Lib.hid how
   have HAP:=Lib.hid hap
   have HUP:=Lib.hid hup
   have HNS:=Lib.hid hns
   have HN450:=Lib.hid hn450
   have HQ:=Lib.hid hq
   have HP:=Lib.hid hP
   have q1:(k:Int) < (sz.length:Int):=by omega
   have q2:(k:Int) < 12:=by omega
   clear hc hcc he2 he3 hli hns hn450 hws how hap hq hP hup
   go_wp2_with fail
   (with_reducible refine (within_any (nth sz k) 0 450 wr (by have:=HZ.out;unfold I64 at this;omega) (by omega) (by omega) (by omega)).mono ?_)
   rintro e w9 ⟨rfl,rfl⟩
   obtain ⟨n,hn,hnle⟩:∃ n:Nat,within (nth sz k) 0 450=(n:Int)∧n≤450:=by
    have:=within_in (nth sz k) 0 450 (by omega)
    exact ⟨(within (nth sz k) 0 450).toNat,by omega,by omega⟩
   rw [hn]
   clear hn cz HZ
   have hmk:∀ u:World,(Instr.makeSlice 33 (.int .i64 ((n:Int)+1)) (.int .i64 ((n:Int)+1))).run Tryz.prog u = .ok (.slice (some ⟨u.heap.size,0,none⟩) (n+1) (n+1)) (u.alloc (.cells (List.replicate (n+1) (.int .u8 0)).toArray 5)):=fun u=>run_mk (P:=Tryz.prog) Tryz.underlying33 infoB8 rfl u (n+1) (n+1) ((n:Int)+1) ((n:Int)+1) (by omega) (by omega) (Nat.le_refl _) (by omega) (by omega)
   go_wp2_with fail
   have hua:Upd [] wr (wr.alloc (.cells (Array.replicate (n+1) (.int .u8 0)) 5)):=(Upd.refl [] wr).alloc _
   have hob:Own bv w.heap.size 5 (wr.alloc (.cells (Array.replicate (n+1) (.int .u8 0)) 5)) (.slice (some ⟨wr.heap.size,0,none⟩) (n+1) (n+1)) (List.replicate 0 121++List.replicate (n+1-0) 0):=Own.lit (c:=bv) (List.replicate 0 121++List.replicate (n+1-0) 0) HUP.out.size rfl (by simp) (by simp) (by simp) (by unfold maxLen;omega)
   have HUA:=Lib.hid hua
   have HOB:=Lib.hid hob
   clear hua hob hmk
   generalize hgw:wr.alloc (.cells (Array.replicate (n+1) (.int .u8 0)) 5)=wo at *
   clear hgw
   obtain ⟨we,rfl⟩:∃ we:World,we=wr:=⟨_,rfl⟩
   go_loopw [11] (fun vj wi=>∃ j:Nat,j≤n∧vj = .int .i64 (j:Int)∧Hid (Own bv w.heap.size 5 wi (.slice (some ⟨we.heap.size,0,none⟩) (n+1) (n+1)) (List.replicate j 121++List.replicate (n+1-j) 0))∧Hid (Upd [we.heap.size] wo wi)) (fun vj _=>n-(intOf vj).toNat)
   case atStart=>exact ⟨0,Nat.zero_le _,rfl,HOB,Upd.refl _ _⟩
   case round =>
    obtain ⟨j,hj,rfl,ho,hu⟩:=hrel
    clear HOB
    by_cases hjn:j < n
    ·have c0:=ho.out.cell j (by simp;omega)
     have f0:=ho.out.frozen j
     have q3:(j:Int) < (n:Int):=by omega
     have ho2:=ho.out.set_ j (by simp;omega) 121
     rw [set_rep j n (by omega)] at ho2
     have HO2:=Lib.hid ho2
     have HU2:=Lib.hid (hu.out.setCell ⟨we.heap.size,j,none⟩ (.int .u8 121) (.inl (by simp)))
     clear ho2 ho hu
     go_wp2_with fail
     go_roundw
     case rel=>exact ⟨j+1,by omega,by go_num,HO2,HU2⟩
     case measure=>simp [intOf];omega
    ·obtain rfl:j=n:=by omega
     have c0:=ho.out.cell j (by simp)
     have f0:=ho.out.frozen j
     have ho1:=ho.out.set_ j (by simp) 10
     rw [set_end j] at ho1
     have ho2:Own bv w.heap.size 5 (wr.setCell ⟨we.heap.size,j,none⟩ (.int .u8 10)) (.slice (some ⟨we.heap.size,0,none⟩) (j+1) (j+1)) (ln j):=ho1
     clear ho1
     have HO2:=Lib.hid ho2
     have HU2:=Lib.hid (hu.out.setCell ⟨we.heap.size,j,none⟩ (.int .u8 10) (.inl (by simp)))
     clear ho2 ho hu
     have hlm:=lm_start HWS.out HOW.out HAP.out HUP.out ((HUA.out.trans (T:=[]) HU2.out (by simp) (fun x hx => .inr (by simp at hx;omega)))) HO2.out
     have HLM:=Lib.hid hlm
     have hln:=ln_len j
     have HBD:=Lib.hid (lines_bd ns HN450.out)
     have HHF:=Lib.hid (feed_half ns j)
     have HK:=HNS.out
     have hq1:=HQ.out
     have HLB:Hid ((lines ns).length+(ln j).length≤6000):=by
      have:=HBD.out
      unfold Hid
      rw [hln,HK] at *
      have:=Nat.mul_le_mul_left 451 (show k≤11 by omega)
      omega
     clear hlm HO2 HUA HWS HOW HAP HUP HU2
     go_wp2_with fail
     clear c0 f0
     generalize wr.setCell ⟨we.heap.size,j,none⟩ (.int .u8 10)=wx at *
     (refine (lm_app (dv := .slice (some ⟨we.heap.size,0,none⟩) (j / 2) (j+1)) (p:=(ln j).take (j / 2)) HLM.out (by omega) ⟨_,_,feed_lines ns 0,by rw [wants_len];omega⟩ (fun W hW=>own_front hW (j / 2) (j+1) (by omega) (by omega) (by omega)) rfl (by have:=HLB.out;rw [List.length_take];omega)).mono ?_)
     rintro e w3 ⟨rfl,hlm⟩
     have HLN:Hid ((lines ns++(ln j).take (j / 2))++(ln j).drop (j / 2)=lines ns++ln j):=by unfold Hid;rw [List.append_assoc,List.take_append_drop]
     have HLM:=Lib.hid hlm
     obtain ⟨_,-,-,-,-,-,-,hup3⟩:=hlm
     have hP0:=HP.out
     have hlen3:(lines ns++(ln j).take (j / 2)).length=(lines ns).length+j / 2:=by rw [List.length_append,List.length_take,hln];omega
     have hlen4:(lines ns++ln j).length=(lines ns).length+j+1:=by rw [List.length_append,hln];omega
     dsimp only
     go_upto_region 18 with fail
     go_cut [69] from 24 to 102 (fun s69 wx=>∃ b:Bool,s69 = .bool b∧wx=w3)
     case first =>
      by_cases hkp:k < pl.length
      ·obtain ⟨ab,cb,he,_,_,hc⟩:=H1.out
       injection he with he1 he2 he3
       subst he1
       obtain ⟨b1,off1,rfl,hcc⟩:=hc (fun q=>by rw [q] at hkp;simp at hkp)
       have cp:=hup3.cell (hcc k hkp) (by simp)
       have q4:(k:Int) < (pl.length:Int):=by omega
       clear hc hcc he2 he3 hup3
       go_wp2_with fail
       go_meet
       exact ⟨nth pl k,rfl,rfl⟩
      ·have q4:¬ (k:Int) < (pl.length:Int):=by omega
       go_wp2_with fail
       go_meet
       exact ⟨false,rfl,rfl⟩
     case rest =>
     obtain ⟨b,rfl,hwc⟩:=hcut
     rw [hwc]
     clear hwc
     go_upto_if 69 with fail
     go_cut [] from 24 to 102 (fun wx=>Hid (∃ q' P',q'≤k+1∧(0 < q'→P' < (lines ns++ln j).length)∧LM w (.pointer (some ⟨gw,0,none⟩)) (.slice (some ⟨we.heap.size,0,none⟩) (j+1) (j+1)) j ((wants 0 ns).map (recF 1 1)) u6 q' P' (lines ns++(ln j).take (j / 2)) wx))
     case first =>
      cases b
      ·go_wp2_with fail
       go_meet
       exact ⟨q,P,by omega,by omega,HLM.out⟩
      ·go_wp2_with fail
       (refine (lm_poll HLM.out (by omega) (fun h=>by have:=hP0 h;rw [hlen3];omega) (by have:=HLB.out;omega) (fun c hc=>?_) ?_).mono ?_)
       ·rcases List.mem_append.1 hc with z|z
        ·exact lines_mem ns c z
        ·exact ln_mem j c (List.mem_of_mem_take z)
       ·obtain ⟨p,f,y1,y2⟩:=HHF.out
        exact ⟨p,f,y1,by omega⟩
       rintro e w4 ⟨rfl,hlm⟩
       dsimp only
       go_wp2_with fail
       go_meet
       exact ⟨q+1,_,by omega,by omega,hlm⟩
     case rest =>
      clear HLM hup3
      have HLM2:=hcut
      clear hcut
      go_wp2_with fail
      generalize wc=w5 at *
      obtain ⟨q',P',z1,z2,z3⟩:=HLM2.out
      (refine (lm_app (dv := .slice (some ⟨we.heap.size,j / 2,none⟩) (j+1-j / 2) (j+1-j / 2)) (p:=(ln j).drop (j / 2)) z3 (by omega) ?_ (fun W hW=>own_back hW (j / 2) (j+1-j / 2) (j+1-j / 2) (by omega) (by omega) (by omega) (by omega)) rfl (by have:=HLB.out;rw [hlen3,List.length_drop];omega)).mono ?_)
      ·obtain ⟨p,f,y1,y2⟩:=HHF.out
       exact ⟨p,f,y1,by omega⟩
      rintro e w6 ⟨rfl,hlm⟩
      rw [HLN.out] at hlm
      have HLM3:=Lib.hid hlm
      have HZ2:=Lib.hid z2
      clear hlm z2 z3 HLM2 HLN HHF
      have hb6:=HLB.out
      rw [hln] at hb6
      dsimp only
      by_cases hj2:j≤200
      ·have q5:(j:Int)≤200:=by omega
       have hr:recCells (recF 1 1 (wantF (lines ns).length j))=[.int .i64 1,.int .i64 1,.int .i64 ((lines ns).length:Int),.string ⟨#[97]⟩,.int .i64 1,.int .i64 0,.int .i64 (j:Int),.int .i64 (-1),.int .i64 (-1),.int .i64 (-1),.int .i64 (-1),.int .i64 (-1),.int .i64 (-1),.int .i64 (-1),.int .i64 (-1)]:=by
        unfold wantF
        rw [if_pos hj2];rfl
       have ua1:Upd [] w6 (w6.alloc (.cells #[.int .i64 1,.int .i64 1,.int .i64 ((lines ns).length:Int),.string ⟨#[]⟩,.int .i64 2,.int .i64 0,.int .i64 0,.int .i64 0,.int .i64 0,.int .i64 0,.int .i64 0,.int .i64 0,.int .i64 0,.int .i64 0,.int .i64 0] 48)):=(Upd.refl [] w6).alloc _
       have ba:=Blk.new w6 48 [.int .i64 1,.int .i64 1,.int .i64 ((lines ns).length:Int),.string ⟨#[]⟩,.int .i64 2,.int .i64 0,.int .i64 0,.int .i64 0,.int .i64 0,.int .i64 0,.int .i64 0,.int .i64 0,.int .i64 0,.int .i64 0,.int .i64 0]
       have HUA:=Lib.hid ua1
       have HBA:=Lib.hid ba
       have HHR:=Lib.hid hr
       clear ua1 ba hr
       go_wp2_with fail
       generalize w6.alloc (.cells #[.int .i64 1,.int .i64 1,.int .i64 ((lines ns).length:Int),.string ⟨#[]⟩,.int .i64 2,.int .i64 0,.int .i64 0,.int .i64 0,.int .i64 0,.int .i64 0,.int .i64 0,.int .i64 0,.int .i64 0,.int .i64 0,.int .i64 0] 48)=wa at *
       (refine (noneC_any _).mono ?_)
       rintro e wc ⟨rfl,huc⟩
       have huc:=upd_none huc
       have b0:=HBA.out.upd huc (by simp)
       have b1:Blk (wc.setCell ⟨w6.heap.size,4,none⟩ (.int .i64 1)) w6.heap.size 48 [.int .i64 1,.int .i64 1,.int .i64 ((lines ns).length:Int),.string ⟨#[]⟩,.int .i64 1,.int .i64 0,.int .i64 0,.int .i64 0,.int .i64 0,.int .i64 0,.int .i64 0,.int .i64 0,.int .i64 0,.int .i64 0,.int .i64 0]:=b0.set_ 4 (.int .i64 1)
       have b2:Blk ((wc.setCell ⟨w6.heap.size,4,none⟩ (.int .i64 1)).setCell ⟨w6.heap.size,3,none⟩ (.string ⟨#[97]⟩)) w6.heap.size 48 [.int .i64 1,.int .i64 1,.int .i64 ((lines ns).length:Int),.string ⟨#[97]⟩,.int .i64 1,.int .i64 0,.int .i64 0,.int .i64 0,.int .i64 0,.int .i64 0,.int .i64 0,.int .i64 0,.int .i64 0,.int .i64 0,.int .i64 0]:=b1.set_ 3 (.string ⟨#[97]⟩)
       have U2:Upd [w6.heap.size] wc ((wc.setCell ⟨w6.heap.size,4,none⟩ (.int .i64 1)).setCell ⟨w6.heap.size,3,none⟩ (.string ⟨#[97]⟩)):=((Upd.refl _ _).setCell _ _ (.inl (by simp))).setCell _ _ (.inl (by simp))
       have hth:=blk_there b2 5 10 (by simp)
       obtain ⟨W3,hW3⟩:∃ W,((wc.setCell ⟨w6.heap.size,4,none⟩ (.int .i64 1)).setCell ⟨w6.heap.size,3,none⟩ (.string ⟨#[97]⟩)).setCells w6.heap.size 5 [.int .i64 (-1),.int .i64 (-1),.int .i64 (-1),.int .i64 (-1),.int .i64 (-1),.int .i64 (-1),.int .i64 (-1),.int .i64 (-1),.int .i64 (-1),.int .i64 (-1)]=W:=⟨_,rfl⟩
       have b3:Blk W3 w6.heap.size 48 [.int .i64 1,.int .i64 1,.int .i64 ((lines ns).length:Int),.string ⟨#[97]⟩,.int .i64 1,.int .i64 (-1),.int .i64 (-1),.int .i64 (-1),.int .i64 (-1),.int .i64 (-1),.int .i64 (-1),.int .i64 (-1),.int .i64 (-1),.int .i64 (-1),.int .i64 (-1)]:=by
        rw [← hW3]
        exact blk_setCells [.int .i64 (-1),.int .i64 (-1),.int .i64 (-1),.int .i64 (-1),.int .i64 (-1),.int .i64 (-1),.int .i64 (-1),.int .i64 (-1),.int .i64 (-1),.int .i64 (-1)] 5 b2
       have U3:Upd [w6.heap.size] wc W3:=by
        rw [← hW3]
        exact U2.trans (upd_setCellsL w6.heap.size [.int .i64 (-1),.int .i64 (-1),.int .i64 (-1),.int .i64 (-1),.int .i64 (-1),.int .i64 (-1),.int .i64 (-1),.int .i64 (-1),.int .i64 (-1),.int .i64 (-1)] _ 5) (fun x hx=>hx) (fun x hx => .inl hx)
       have HW3:=Lib.hid hW3
       clear hW3
       have b4:Blk (W3.setCell ⟨w6.heap.size,5,none⟩ (.int .i64 0)) w6.heap.size 48 [.int .i64 1,.int .i64 1,.int .i64 ((lines ns).length:Int),.string ⟨#[97]⟩,.int .i64 1,.int .i64 0,.int .i64 (-1),.int .i64 (-1),.int .i64 (-1),.int .i64 (-1),.int .i64 (-1),.int .i64 (-1),.int .i64 (-1),.int .i64 (-1),.int .i64 (-1)]:=b3.set_ 5 (.int .i64 0)
       have b5:Blk ((W3.setCell ⟨w6.heap.size,5,none⟩ (.int .i64 0)).setCell ⟨w6.heap.size,6,none⟩ (.int .i64 (j:Int))) w6.heap.size 48 [.int .i64 1,.int .i64 1,.int .i64 ((lines ns).length:Int),.string ⟨#[97]⟩,.int .i64 1,.int .i64 0,.int .i64 (j:Int),.int .i64 (-1),.int .i64 (-1),.int .i64 (-1),.int .i64 (-1),.int .i64 (-1),.int .i64 (-1),.int .i64 (-1),.int .i64 (-1)]:=b4.set_ 6 (.int .i64 (j:Int))
       have U5:Upd [w6.heap.size] wc ((W3.setCell ⟨w6.heap.size,5,none⟩ (.int .i64 0)).setCell ⟨w6.heap.size,6,none⟩ (.int .i64 (j:Int))):=(U3.setCell _ _ (.inl (by simp))).setCell _ _ (.inl (by simp))
       have U6:Upd [] w6 ((W3.setCell ⟨w6.heap.size,5,none⟩ (.int .i64 0)).setCell ⟨w6.heap.size,6,none⟩ (.int .i64 (j:Int))):=(HUA.out.seq huc).trans (T:=[]) U5 (by simp) (fun x hx => .inr (by simp at hx;omega))
       have ba:=Blk.new ((W3.setCell ⟨w6.heap.size,5,none⟩ (.int .i64 0)).setCell ⟨w6.heap.size,6,none⟩ (.int .i64 (j:Int))) 48 [.int .i64 1,.int .i64 1,.int .i64 ((lines ns).length:Int),.string ⟨#[97]⟩,.int .i64 1,.int .i64 0,.int .i64 (j:Int),.int .i64 (-1),.int .i64 (-1),.int .i64 (-1),.int .i64 (-1),.int .i64 (-1),.int .i64 (-1),.int .i64 (-1),.int .i64 (-1)]
       have zs:((W3.setCell ⟨w6.heap.size,5,none⟩ (.int .i64 0)).setCell ⟨w6.heap.size,6,none⟩ (.int .i64 (j:Int))).heap.size=W3.heap.size:=by simp
       rw [zs] at ba
       have ua2:=U6.alloc (.cells [.int .i64 1,.int .i64 1,.int .i64 ((lines ns).length:Int),.string ⟨#[97]⟩,.int .i64 1,.int .i64 0,.int .i64 (j:Int),.int .i64 (-1),.int .i64 (-1),.int .i64 (-1),.int .i64 (-1),.int .i64 (-1),.int .i64 (-1),.int .i64 (-1),.int .i64 (-1)].toArray 48)
       have HRUN:=Lib.hid (fun ty=>app_rec (r:=recF 1 1 (wantF (lines ns).length j)) HLM3.out ua2 (g:=W3.heap.size) (by rw [HHR.out];exact ba) (by rw [List.length_map,wants_len];omega) ty)
       have HUB:=Lib.hid ua2
       have c4:wc.cell? ⟨w6.heap.size,4,none⟩=some (.int .i64 2):=by rw [b0.cell];rfl
       have f4:=b0.frozen 4
       have c3:(wc.setCell ⟨w6.heap.size,4,none⟩ (.int .i64 1)).cell? ⟨w6.heap.size,3,none⟩=some (.string ⟨#[]⟩):=by rw [b1.cell];rfl
       have f3:=b1.frozen 3
       have c5:W3.cell? ⟨w6.heap.size,5,none⟩=some (.int .i64 (-1)):=by rw [b3.cell];rfl
       have f5:=b3.frozen 5
       have c6:(W3.setCell ⟨w6.heap.size,5,none⟩ (.int .i64 0)).cell? ⟨w6.heap.size,6,none⟩=some (.int .i64 (-1)):=by rw [b4.cell];rfl
       have f6:=b4.frozen 6
       have y0:=b5.cell 0
       have y1:=b5.cell 1
       have y2:=b5.cell 2
       have y3:=b5.cell 3
       have y4:=b5.cell 4
       have y5:=b5.cell 5
       have y6:=b5.cell 6
       have y7:=b5.cell 7
       have y8:=b5.cell 8
       have y9:=b5.cell 9
       have y10:=b5.cell 10
       have y11:=b5.cell 11
       have y12:=b5.cell 12
       have y13:=b5.cell 13
       have y14:=b5.cell 14
       simp only [List.getElem?_cons_zero,List.getElem?_cons_succ] at y0 y1 y2 y3 y4 y5 y6 y7 y8 y9 y10 y11 y12 y13 y14
       clear b0 b1 b2 b3 b4 b5 U2 U3 U5 U6 ua2 ba zs huc HUA HBA
       dsimp only
       go_wp2_with (first|((refine wpList_store_mid rfl 46 (.tmp 89) (.tmp 85) rfl w6.heap.size 5 #[.int .i64 (-1),.int .i64 (-1),.int .i64 (-1),.int .i64 (-1),.int .i64 (-1),.int .i64 (-1),.int .i64 (-1),.int .i64 (-1),.int .i64 (-1),.int .i64 (-1)] rfl rfl hth (by show _=some 10;exact infoCapsL) (by simp [Value.oneCell']) ?_);rw [show World.setCells ((wc.setCell ⟨w6.heap.size,4,none⟩ (.int .i64 1)).setCell ⟨w6.heap.size,3,none⟩ (.string ⟨#[97]⟩)) w6.heap.size 5 (#[.int .i64 (-1),.int .i64 (-1),.int .i64 (-1),.int .i64 (-1),.int .i64 (-1),.int .i64 (-1),.int .i64 (-1),.int .i64 (-1),.int .i64 (-1),.int .i64 (-1)]:Array Value).toList=W3 from HW3.out];clear hth)|(at_builtin;go_must (refine wpList_app_of rfl _ _ rfl u6 (.slice (some ⟨W3.heap.size,0,none⟩) 1 1) rfl rfl (HRUN.out _) ?_;rintro v7 w7 ⟨ho7,hu7,hk7⟩;have HLI:=Lib.hid (li_next (at' := .int .i64 ((lines ns).length+j+1:Int)) (lm_up HLM3.out HUB.out) hnle HN450.out (by omega) HZ2.out hu7 ho7 hk7 rfl);clear ho7 hu7 hk7 HRUN;dsimp only)))
       rw [HK] at HLI
       go_roundw
       case rel=>exact ⟨k+1,by omega,by omega,by go_num,HLI⟩
       case measure=>simp [intOf];omega
      ·have q5:¬ (j:Int)≤200:=by omega
       have hr:recCells (recF 1 1 (wantF (lines ns).length j))=[.int .i64 1,.int .i64 1,.int .i64 ((lines ns).length:Int),.string ⟨#[]⟩,.int .i64 2,.int .i64 0,.int .i64 0,.int .i64 0,.int .i64 0,.int .i64 0,.int .i64 0,.int .i64 0,.int .i64 0,.int .i64 0,.int .i64 0]:=by
        unfold wantF
        rw [if_neg hj2];rfl
       have ua1:Upd [] w6 (w6.alloc (.cells #[.int .i64 1,.int .i64 1,.int .i64 ((lines ns).length:Int),.string ⟨#[]⟩,.int .i64 2,.int .i64 0,.int .i64 0,.int .i64 0,.int .i64 0,.int .i64 0,.int .i64 0,.int .i64 0,.int .i64 0,.int .i64 0,.int .i64 0] 48)):=(Upd.refl [] w6).alloc _
       have ua2:=ua1.alloc (.cells #[.int .i64 1,.int .i64 1,.int .i64 ((lines ns).length:Int),.string ⟨#[]⟩,.int .i64 2,.int .i64 0,.int .i64 0,.int .i64 0,.int .i64 0,.int .i64 0,.int .i64 0,.int .i64 0,.int .i64 0,.int .i64 0,.int .i64 0] 48)
       have ba:=Blk.new (w6.alloc (.cells #[.int .i64 1,.int .i64 1,.int .i64 ((lines ns).length:Int),.string ⟨#[]⟩,.int .i64 2,.int .i64 0,.int .i64 0,.int .i64 0,.int .i64 0,.int .i64 0,.int .i64 0,.int .i64 0,.int .i64 0,.int .i64 0,.int .i64 0] 48)) 48 [.int .i64 1,.int .i64 1,.int .i64 ((lines ns).length:Int),.string ⟨#[]⟩,.int .i64 2,.int .i64 0,.int .i64 0,.int .i64 0,.int .i64 0,.int .i64 0,.int .i64 0,.int .i64 0,.int .i64 0,.int .i64 0,.int .i64 0]
       have zs:(w6.alloc (.cells #[.int .i64 1,.int .i64 1,.int .i64 ((lines ns).length:Int),.string ⟨#[]⟩,.int .i64 2,.int .i64 0,.int .i64 0,.int .i64 0,.int .i64 0,.int .i64 0,.int .i64 0,.int .i64 0,.int .i64 0,.int .i64 0,.int .i64 0] 48)).heap.size=w6.heap.size+1:=by simp
       rw [zs] at ba
       have HUA:=Lib.hid ua2
       have HRUN:=Lib.hid (fun ty=>app_rec (r:=recF 1 1 (wantF (lines ns).length j)) HLM3.out ua2 (g:=w6.heap.size+1) (by rw [hr];exact ba) (by rw [List.length_map,wants_len];omega) ty)
       have HHR:=Lib.hid hr
       clear ua1 ua2 ba zs hr
       go_wp2_with (at_builtin;go_must (refine wpList_app_of rfl _ _ rfl u6 (.slice (some ⟨w6.heap.size+1,0,none⟩) 1 1) rfl rfl (HRUN.out _) ?_;rintro v7 w7 ⟨ho7,hu7,hk7⟩;have HLI:=Lib.hid (li_next (at' := .int .i64 ((lines ns).length+j+1:Int)) (lm_up HLM3.out HUA.out) hnle HN450.out (by omega) HZ2.out hu7 ho7 hk7 rfl);clear ho7 hu7 hk7 HRUN;dsimp only))
       rw [HK] at HLI
       go_roundw
       case rel=>exact ⟨k+1,by omega,by omega,by go_num,HLI⟩
       case measure=>simp [intOf];omega
  ·obtain ⟨ns,q,P,F,hns,hn450,rfl,hws,how,hap,hq,hP,hup⟩:=hli.out
   have hl450:=lines_bd ns hn450
   rw [hns] at hl450
   have:=Nat.mul_le_mul_left 451 hk12
   have hfl:=feed_lines ns 0
   have hwl:=wants_len 0 ns
   have HPO:=Lib.hid (ws_poll hws hup.size (by omega) hP (by omega) (lines_mem ns) hfl (by omega))
   have HOW:=Lib.hid how
   have HAP:=Lib.hid hap
   have HUP:=Lib.hid hup
   have HLT:=Lib.hid hws.lt
   have HFL:=Lib.hid hfl
   have HWL:Hid ((wants 0 ns).length≤20):=by unfold Hid;omega
   have HQ:Hid (q≤20):=by unfold Hid;omega
   clear hns hn450 hws how hap hq hP hup hli hl450 this hfl hwl
   by_cases hlt2:k < sz.length
   ·have q1:(k:Int) < (sz.length:Int):=by omega
    have q2:¬ (k:Int) < 12:=by omega
    go_wp2_with fail
    (refine HPO.out.mono ?_)
    rintro e w3 ⟨rfl,h1,F',h2,h3⟩
    obtain ⟨L,l1,l2⟩:=updL h1
    have hup3:=updOld HUP.out h1 (fun x hx=>(HLT.out x hx).1)
    have how3:=HOW.out.upd l1 (fun x hx hL=>HAP.out x hx (l2 x hL))
    have hap3:∀ x∈blk u6,¬ F' x:=fun x hx hF=>by
     rcases h3 x hF with z|z
     ·exact HAP.out x hx z
     ·have:=(HOW.out.ge x hx).2;omega
    have HQY:=Lib.hid (query_any h2 hup3.size HQ.out HFL.out HWL.out)
    have HLT3:=Lib.hid h2.lt
    have HUP3:=Lib.hid hup3
    have HOW3:=Lib.hid how3
    have HAP3:=Lib.hid hap3
    clear h1 h2 h3 l1 l2 hup3 how3 hap3 HPO HUP HOW HAP HLT
    dsimp only
    go_wp2_with fail
    (refine HQY.out.mono ?_)
    rintro e w4 ⟨v,rfl,h1,h2⟩
    obtain ⟨L,l1,l2⟩:=updL h1
    have hup4:=updOld HUP3.out h1 (fun x hx=>(HLT3.out x hx).1)
    have how4:=HOW3.out.upd l1 (fun x hx hL=>HAP3.out x hx (l2 x hL))
    have HSM:=Lib.hid (sameRec_yes v u6 _ w4 (h2.rd recCells_len) (how4.rd recCells_len))
    have HUP4:=Lib.hid hup4
    clear h1 h2 l1 l2 hup4 how4 HQY HUP3 HOW3 HAP3 HLT3
    dsimp only
    go_wp2_with fail
    (refine HSM.out.mono ?_)
    rintro e w5 ⟨rfl,hu5⟩
    have HUP5:=Lib.hid (HUP4.out.seq hu5)
    clear hu5 HSM HUP4
    dsimp only
    go_wp2_with fail
    (refine (HAW.out w5).mono ?_)
    rintro e w6 ⟨rfl,hu6⟩
    have HUP6:=Lib.hid (HUP5.out.seq (upd_none hu6))
    clear hu6 HUP5
    dsimp only
    go_wp2_with fail
    go_ret
    exact ⟨rfl,HUP6.out⟩
   ·have q1:¬ (k:Int) < (sz.length:Int):=by omega
    go_wp2_with fail
    (refine HPO.out.mono ?_)
    rintro e w3 ⟨rfl,h1,F',h2,h3⟩
    obtain ⟨L,l1,l2⟩:=updL h1
    have hup3:=updOld HUP.out h1 (fun x hx=>(HLT.out x hx).1)
    have how3:=HOW.out.upd l1 (fun x hx hL=>HAP.out x hx (l2 x hL))
    have hap3:∀ x∈blk u6,¬ F' x:=fun x hx hF=>by
     rcases h3 x hF with z|z
     ·exact HAP.out x hx z
     ·have:=(HOW.out.ge x hx).2;omega
    have HQY:=Lib.hid (query_any h2 hup3.size HQ.out HFL.out HWL.out)
    have HLT3:=Lib.hid h2.lt
    have HUP3:=Lib.hid hup3
    have HOW3:=Lib.hid how3
    have HAP3:=Lib.hid hap3
    clear h1 h2 h3 l1 l2 hup3 how3 hap3 HPO HUP HOW HAP HLT
    dsimp only
    go_wp2_with fail
    (refine HQY.out.mono ?_)
    rintro e w4 ⟨v,rfl,h1,h2⟩
    obtain ⟨L,l1,l2⟩:=updL h1
    have hup4:=updOld HUP3.out h1 (fun x hx=>(HLT3.out x hx).1)
    have how4:=HOW3.out.upd l1 (fun x hx hL=>HAP3.out x hx (l2 x hL))
    have HSM:=Lib.hid (sameRec_yes v u6 _ w4 (h2.rd recCells_len) (how4.rd recCells_len))
    have HUP4:=Lib.hid hup4
    clear h1 h2 l1 l2 hup4 how4 HQY HUP3 HOW3 HAP3 HLT3
    dsimp only
    go_wp2_with fail
    (refine HSM.out.mono ?_)
    rintro e w5 ⟨rfl,hu5⟩
    have HUP5:=Lib.hid (HUP4.out.seq hu5)
    clear hu5 HSM HUP4
    dsimp only
    go_wp2_with fail
    (refine (HAW.out w5).mono ?_)
    rintro e w6 ⟨rfl,hu6⟩
    have HUP6:=Lib.hid (HUP5.out.seq (upd_none hu6))
    clear hu6 HUP5
    dsimp only
    go_wp2_with fail
    go_ret
    exact ⟨rfl,HUP6.out⟩
end Go.Proofs.YthgnlfikneipiaaGreat
namespace Go.Proofs.YthgnlfikneipiaaGreat
open Go.RowKit
open Go.Eng (UpdP plainV)
theorem awake_any (w:World):Calls Tryz.prog 12 #[] w fun e w'=>e = .returned (.bool true)∧UpdP (fun _=>False) w w':=by
 have hbd:@Eng.BD (plainV w.heap.size nu0) []:=bd_nil
 have hS:=sat_none w
 have h0:=@Eng.EB_ok (plainV w.heap.size nu0) [] hbd
 have h1:=@Eng.EBh_ok (plainV w.heap.size nu0) [] hbd _ (@Eng.memoOf_ok (plainV w.heap.size nu0) Tryz.prog [Eng.awOf,Eng.awFeed,Eng.awAdd,Eng.awEnc,Eng.awSet] (fun m hm=>by
  simp only [List.mem_cons,List.not_mem_nil,or_false] at hm
  rcases hm with rfl|rfl|rfl|rfl|rfl
  ·exact ⟨_,_,h0,Eng.awOf_e⟩
  ·exact ⟨_,_,h0,Eng.awFeed_e⟩
  ·exact ⟨_,_,h0,Eng.awAdd_e⟩
  ·exact ⟨_,_,h0,Eng.awEnc_e⟩
  ·exact ⟨_,_,h0,Eng.awSet_e⟩))
 have h2:=@Eng.EBh_ok (plainV w.heap.size nu0) [] hbd _ (@Eng.memoOf_ok (plainV w.heap.size nu0) Tryz.prog [Eng.awLoad,Eng.awPoll] (fun m hm=>by
  simp only [List.mem_cons,List.not_mem_nil,or_false] at hm
  rcases hm with rfl|rfl
  ·exact ⟨_,_,h0,Eng.awLoad_e⟩
  ·exact ⟨_,_,h1,Eng.awPoll_e⟩))
 refine (Eng.callP_ok (us:=[]) h2 Eng.awake_e trivial hS).mono ?_
 rintro e w' ⟨u,G,O,H,nx,rfl,k1,-,-,-,-,k2,-⟩
 have k1:some (Value.bool true)=some u:=k1
 cases k1
 exact ⟨rfl,k2⟩
end Go.Proofs.YthgnlfikneipiaaGreat
namespace Go.Proofs.YthgnlfikneipiaaGreat
open Go.RowKit
theorem topLong (w:World) (v0:Value) (l0:List Int) (w0:Rd iv w v0 l0) (g0:∀ x∈l0,I64 x) (_:l0.length*8≤140737488351232) (v1:Value) (l1:List Bool) (w1:Rd Value.bool w v1 l1) :
  Calls Tryz.prog 3 #[v0,v1] w fun e w'=>e = .returned (.bool true)∧Upd [] w w' :=
 topLong_any awake_any w v0 v1 l0 l1 w0 w1 g0
end Go.Proofs.YthgnlfikneipiaaGreat
