/- Texts of the proof, joined. -/
import Derived.Test.YthgnlfikneipiaaGreatMz12
import Derived.Test.YthgnlfikneipiaaGreatMz8
import Derived.Test.YthgnlfikneipiaaGreatMz11
import Derived.Test.YthgnlfikneipiaaGreatMz5
set_option linter.unusedSimpArgs false
set_option linter.unusedVariables false
set_option linter.unusedSectionVars false
namespace Go.Proofs.YthgnlfikneipiaaGreat
open Go.RowKit
open Go.Eng (Asr UpdP TS AllF All)
def flL (B:List UInt8):FL:=[((1:Int),nmLog,B)]
theorem flL_in (B:List UInt8):isIn ltY (flL B) 1=true∧(nth (flL B) (below ltY (flL B) 1)).2.2=B:=⟨rfl,rfl⟩
theorem sv_one (b:Nat) (w:World) (F:Nat→Prop) (u:Value) (m:Nat) (h:(svT b u m).P w F):u.oneCell'=true:=by
 obtain ⟨G,h1,h2,h3,h4⟩:=h
 obtain ⟨x,_,rfl⟩:=Option.map_eq_some_iff.1 (show (G 1).map _=some u from one_dn h3)
 rfl
theorem gv_new {gs:List Value} {n:Nat} (h:gs.length=n) (vs:List Value) (j:Nat) {v:Value} (hv:Eng.nth vs j=some v):gv (gs++vs) (n+j)=v:=gv_at (by rw [nth_new h,hv])
def stA (w0:World) (n0 N K:Nat) (rl:List Rec) (B:List UInt8) (l1 n1:Nat) (fds:List Fd):Nat→List Value→List (Asr w0.heap.size)
 | 0,gs=>[Eng.fact (gs.length=5),YdA w0 (gv gs 0) (flL B) n0,StA w0 (gv gs 1) (gv gs 2) (gv gs 3) rl N K,rulesA _ (gv gs 4),Eng.emp,Eng.emp,Eng.emp,Eng.emp,Eng.emp]
 | 1,gs=>[Eng.fact (gs.length=5),YdA w0 (gv gs 0) (flL B) n0,StA w0 (gv gs 1) (gv gs 2) (gv gs 3) rl N K,rulesA _ (gv gs 4),Eng.emp,Eng.emp,Eng.emp,Eng.emp,Eng.emp]
 | 2,gs=>[Eng.fact (gs.length=5),YdA w0 (gv gs 0) (flL B) n0,StA w0 (gv gs 1) (gv gs 2) (gv gs 3) rl N K,rulesA _ (gv gs 4),Eng.emp,Eng.emp,Eng.emp,Eng.emp,Eng.emp]
 | 3,gs=>[Eng.fact (gs.length=6),YdA w0 (gv gs 0) (flL B) (n0+1),StA w0 (gv gs 1) (gv gs 2) (gv gs 3) rl N K,rulesA _ (gv gs 4),byO _ (gv gs 5) (((nth (flL B) (below ltY (flL B) 1)).2.2.drop 0).take 16),Eng.emp,Eng.emp,Eng.emp,Eng.emp]
 | 4,gs=>[Eng.fact (gs.length=7),YdA w0 (gv gs 0) (flL B) (n0+1),StA w0 (gv gs 1) (gv gs 2) (gv gs 3) rl N K,rulesA _ (gv gs 4),byO _ (gv gs 5) (((nth (flL B) (below ltY (flL B) 1)).2.2.drop 0).take 16),strmA _ (gv gs 4) (gv gs 6) 0 0,Eng.emp,Eng.emp,Eng.emp]
 | 5,gs=>[Eng.fact (gs.length=8),YdA w0 (gv gs 0) (flL B) (n0+1),StA w0 (gv gs 1) (gv gs 2) (gv gs 3) rl N K,rulesA _ (gv gs 4),byO _ (gv gs 5) (((nth (flL B) (below ltY (flL B) 1)).2.2.drop 0).take 16),strmA _ (gv gs 4) (gv gs 6) 0 0,svT _ (gv gs 7) 0,Eng.emp,Eng.emp]
 | 6,gs=>[Eng.fact (gs.length=8),YdA w0 (gv gs 0) (flL B) (n0+1),StA w0 (gv gs 1) (gv gs 2) (gv gs 3) rl N K,rulesA _ (gv gs 4),byO _ (gv gs 5) (((nth (flL B) (below ltY (flL B) 1)).2.2.drop 0).take 16),strmA _ (gv gs 4) (gv gs 6) 0 0,svT _ (gv gs 7) 0,Eng.emp,Eng.emp]
 | 7,gs=>[Eng.fact (gs.length=9),YdA w0 (gv gs 0) (flL B) (n0+1),StA w0 (gv gs 1) (gv gs 2) (gv gs 3) rl N K,rulesA _ (gv gs 4),byO _ (gv gs 5) (((nth (flL B) (below ltY (flL B) 1)).2.2.drop 0).take 16),strmA _ (gv gs 4) (gv gs 8) 0 0,svT _ (gv gs 7) 0,Eng.emp,Eng.emp]
 | 8,gs=>[Eng.fact (gs.length=10),YdA w0 (gv gs 0) (flL B) (n0+1+1),StA w0 (gv gs 1) (gv gs 2) (gv gs 3) rl N K,rulesA _ (gv gs 4),byO _ (gv gs 5) (((nth (flL B) (below ltY (flL B) 1)).2.2.drop 0).take 16),strmA _ (gv gs 4) (gv gs 8) 0 0,svT _ (gv gs 7) 0,byO _ (gv gs 9) (((nth (flL B) (below ltY (flL B) 1)).2.2.drop 0).take B.length),Eng.emp]
 | 9,gs=>[Eng.fact (gs.length=11),YdA w0 (gv gs 0) (flL B) (n0+1+1),StA w0 (gv gs 1) (gv gs 2) (gv gs 3) rl N K,rulesA _ (gv gs 4),byO _ (gv gs 5) (((nth (flL B) (below ltY (flL B) 1)).2.2.drop 0).take 16),strmA _ (gv gs 4) (gv gs 8) l1 n1,svT _ (gv gs 7) 0,byO _ (gv gs 9) (((nth (flL B) (below ltY (flL B) 1)).2.2.drop 0).take B.length),fdO _ (gv gs 10) fds]
 | 10,gs=>[Eng.fact (gs.length=11),YdA w0 (gv gs 0) (flL B) (n0+1+1),StA w0 (gv gs 1) (gv gs 2) (gv gs 3) (rl++fds.map (recF 1 1)) (N+208*fds.length) (K+fds.length),rulesA _ (gv gs 4),byO _ (gv gs 5) (((nth (flL B) (below ltY (flL B) 1)).2.2.drop 0).take 16),strmA _ (gv gs 4) (gv gs 8) l1 n1,svT _ (gv gs 7) 0,byO _ (gv gs 9) (((nth (flL B) (below ltY (flL B) 1)).2.2.drop 0).take B.length),fdO _ (gv gs 10) fds]
 | 11,gs=>[Eng.fact (gs.length=13∧gv gs 12 = .bool (decide (200 < n1))),YdA w0 (gv gs 0) (flL B) (n0+1+1),StA w0 (gv gs 1) (gv gs 2) (gv gs 3) (rl++fds.map (recF 1 1)) (N+208*fds.length) (K+fds.length),rulesA _ (gv gs 4),byO _ (gv gs 5) (((nth (flL B) (below ltY (flL B) 1)).2.2.drop 0).take 16),strmA _ (gv gs 4) (gv gs 8) l1 n1,svT _ (gv gs 11) n1,byO _ (gv gs 9) (((nth (flL B) (below ltY (flL B) 1)).2.2.drop 0).take B.length),fdO _ (gv gs 10) fds]
 | 12,gs=>[Eng.fact (gs.length=14∧gv gs 12 = .bool (decide (200 < n1))∧∃ str:ByteArray,gv gs 13 = .string str∧str.size≤900),YdA w0 (gv gs 0) (flL B) (n0+1+1),StA w0 (gv gs 1) (gv gs 2) (gv gs 3) (rl++fds.map (recF 1 1)) (N+208*fds.length) (K+fds.length),rulesA _ (gv gs 4),byO _ (gv gs 5) (((nth (flL B) (below ltY (flL B) 1)).2.2.drop 0).take 16),strmA _ (gv gs 4) (gv gs 8) l1 n1,svT _ (gv gs 11) n1,Eng.emp,fdO _ (gv gs 10) fds]
 | _+13,gs=>[Eng.fact (gs.length=7∧gv gs 6 = .bool (decide (200 < n1))),YdA w0 (gv gs 0) (flL B) (n0+1+1),StA w0 (gv gs 1) (gv gs 2) (gv gs 3) (rl++fds.map (recF 1 1)) (N+208*fds.length+938) (K+fds.length+1),rulesA _ (gv gs 4),Eng.emp,Eng.emp,svT _ (gv gs 5) n1,Eng.emp,Eng.emp]
def stB (w0:World) (n0 N K:Nat) (rl:List Rec) (B:List UInt8) (l0 m0 at0 l1 n1:Nat) (fds:List Fd):Nat→List Value→List (Asr w0.heap.size)
 | 0,gs=>[Eng.fact (gs.length=7∧gv gs 6 = .bool (decide (200 < m0))),YdA w0 (gv gs 0) (flL B) n0,StA w0 (gv gs 1) (gv gs 2) (gv gs 3) rl N K,rulesA _ (gv gs 4),Eng.emp,Eng.emp,svT _ (gv gs 5) m0,Eng.emp,Eng.emp]
 | 1,gs=>[Eng.fact (gs.length=7∧gv gs 6 = .bool (decide (200 < m0))),YdA w0 (gv gs 0) (flL B) n0,StA w0 (gv gs 1) (gv gs 2) (gv gs 3) rl N K,rulesA _ (gv gs 4),Eng.emp,Eng.emp,svT _ (gv gs 5) m0,Eng.emp,Eng.emp]
 | 2,gs=>[Eng.fact (gs.length=7∧gv gs 6 = .bool (decide (200 < m0))),YdA w0 (gv gs 0) (flL B) n0,StA w0 (gv gs 1) (gv gs 2) (gv gs 3) rl N K,rulesA _ (gv gs 4),Eng.emp,Eng.emp,svT _ (gv gs 5) m0,Eng.emp,Eng.emp]
 | 3,gs=>[Eng.fact (gs.length=8∧gv gs 6 = .bool (decide (200 < m0))),YdA w0 (gv gs 0) (flL B) (n0+1),StA w0 (gv gs 1) (gv gs 2) (gv gs 3) rl N K,rulesA _ (gv gs 4),byO _ (gv gs 7) (((nth (flL B) (below ltY (flL B) 1)).2.2.drop 0).take 16),Eng.emp,svT _ (gv gs 5) m0,Eng.emp,Eng.emp]
 | 4,gs=>[Eng.fact (gs.length=8∧gv gs 6 = .bool (decide (200 < m0))),YdA w0 (gv gs 0) (flL B) (n0+1),StA w0 (gv gs 1) (gv gs 2) (gv gs 3) rl N K,rulesA _ (gv gs 4),byO _ (gv gs 7) (((nth (flL B) (below ltY (flL B) 1)).2.2.drop 0).take 16),Eng.emp,svT _ (gv gs 5) m0,Eng.emp,Eng.emp]
 | 5,gs=>[Eng.fact (gs.length=8∧gv gs 6 = .bool (decide (200 < m0))),YdA w0 (gv gs 0) (flL B) (n0+1),StA w0 (gv gs 1) (gv gs 2) (gv gs 3) rl N K,rulesA _ (gv gs 4),byO _ (gv gs 7) (((nth (flL B) (below ltY (flL B) 1)).2.2.drop 0).take 16),Eng.emp,svT _ (gv gs 5) m0,Eng.emp,Eng.emp]
 | 6,gs=>[Eng.fact (gs.length=9),YdA w0 (gv gs 0) (flL B) (n0+1),StA w0 (gv gs 1) (gv gs 2) (gv gs 3) rl N K,rulesA _ (gv gs 4),byO _ (gv gs 7) (((nth (flL B) (below ltY (flL B) 1)).2.2.drop 0).take 16),strmA _ (gv gs 4) (gv gs 8) l0 m0,svT _ (gv gs 5) m0,Eng.emp,Eng.emp]
 | 7,gs=>[Eng.fact (gs.length=10),YdA w0 (gv gs 0) (flL B) (n0+1+1),StA w0 (gv gs 1) (gv gs 2) (gv gs 3) rl N K,rulesA _ (gv gs 4),byO _ (gv gs 7) (((nth (flL B) (below ltY (flL B) 1)).2.2.drop 0).take 16),strmA _ (gv gs 4) (gv gs 8) l0 m0,svT _ (gv gs 5) m0,byO _ (gv gs 9) (((nth (flL B) (below ltY (flL B) 1)).2.2.drop at0).take (B.length-at0)),Eng.emp]
 | 8,gs=>[Eng.fact (gs.length=11),YdA w0 (gv gs 0) (flL B) (n0+1+1),StA w0 (gv gs 1) (gv gs 2) (gv gs 3) rl N K,rulesA _ (gv gs 4),byO _ (gv gs 7) (((nth (flL B) (below ltY (flL B) 1)).2.2.drop 0).take 16),strmA _ (gv gs 4) (gv gs 8) l1 n1,svT _ (gv gs 5) m0,byO _ (gv gs 9) (((nth (flL B) (below ltY (flL B) 1)).2.2.drop at0).take (B.length-at0)),fdO _ (gv gs 10) fds]
 | 9,gs=>[Eng.fact (gs.length=11),YdA w0 (gv gs 0) (flL B) (n0+1+1),StA w0 (gv gs 1) (gv gs 2) (gv gs 3) (rl++fds.map (recF 1 1)) (N+208*fds.length) (K+fds.length),rulesA _ (gv gs 4),byO _ (gv gs 7) (((nth (flL B) (below ltY (flL B) 1)).2.2.drop 0).take 16),strmA _ (gv gs 4) (gv gs 8) l1 n1,svT _ (gv gs 5) m0,byO _ (gv gs 9) (((nth (flL B) (below ltY (flL B) 1)).2.2.drop at0).take (B.length-at0)),fdO _ (gv gs 10) fds]
 | 10,gs=>[Eng.fact (gs.length=13∧gv gs 12 = .bool (decide (200 < n1))),YdA w0 (gv gs 0) (flL B) (n0+1+1),StA w0 (gv gs 1) (gv gs 2) (gv gs 3) (rl++fds.map (recF 1 1)) (N+208*fds.length) (K+fds.length),rulesA _ (gv gs 4),byO _ (gv gs 7) (((nth (flL B) (below ltY (flL B) 1)).2.2.drop 0).take 16),strmA _ (gv gs 4) (gv gs 8) l1 n1,svT _ (gv gs 11) n1,byO _ (gv gs 9) (((nth (flL B) (below ltY (flL B) 1)).2.2.drop at0).take (B.length-at0)),fdO _ (gv gs 10) fds]
 | 11,gs=>[Eng.fact (gs.length=14∧gv gs 12 = .bool (decide (200 < n1))∧∃ str:ByteArray,gv gs 13 = .string str∧str.size≤900),YdA w0 (gv gs 0) (flL B) (n0+1+1),StA w0 (gv gs 1) (gv gs 2) (gv gs 3) (rl++fds.map (recF 1 1)) (N+208*fds.length) (K+fds.length),rulesA _ (gv gs 4),byO _ (gv gs 7) (((nth (flL B) (below ltY (flL B) 1)).2.2.drop 0).take 16),strmA _ (gv gs 4) (gv gs 8) l1 n1,svT _ (gv gs 11) n1,Eng.emp,fdO _ (gv gs 10) fds]
 | _+12,gs=>[Eng.fact (gs.length=7∧gv gs 6 = .bool (decide (200 < n1))),YdA w0 (gv gs 0) (flL B) (n0+1+1),StA w0 (gv gs 1) (gv gs 2) (gv gs 3) (rl++fds.map (recF 1 1)) (N+208*fds.length+938) (K+fds.length+1),rulesA _ (gv gs 4),Eng.emp,Eng.emp,svT _ (gv gs 5) n1,Eng.emp,Eng.emp]
theorem kp_gv (gs:List Value) (i j:Nat) (h:5≤gs.length):(∀ q,q < 5→gv (gs.take 5++[gv gs i,gv gs j]) q=gv gs q)∧gv (gs.take 5++[gv gs i,gv gs j]) 5=gv gs i∧gv (gs.take 5++[gv gs i,gv gs j]) 6=gv gs j:=by
 have hl:(gs.take 5).length=5:=by rw [List.length_take];omega
 refine ⟨fun q hq=>?_,gv_new hl _ 0 rfl,gv_new hl _ 1 rfl⟩
 rw [gv_app _ (by rw [hl];exact hq)]
 unfold gv
 rw [nth_l,nth_l,List.getElem?_take,if_pos hq]
theorem gv_nth {gs:List Value} {i:Nat} (h:i < gs.length):Eng.nth gs i=some (gv gs i):=by
 unfold gv
 rw [nth_l,List.getElem?_eq_getElem h];rfl
theorem kp_mos [Eng.Val] (gs:List Value) (i j:Nat) (h:5≤gs.length) (hi:i < gs.length) (hj:j < gs.length):Eng.mos gs (Eng.ats 5++[.at i,.at j]) (gs.take 5++[gv gs i,gv gs j]):=by
 match gs,h with
 | a::b::c::d::e::r,_=>exact ⟨rfl,rfl,rfl,rfl,rfl,gv_nth hi,gv_nth hj,trivial⟩
theorem gv_pat {gs:List Value} (i:Nat) {v:Value} (h:Eng.nth gs i=some v):gv gs i=v:=gv_at h
theorem sv_pat [Eng.Val] {gs us:List Value} {li line m a b p:Nat} {lg:Bool} {sa sb sl sp:Eng.Sel} (h1:a=line+m) (h2:b=line) (h3:lg=decide (200 < m)) (h4:p=plN m) (hm:Eng.mvs gs (Eng.svS sa sb sl sp (.at li)) us) (hl:∀ {v},Eng.nth gs li=some v→gv gs li=v)
  (ha:∀ v,Eng.mv gs sa v→v = .int .i64 (a:Int)) (hb:∀ v,Eng.mv gs sb v→v = .int .i64 (b:Int)) (hg:∀ v,Eng.mv gs sl v→v = .bool lg) (hp:∀ v,Eng.mv gs sp v→v = .int .i64 (p:Int)):us=svVal line m (gv gs li):=by
 simp only [Eng.svS] at hm
 match us,hm with
 | [x5,x6,x7,x8,x9,x10,x11,x12,x13,x14,x15,x16,x17,x18,x19,x20],⟨c5,c6,c7,c8,c9,c10,c11,c12,c13,c14,c15,c16,c17,c18,c19,c20,_⟩ =>
  have c5:=ha _ c5
  have c6:=hb _ c6
  have c7:=hg _ c7
  have c16:=hp _ c16
  have c17:=hl c17
  cases c8;cases c9;cases c10;cases c11;cases c12;cases c13;cases c14;cases c15;cases c18;cases c19;cases c20
  rw [c5,c6,c7,c16,h1,h2,h3,h4,c17]
  rfl
def nuA (B:List UInt8) (l1 n1:Nat):Nat→Int
 | 2=>((min (B.take 16).length 16:Nat):Int)
 | 3=>((headSum (B.take 16)).toNat:Int)
 | 6=>(B.length:Int)
 | 7=>((l1+n1:Nat):Int)
 | 8=>(l1:Int)
 | 9=>(plN n1:Int)
 | _=>0
def nuB (B:List UInt8) (l0 m0 l1 n1 hl0:Nat) (hs0:Int):Nat→Int
 | 2=>((min (B.take 16).length 16:Nat):Int)
 | 3=>((headSum (B.take 16)).toNat:Int)
 | 6=>(B.length:Int)
 | 7=>((l1+n1:Nat):Int)
 | 8=>(l1:Int)
 | 9=>(plN n1:Int)
 | 10=>(hl0:Int)
 | 11=>hs0
 | 12=>((l0+m0:Nat):Int)
 | 13=>(l0:Int)
 | 14=>(plN m0:Int)
 | 15=>((B.length-(l0+m0):Nat):Int)
 | _=>0
section
variable {w0 : World} {n0 N K : Nat} {rl : List Rec} {B : List UInt8}
theorem pollA_ts (hn0:n0≤900) (hB:B.length≤60000) (hc:∀ c∈B,c=121∨c=10) (hok:AddOk 1 1 rl (feedL 0 0 B).2) (hK:K+(feedL 0 0 B).2.length+1≤4000) (hN:N+208*(feedL 0 0 B).2.length+938≤262000) (hl:rl.length+(feedL 0 0 B).2.length≤90000000) :
  ∀ T∈Eng.pollA,T.Ok Tryz.prog (nuA B (feedL 0 0 B).1.1 (feedL 0 0 B).1.2) (stA w0 n0 N K rl B (feedL 0 0 B).1.1 (feedL 0 0 B).1.2 (feedL 0 0 B).2):=by
 obtain ⟨f1,f2⟩:=flL_in B
 have hsum:=(feed_sum 0 0 B ((0,0),[])).1
 have hsum:B.length=(feedL 0 0 B).1.1+(feedL 0 0 B).1.2:=by simpa [feedL] using hsum
 generalize hfd:feedL 0 0 B=r at *
 obtain ⟨⟨l1,n1⟩,fds⟩:=r
 dsimp only at hok hK hN hl hsum ⊢
 have hBB:((nth (flL B) (below ltY (flL B) 1)).2.2.drop 0).take B.length=B:=by rw [f2];simp
 have hH:((nth (flL B) (below ltY (flL B) 1)).2.2.drop 0).take 16=B.take 16:=by rw [f2];simp
 have z16:∀ gs v,@Eng.mv (Eng.mkVal w0.heap.size (nuA B l1 n1) (stA w0 n0 N K rl B l1 n1 fds)) gs (.c (.int .i64 16)) v→v = .int .i64 ((16:Nat):Int):=fun gs v h=>(Option.some.inj (show some (Value.int .i64 16)=some v from h)).symm
 have z0:∀ gs v,@Eng.mv (Eng.mkVal w0.heap.size (nuA B l1 n1) (stA w0 n0 N K rl B l1 n1 fds)) gs Eng.i0 v→v = .int .i64 ((0:Nat):Int):=fun gs v h=>(Option.some.inj (show some (Value.int .i64 0)=some v from h)).symm
 intro T hT
 simp only [Eng.pollA,List.mem_cons,List.not_mem_nil,or_false] at hT
 rcases hT with rfl|rfl|rfl|rfl|rfl|rfl|rfl|rfl|rfl|rfl|rfl|rfl|rfl
 ·exact okMark (fun gs=>rfl) (fun gs _=>rfl) (fun gs h=>h) (by omega)
 ·exact okFiles (sz:=B.length) (fun gs=>rfl) (fun gs _=>rfl) (fun gs h=>h) rfl rfl
 ·refine okRead4 (p0:=fun gs=>gs.length=5) (p1:=fun gs=>gs.length=6) (at_:=0) (m:=16) (fun gs=>rfl) (fun gs u h=>?_) (fun gs h=>h) (fun gs u h=>by simp [h]) f1 (by omega) (by omega) (by omega) z0 z16 ?_
  ·have e:=fun i (hi:i < 5)=>gv_app (gs:=gs) [u] (i:=i) (by rw [h];exact hi)
   have w0:gv (gs++[u]) 5=u:=gv_new h [u] 0 rfl
   simp only [stA,e 0 (by omega),e 1 (by omega),e 2 (by omega),e 3 (by omega),e 4 (by omega),w0]
  ·rw [hH]
   show (0+(1*((min (B.take 16).length 16:Nat):Int)+0))=_
   rw [Nat.min_eq_left (by rw [List.length_take];omega)];omega
 ·refine okSNew (p0:=fun gs=>gs.length=6) (p1:=fun gs=>gs.length=7) (fun gs=>rfl) (fun gs u h=>?_) (fun gs h=>h) (fun gs u h=>by simp [h])
  ·have e:=fun i (hi:i < 6)=>gv_app (gs:=gs) [u] (i:=i) (by rw [h];exact hi)
   have w0:gv (gs++[u]) 6=u:=gv_new h [u] 0 rfl
   simp only [stA,e 0 (by omega),e 1 (by omega),e 2 (by omega),e 3 (by omega),e 4 (by omega),e 5 (by omega),w0]
 ·refine okState0 (x:=6) (p0:=fun gs=>gs.length=7) (p1:=fun gs=>gs.length=8) (fun gs=>rfl) (fun gs u h=>?_) (fun gs h=>h) (fun gs u h=>by simp [h]) sv_one
  ·have e:=fun i (hi:i < 7)=>gv_app (gs:=gs) [u] (i:=i) (by rw [h];exact hi)
   have w0:gv (gs++[u]) 7=u:=gv_new h [u] 0 rfl
   simp only [stA,e 0 (by omega),e 1 (by omega),e 2 (by omega),e 3 (by omega),e 4 (by omega),e 5 (by omega),e 6 (by omega),w0]
 ·exact okHead (N:=0) (hd:=5) (p0:=fun gs=>gs.length=8) (fun gs=>rfl) (fun gs _=>rfl) (fun gs h=>h) (by rw [hH];rfl) (by rw [hH];rfl)
 ·refine okOf (line:=0) (m:=0) (li:=7) (p0:=fun gs=>gs.length=8) (p1:=fun gs=>gs.length=9) (fun gs=>rfl) (fun gs u h=>?_) (fun gs h=>h) (fun gs u h=>by simp [h]) (by omega) (fun gs us h hm=>?_)
  ·have e:=fun i (hi:i < 8)=>gv_app (gs:=gs) [u] (i:=i) (by rw [h];exact hi)
   have w0:gv (gs++[u]) 8=u:=gv_new h [u] 0 rfl
   simp only [stA,e 0 (by omega),e 1 (by omega),e 2 (by omega),e 3 (by omega),e 4 (by omega),e 5 (by omega),e 7 (by omega),w0]
  ·exact @sv_pat (Eng.mkVal w0.heap.size (nuA B l1 n1) (stA w0 n0 N K rl B l1 n1 fds)) gs us 7 0 0 0 0 0 false _ _ _ _ rfl rfl rfl rfl hm (gv_pat 7) (z0 gs) (z0 gs) (fun v h=>(Option.some.inj (show some (Value.bool false)=some v from h)).symm) (z0 gs)
 ·refine okRead7 (p0:=fun gs=>gs.length=9) (p1:=fun gs=>gs.length=10) (at_:=0) (m:=B.length) (fun gs=>rfl) (fun gs u h=>?_) (fun gs h=>h) (fun gs u h=>by simp [h]) f1 (by omega) (by omega) (by omega) z0 (fun gs v h=>?_) ?_
  ·have e:=fun i (hi:i < 9)=>gv_app (gs:=gs) [u] (i:=i) (by rw [h];exact hi)
   have w0:gv (gs++[u]) 9=u:=gv_new h [u] 0 rfl
   simp only [stA,e 0 (by omega),e 1 (by omega),e 2 (by omega),e 3 (by omega),e 4 (by omega),e 5 (by omega),e 7 (by omega),e 8 (by omega),w0]
  ·have h:some (Value.int .i64 (0+(1*(B.length:Int)+0)))=some v:=h
   rw [← Option.some.inj h];congr 1;omega
  ·show (0+(1*(B.length:Int)+0))=_
   rw [f2];simp
 ·refine okFeed (x:=8) (bb:=9) (line:=0) (m:=0) (l:=((nth (flL B) (below ltY (flL B) 1)).2.2.drop 0).take B.length) (p0:=fun gs=>gs.length=10) (p1:=fun gs=>gs.length=11) (fun gs=>rfl) (fun gs u h=>?_) (fun gs h=>h) (fun gs u h=>by simp [h]) (by rw [hBB];omega) (by rw [hBB];exact hc)
  ·have e:=fun i (hi:i < 10)=>gv_app (gs:=gs) [u] (i:=i) (by rw [h];exact hi)
   have w0:gv (gs++[u]) 10=u:=gv_new h [u] 0 rfl
   rw [show feedL 0 0 (((nth (flL B) (below ltY (flL B) 1)).2.2.drop 0).take B.length)=((l1,n1),fds) by rw [hBB,hfd]]
   simp only [stA,e 0 (by omega),e 1 (by omega),e 2 (by omega),e 3 (by omega),e 4 (by omega),e 5 (by omega),e 7 (by omega),e 8 (by omega),e 9 (by omega),w0]
 ·exact okAdd (li:=10) (p0:=fun gs=>gs.length=11) (fun gs=>rfl) (fun gs _=>rfl) (fun gs h=>h) hok (by omega) (by omega) hl
 ·refine okState (x:=8) (line:=l1) (m:=n1) (p0:=fun gs=>gs.length=11) (p1:=fun gs=>gs.length=13∧gv gs 12 = .bool (decide (200 < n1))) (fun gs=>rfl) (fun gs u v h=>?_) (fun gs h=>h) (fun gs u h=>⟨by simp [h],gv_new h [u,.bool (decide (200 < n1))] 1 rfl⟩) sv_one (by omega) rfl rfl rfl
  ·have e:=fun i (hi:i < 11)=>gv_app (gs:=gs) [u,v] (i:=i) (by rw [h];exact hi)
   have w0:gv (gs++[u,v]) 11=u:=gv_new h [u,v] 0 rfl
   have w1:gv (gs++[u,v]) 12=v:=gv_new h [u,v] 1 rfl
   simp only [stA,e 0 (by omega),e 1 (by omega),e 2 (by omega),e 3 (by omega),e 4 (by omega),e 5 (by omega),e 8 (by omega),e 9 (by omega),e 10 (by omega),w0,w1]
 ·refine okEnc (hl:=((min (B.take 16).length 16:Nat):Int)) (hs:=((headSum (B.take 16)).toNat:Int)) (line:=l1) (m:=n1) (li:=11) (gi:=12) (p0:=fun gs=>gs.length=13∧gv gs 12 = .bool (decide (200 < n1))) (p1:=fun gs=>gs.length=14∧gv gs 12 = .bool (decide (200 < n1))∧∃ str:ByteArray,gv gs 13 = .string str∧str.size≤900) (fun gs=>rfl) (fun gs u h=>?_) (fun gs h=>h.1) (fun gs str h s1 s2=>⟨by simp [h.1],by rw [gv_app _ (by omega)];exact h.2,str,gv_new h.1 [.string str] 0 rfl,s2⟩) (by omega) (fun gs h=>h.2) rfl rfl rfl rfl rfl ⟨by omega,by omega⟩ ⟨by omega,by have:=(headSum (B.take 16)).isLt;omega⟩
  ·have e:=fun i (hi:i < 13)=>gv_app (gs:=gs) [u] (i:=i) (by rw [h.1];exact hi)
   have w0:gv (gs++[u]) 13=u:=gv_new h.1 [u] 0 rfl
   simp only [stA,e 0 (by omega),e 1 (by omega),e 2 (by omega),e 3 (by omega),e 4 (by omega),e 5 (by omega),e 8 (by omega),e 10 (by omega),e 11 (by omega),e 12 (by omega),w0]
 ·refine okSet (si:=13) (kp:=fun gs=>gs.take 5++[gv gs 11,gv gs 12]) (p0:=fun gs=>gs.length=14∧gv gs 12 = .bool (decide (200 < n1))∧∃ str:ByteArray,gv gs 13 = .string str∧str.size≤900) (p1:=fun gs=>gs.length=7∧gv gs 6 = .bool (decide (200 < n1))) (fun gs=>rfl) (fun gs h=>?_) (fun gs h=>?_) (fun gs h=>?_) (fun gs h=>h.2.2) (by omega) (by omega)
  ·obtain ⟨e,w0,w1⟩:=kp_gv gs 11 12 (show 5≤gs.length by omega)
   simp only [stA,e 0 (by omega),e 1 (by omega),e 2 (by omega),e 3 (by omega),e 4 (by omega),w0]
  ·exact ⟨by rw [List.length_append,List.length_take];simp;omega,(kp_gv gs 11 12 (by omega)).2.2.trans h.2.1⟩
  ·exact @kp_mos (Eng.mkVal w0.heap.size (nuA B l1 n1) (stA w0 n0 N K rl B l1 n1 fds)) gs 11 12 (by omega) (by omega) (by omega)
theorem pollB_ts {l0 m0 hl0:Nat} {hs0:Int} (hn0:n0≤900) (hB:B.length≤60000) (hc:∀ c∈B,c=121∨c=10) (hlt:l0+m0 < B.length) (q1:hl0≤16) (q2:hl0≤B.length) (q3:hs0=(sumOn 0 (B.take hl0)).toNat) (hok:AddOk 1 1 rl (feedL l0 m0 (B.drop (l0+m0))).2) (hK:K+(feedL l0 m0 (B.drop (l0+m0))).2.length+1≤4000) (hN:N+208*(feedL l0 m0 (B.drop (l0+m0))).2.length+938≤262000) (hl:rl.length+(feedL l0 m0 (B.drop (l0+m0))).2.length≤90000000) :
  ∀ T∈Eng.pollB,T.Ok Tryz.prog (nuB B l0 m0 (feedL l0 m0 (B.drop (l0+m0))).1.1 (feedL l0 m0 (B.drop (l0+m0))).1.2 hl0 hs0) (stB w0 n0 N K rl B l0 m0 (l0+m0) (feedL l0 m0 (B.drop (l0+m0))).1.1 (feedL l0 m0 (B.drop (l0+m0))).1.2 (feedL l0 m0 (B.drop (l0+m0))).2):=by
 obtain ⟨f1,f2⟩:=flL_in B
 have hsum:=(feed_sum 0 0 (B.drop (l0+m0)) ((l0,m0),[])).1
 have hsum:B.length=(feedL l0 m0 (B.drop (l0+m0))).1.1+(feedL l0 m0 (B.drop (l0+m0))).1.2:=by
  rw [List.length_drop] at hsum
  unfold feedL
  dsimp only at hsum
  omega
 generalize hfd:feedL l0 m0 (B.drop (l0+m0))=r at *
 obtain ⟨⟨l1,n1⟩,fds⟩:=r
 dsimp only at hok hK hN hl hsum ⊢
 have hBB:((nth (flL B) (below ltY (flL B) 1)).2.2.drop (l0+m0)).take (B.length-(l0+m0))=B.drop (l0+m0):=by rw [f2,List.take_of_length_le (by rw [List.length_drop];omega)]
 have hH:((nth (flL B) (below ltY (flL B) 1)).2.2.drop 0).take 16=B.take 16:=by rw [f2];simp
 have z16:∀ gs v,@Eng.mv (Eng.mkVal w0.heap.size (nuB B l0 m0 l1 n1 hl0 hs0) (stB w0 n0 N K rl B l0 m0 (l0+m0) l1 n1 fds)) gs (.c (.int .i64 16)) v→v = .int .i64 ((16:Nat):Int):=fun gs v h=>(Option.some.inj (show some (Value.int .i64 16)=some v from h)).symm
 have z0:∀ gs v,@Eng.mv (Eng.mkVal w0.heap.size (nuB B l0 m0 l1 n1 hl0 hs0) (stB w0 n0 N K rl B l0 m0 (l0+m0) l1 n1 fds)) gs Eng.i0 v→v = .int .i64 ((0:Nat):Int):=fun gs v h=>(Option.some.inj (show some (Value.int .i64 0)=some v from h)).symm
 have z12:∀ gs v,@Eng.mv (Eng.mkVal w0.heap.size (nuB B l0 m0 l1 n1 hl0 hs0) (stB w0 n0 N K rl B l0 m0 (l0+m0) l1 n1 fds)) gs (Eng.s64 12) v→v = .int .i64 ((l0+m0:Nat):Int):=fun gs v h=>by
  have h:some (Value.int .i64 (0+(1*((l0+m0:Nat):Int)+0)))=some v:=h
  rw [← Option.some.inj h];congr 1;omega
 have z13:∀ gs v,@Eng.mv (Eng.mkVal w0.heap.size (nuB B l0 m0 l1 n1 hl0 hs0) (stB w0 n0 N K rl B l0 m0 (l0+m0) l1 n1 fds)) gs (Eng.s64 13) v→v = .int .i64 (l0:Int):=fun gs v h=>by
  have h:some (Value.int .i64 (0+(1*(l0:Int)+0)))=some v:=h
  rw [← Option.some.inj h];congr 1;omega
 have z14:∀ gs v,@Eng.mv (Eng.mkVal w0.heap.size (nuB B l0 m0 l1 n1 hl0 hs0) (stB w0 n0 N K rl B l0 m0 (l0+m0) l1 n1 fds)) gs (Eng.s64 14) v→v = .int .i64 (plN m0:Int):=fun gs v h=>by
  have h:some (Value.int .i64 (0+(1*(plN m0:Int)+0)))=some v:=h
  rw [← Option.some.inj h];congr 1;omega
 intro T hT
 simp only [Eng.pollB,List.mem_cons,List.not_mem_nil,or_false] at hT
 rcases hT with rfl|rfl|rfl|rfl|rfl|rfl|rfl|rfl|rfl|rfl|rfl|rfl
 ·exact okMark (p0:=fun gs=>gs.length=7∧gv gs 6 = .bool (decide (200 < m0))) (fun gs=>rfl) (fun gs _=>rfl) (fun gs h=>h.1) (by omega)
 ·exact okFiles (sz:=B.length) (p0:=fun gs=>gs.length=7∧gv gs 6 = .bool (decide (200 < m0))) (fun gs=>rfl) (fun gs _=>rfl) (fun gs h=>h.1) rfl rfl
 ·refine okRead4 (p0:=fun gs=>gs.length=7∧gv gs 6 = .bool (decide (200 < m0))) (p1:=fun gs=>gs.length=8∧gv gs 6 = .bool (decide (200 < m0))) (at_:=0) (m:=16) (fun gs=>rfl) (fun gs u h=>?_) (fun gs h=>h.1) (fun gs u h=>⟨by simp [h.1],by rw [gv_app _ (by omega)];exact h.2⟩) f1 (by omega) (by omega) (by omega) z0 z16 ?_
  ·have e:=fun i (hi:i < 7)=>gv_app (gs:=gs) [u] (i:=i) (by rw [h.1];exact hi)
   have w0:gv (gs++[u]) 7=u:=gv_new h.1 [u] 0 rfl
   simp only [stB,e 0 (by omega),e 1 (by omega),e 2 (by omega),e 3 (by omega),e 4 (by omega),e 5 (by omega),e 6 (by omega),w0]
  ·rw [hH]
   show (0+(1*((min (B.take 16).length 16:Nat):Int)+0))=_
   rw [Nat.min_eq_left (by rw [List.length_take];omega)];omega
 ·exact okSame (hd:=7) (m:=hl0) (l:=((nth (flL B) (below ltY (flL B) 1)).2.2.drop 0).take 16) (at_:=0) (p0:=fun gs=>gs.length=8∧gv gs 6 = .bool (decide (200 < m0))) (fun gs=>rfl) (fun gs _=>rfl) (fun gs h=>h.1) rfl (by rw [hH,List.take_take,Nat.min_eq_left q1];exact q3) (by show ((l0+m0:Nat):Int)≤(B.length:Int);omega) q1 (by rw [hH,List.length_take];omega)
 ·exact okHead (N:=0) (hd:=7) (p0:=fun gs=>gs.length=8∧gv gs 6 = .bool (decide (200 < m0))) (fun gs=>rfl) (fun gs _=>rfl) (fun gs h=>h.1) (by rw [hH];rfl) (by rw [hH];rfl)
 ·refine okOf (line:=l0) (m:=m0) (li:=5) (p0:=fun gs=>gs.length=8∧gv gs 6 = .bool (decide (200 < m0))) (p1:=fun gs=>gs.length=9) (fun gs=>rfl) (fun gs u h=>?_) (fun gs h=>h.1) (fun gs u h=>by simp [h.1]) (by omega) (fun gs us h hm=>?_)
  ·have e:=fun i (hi:i < 8)=>gv_app (gs:=gs) [u] (i:=i) (by rw [h.1];exact hi)
   have w0:gv (gs++[u]) 8=u:=gv_new h.1 [u] 0 rfl
   simp only [stB,e 0 (by omega),e 1 (by omega),e 2 (by omega),e 3 (by omega),e 4 (by omega),e 5 (by omega),e 7 (by omega),w0]
  ·exact @sv_pat (Eng.mkVal w0.heap.size (nuB B l0 m0 l1 n1 hl0 hs0) (stB w0 n0 N K rl B l0 m0 (l0+m0) l1 n1 fds)) gs us 5 l0 m0 (l0+m0) l0 (plN m0) (decide (200 < m0)) _ _ _ _ rfl rfl rfl rfl hm (gv_pat 5) (z12 gs) (z13 gs) (fun v hv=>by rw [← gv_at (show Eng.nth gs 6=some v from hv)];exact h.2) (z14 gs)
 ·refine okRead7 (p0:=fun gs=>gs.length=9) (p1:=fun gs=>gs.length=10) (at_:=l0+m0) (m:=B.length-(l0+m0)) (fun gs=>rfl) (fun gs u h=>?_) (fun gs h=>h) (fun gs u h=>by simp [h]) f1 (by omega) (by omega) (by omega) z12 (fun gs v h=>?_) ?_
  ·have e:=fun i (hi:i < 9)=>gv_app (gs:=gs) [u] (i:=i) (by rw [h];exact hi)
   have w0:gv (gs++[u]) 9=u:=gv_new h [u] 0 rfl
   simp only [stB,e 0 (by omega),e 1 (by omega),e 2 (by omega),e 3 (by omega),e 4 (by omega),e 5 (by omega),e 7 (by omega),e 8 (by omega),w0]
  ·have h:some (Value.int .i64 (0+(1*(B.length:Int)+(-1*((l0+m0:Nat):Int)+0))))=some v:=h
   rw [← Option.some.inj h];congr 1;omega
  ·show (0+(1*((B.length-(l0+m0):Nat):Int)+0))=_
   rw [hBB,List.length_drop];omega
 ·refine okFeed (x:=8) (bb:=9) (line:=l0) (m:=m0) (l:=((nth (flL B) (below ltY (flL B) 1)).2.2.drop (l0+m0)).take (B.length-(l0+m0))) (p0:=fun gs=>gs.length=10) (p1:=fun gs=>gs.length=11) (fun gs=>rfl) (fun gs u h=>?_) (fun gs h=>h) (fun gs u h=>by simp [h]) (by rw [hBB,List.length_drop];omega) (by rw [hBB];exact fun c hx=>hc c (List.mem_of_mem_drop hx))
  ·have e:=fun i (hi:i < 10)=>gv_app (gs:=gs) [u] (i:=i) (by rw [h];exact hi)
   have w0:gv (gs++[u]) 10=u:=gv_new h [u] 0 rfl
   rw [show feedL l0 m0 (((nth (flL B) (below ltY (flL B) 1)).2.2.drop (l0+m0)).take (B.length-(l0+m0)))=((l1,n1),fds) by rw [hBB,hfd]]
   simp only [stB,e 0 (by omega),e 1 (by omega),e 2 (by omega),e 3 (by omega),e 4 (by omega),e 5 (by omega),e 7 (by omega),e 8 (by omega),e 9 (by omega),w0]
 ·exact okAdd (li:=10) (p0:=fun gs=>gs.length=11) (fun gs=>rfl) (fun gs _=>rfl) (fun gs h=>h) hok (by omega) (by omega) hl
 ·refine okState (x:=8) (line:=l1) (m:=n1) (p0:=fun gs=>gs.length=11) (p1:=fun gs=>gs.length=13∧gv gs 12 = .bool (decide (200 < n1))) (fun gs=>rfl) (fun gs u v h=>?_) (fun gs h=>h) (fun gs u h=>⟨by simp [h],gv_new h [u,.bool (decide (200 < n1))] 1 rfl⟩) sv_one (by omega) rfl rfl rfl
  ·have e:=fun i (hi:i < 11)=>gv_app (gs:=gs) [u,v] (i:=i) (by rw [h];exact hi)
   have w0:gv (gs++[u,v]) 11=u:=gv_new h [u,v] 0 rfl
   have w1:gv (gs++[u,v]) 12=v:=gv_new h [u,v] 1 rfl
   simp only [stB,e 0 (by omega),e 1 (by omega),e 2 (by omega),e 3 (by omega),e 4 (by omega),e 7 (by omega),e 8 (by omega),e 9 (by omega),e 10 (by omega),w0,w1]
 ·refine okEnc (hl:=((min (B.take 16).length 16:Nat):Int)) (hs:=((headSum (B.take 16)).toNat:Int)) (line:=l1) (m:=n1) (li:=11) (gi:=12) (p0:=fun gs=>gs.length=13∧gv gs 12 = .bool (decide (200 < n1))) (p1:=fun gs=>gs.length=14∧gv gs 12 = .bool (decide (200 < n1))∧∃ str:ByteArray,gv gs 13 = .string str∧str.size≤900) (fun gs=>rfl) (fun gs u h=>?_) (fun gs h=>h.1) (fun gs str h s1 s2=>⟨by simp [h.1],by rw [gv_app _ (by omega)];exact h.2,str,gv_new h.1 [.string str] 0 rfl,s2⟩) (by omega) (fun gs h=>h.2) rfl rfl rfl rfl rfl ⟨by omega,by omega⟩ ⟨by omega,by have:=(headSum (B.take 16)).isLt;omega⟩
  ·have e:=fun i (hi:i < 13)=>gv_app (gs:=gs) [u] (i:=i) (by rw [h.1];exact hi)
   have w0:gv (gs++[u]) 13=u:=gv_new h.1 [u] 0 rfl
   simp only [stB,e 0 (by omega),e 1 (by omega),e 2 (by omega),e 3 (by omega),e 4 (by omega),e 7 (by omega),e 8 (by omega),e 10 (by omega),e 11 (by omega),e 12 (by omega),w0]
 ·refine okSet (si:=13) (kp:=fun gs=>gs.take 5++[gv gs 11,gv gs 12]) (p0:=fun gs=>gs.length=14∧gv gs 12 = .bool (decide (200 < n1))∧∃ str:ByteArray,gv gs 13 = .string str∧str.size≤900) (p1:=fun gs=>gs.length=7∧gv gs 6 = .bool (decide (200 < n1))) (fun gs=>rfl) (fun gs h=>?_) (fun gs h=>?_) (fun gs h=>?_) (fun gs h=>h.2.2) (by omega) (by omega)
  ·obtain ⟨e,w0,w1⟩:=kp_gv gs 11 12 (show 5≤gs.length by omega)
   simp only [stB,e 0 (by omega),e 1 (by omega),e 2 (by omega),e 3 (by omega),e 4 (by omega),w0]
  ·exact ⟨by rw [List.length_append,List.length_take];simp;omega,(kp_gv gs 11 12 (by omega)).2.2.trans h.2.1⟩
  ·exact @kp_mos (Eng.mkVal w0.heap.size (nuB B l0 m0 l1 n1 hl0 hs0) (stB w0 n0 N K rl B l0 m0 (l0+m0) l1 n1 fds)) gs 11 12 (by omega) (by omega) (by omega)
end
end Go.Proofs.YthgnlfikneipiaaGreat
namespace Go.Proofs.YthgnlfikneipiaaGreat
open Go.RowKit
open Go.Eng (Asr UpdP TS AllF All engA plainV)
theorem all_last {b:Nat} {l:List (Asr b)} {A A':Asr b} {w:World} {F:Nat→Prop} (h:All (l++[A]) w F) (k:∀ F,A.P w F→A'.P w F):All (l++[A']) w F:=by
 obtain ⟨F1,F2,h1,h2,h3,h4⟩:=h.split
 exact h1.join (Eng.All.one.2 (k _ (Eng.All.one.1 h2))) h3 h4
theorem rt_split {b:Nat} {ν:Nat→Int} {G:Eng.GM} {l:List Eng.AV} {a:Eng.AV} {gs:List Value} {v:Value} (h:@Eng.dns (plainV b ν) G (l++[a])=some (gs++[v])):@Eng.dns (plainV b ν) G l=some gs∧@Eng.dn (plainV b ν) G a=some v:=by
 obtain ⟨x,y,h1,h2,h3⟩:=(@Eng.dns_app (plainV b ν) _ _ _ _).1 h
 obtain ⟨u,r,e1,e2,e3⟩:=(@Eng.dns_cons (plainV b ν) _ _ _ _).1 h2
 cases e2
 subst e3
 obtain ⟨q1,q2⟩:=List.append_inj' h3 rfl
 subst q1
 cases q2
 exact ⟨h1,e1⟩
theorem rt_join {b:Nat} {ν:Nat→Int} {G:Eng.GM} {l:List Eng.AV} {a:Eng.AV} {gs:List Value} {v:Value} (h1:@Eng.dns (plainV b ν) G l=some gs) (h2:@Eng.dn (plainV b ν) G a=some v):@Eng.dns (plainV b ν) G (l++[a])=some (gs++[v]):=(@Eng.dns_app (plainV b ν) _ _ _ _).2 ⟨_,_,h1,dn_one h2,rfl⟩
def W0 (w0:World) (vw:Value) (n0 N K:Nat) (rl:List Rec) (B:List UInt8) (w:World) (F:Nat→Prop):Prop :=
 ∃ gs,All (stA w0 n0 N K rl B 0 0 [] 0 gs++[engA w0.heap.size nu0 Eng.hW0 10 (Eng.as5++[.ptr 6 0]) (gs++[vw])]) w F
def nu1 (hl0:Nat) (hs0:Int) (l m:Nat):Nat→Int
 | 10=>(hl0:Int)
 | 11=>hs0
 | 12=>((l+m:Nat):Int)
 | 13=>(l:Int)
 | 14=>(plN m:Int)
 | _=>0
def W1 (w0:World) (vw:Value) (n0 N K:Nat) (rl:List Rec) (B:List UInt8) (l m hl0:Nat) (hs0:Int) (w:World) (F:Nat→Prop):Prop :=
 ∃ gs,All (stB w0 n0 N K rl B l m 0 0 0 [] 0 gs++[engA w0.heap.size (nu1 hl0 hs0 l m) Eng.hP1 13 (Eng.as7++[.ptr 8 0]) (gs++[vw])]) w F
def z16:Eng.Sb:=List.replicate 16 (Eng.lk 0 [])
def out0:Value := .agg #[.int .i64 0,.int .i64 0,.slice none 0 0,.slice none 0 0]
theorem plN_le (m:Nat):plN m≤200:=by unfold plN;split<;>omega
theorem bdP_ok {b:Nat} {B:List UInt8} {l n:Nat} (hB:B.length≤60000) (h:B.length=l+n):@Eng.BD (plainV b (nuA B l n)) Eng.bdP:=by
 have h1:=(headSum (B.take 16)).isLt
 have h2:=plN_le n
 intro i p hp
 match i with
 | 0=>cases hp;exact ⟨by show (0:Int)≤0;omega,by show (0:Int)≤1000000;omega⟩
 | 1=>cases hp;exact ⟨by show (0:Int)≤0;omega,by show (0:Int)≤1000000;omega⟩
 | 2=>cases hp;exact ⟨by show (0:Int)≤((min (B.take 16).length 16:Nat):Int);omega,by show ((min (B.take 16).length 16:Nat):Int)≤16;omega⟩
 | 3=>cases hp;exact ⟨by show (0:Int)≤((headSum (B.take 16)).toNat:Int);omega,by show ((headSum (B.take 16)).toNat:Int)≤4294967295;omega⟩
 | 4=>cases hp;exact ⟨by show (0:Int)≤0;omega,by show (0:Int)≤0;omega⟩
 | 5=>cases hp;exact ⟨by show (0:Int)≤0;omega,by show (0:Int)≤0;omega⟩
 | 6=>cases hp;exact ⟨by show (0:Int)≤(B.length:Int);omega,by show (B.length:Int)≤65536;omega⟩
 | 7=>cases hp;exact ⟨by show (0:Int)≤((l+n:Nat):Int);omega,by show ((l+n:Nat):Int)≤1000000;omega⟩
 | 8=>cases hp;exact ⟨by show (0:Int)≤(l:Int);omega,by show (l:Int)≤1000000;omega⟩
 | 9=>cases hp;exact ⟨by show (0:Int)≤(plN n:Int);omega,by show (plN n:Int)≤200;omega⟩
 | _+10=>cases hp
def sg:Eng.Sb:=List.replicate 10 (Eng.lk 0 [])++[Eng.lk 0 [(2,1)],Eng.lk 0 [(3,1)],Eng.lk 0 [(7,1)],Eng.lk 0 [(8,1)],Eng.lk 0 [(9,1)],Eng.lk 0 []]
section
variable {w0 w : World} {vw : Value} {n0 N K : Nat} {rl : List Rec} {B : List UInt8} {F : Nat → Prop}
theorem putsA (l n:Nat):Eng.Puts z16 (nuA B l n) nu0:=by
 intro i
 match i with
 | 0|1|2|3|4|5|6|7|8|9|10|11|12|13|14|15=>rfl
 | _+16=>rfl
theorem lin1 {b:Nat} {ν:Nat→Int} (i:Nat):@Eng.Lin.val (plainV b ν) (Eng.lk 0 [(i,1)])=ν i:=by
 show (0+(1*ν i+0):Int)=_;omega
theorem putsA1 (l n:Nat):Eng.Puts sg (nuA B l n) (nu1 (min (B.take 16).length 16) ((headSum (B.take 16)).toNat:Int) l n):=by
 intro i
 match i with
 | 0|1|2|3|4|5|6|7|8|9|15=>rfl
 | 10=>exact (@lin1 0 (nuA B l n) 2).symm
 | 11=>exact (@lin1 0 (nuA B l n) 3).symm
 | 12=>exact (@lin1 0 (nuA B l n) 7).symm
 | 13=>exact (@lin1 0 (nuA B l n) 8).symm
 | 14=>exact (@lin1 0 (nuA B l n) 9).symm
 | _+16=>rfl
theorem poll_first (h:W0 w0 vw n0 N K rl B w F) (hb:w0.heap.size≤w.heap.size) (hn0:n0≤900) (hB:B.length≤60000) (hc:∀ c∈B,c=121∨c=10) {l1 n1:Nat} {fds:List Fd} (hfd:feedL 0 0 B=((l1,n1),fds)) (hok:AddOk 1 1 rl fds) (hK:K+fds.length+1≤4000) (hN:N+208*fds.length+938≤262000) (hl:rl.length+fds.length≤90000000) :
  Calls Tryz.prog 8 #[vw,.agg #[.int .i64 6,.int .i64 0,.string ⟨#[]⟩,.string ⟨#[]⟩,.slice none 0 0,.slice none 0 0,.string ⟨#[]⟩]] w fun e w'=>e = .returned out0∧UpdP F w w'∧∃ F',W1 w0 vw (n0+1+1) (N+208*fds.length+938) (K+fds.length+1) (rl++fds.map (recF 1 1)) B l1 n1 (min (B.take 16).length 16) ((headSum (B.take 16)).toNat:Int) w' F'∧∀ x,F' x→F x∨w.heap.size≤x:=by
 obtain ⟨gs,hA⟩:=h
 have hts:=pollA_ts (w0:=w0) (n0:=n0) (N:=N) (K:=K) (rl:=rl) (B:=B) hn0 hB hc (by rw [hfd];exact hok) (by rw [hfd];exact hK) (by rw [hfd];exact hN) (by rw [hfd];exact hl)
 have hsum:=(feed_sum 0 0 B ((0,0),[])).1
 have hsum:B.length=(feedL 0 0 B).1.1+(feedL 0 0 B).1.2:=by simpa [feedL] using hsum
 rw [hfd] at hts hsum
 dsimp only at hts hsum
 have hbd:=bdP_ok (b:=w0.heap.size) hB hsum
 have hE:@Eng.EOK (Eng.mkVal w0.heap.size (nuA B l1 n1) (stA w0 n0 N K rl B l1 n1 fds)) Tryz.prog (Eng.EBh Eng.bdP (Eng.hks Eng.bdP Eng.pollA)):=@Eng.EBh_ok (Eng.mkVal w0.heap.size (nuA B l1 n1) (stA w0 n0 N K rl B l1 n1 fds)) Eng.bdP hbd _ (Eng.hks_ok hbd hts)
 have hA2:All (stA w0 n0 N K rl B l1 n1 fds 0 gs++[engA w0.heap.size (nuA B l1 n1) Eng.hW0 10 (Eng.as5++[.ptr 6 0]) (gs++[vw])]) w F:=all_last hA fun F' q=>Eng.engA_sub' (putsA l1 n1) (by rfl) rfl q
 refine (Eng.run_engs (us:=[vw,.agg #[.int .i64 6,.int .i64 0,.string ⟨#[]⟩,.string ⟨#[]⟩,.slice none 0 0,.slice none 0 0,.string ⟨#[]⟩]]) hE Eng.pollA_e (by omega) rfl hb hA2 (fun G hG=>⟨(rt_split hG).1,@Eng.dv_of_dn (plainV w0.heap.size (nuA B l1 n1)) _ _ _ (rt_split hG).2,rfl,trivial⟩)).mono ?_
 rintro e w' ⟨u,gs',G,rfl,k1,k2,⟨F0,k3⟩,k4,k5,G0,k6,k7⟩
 have k1:some out0=some u:=k1
 cases k1
 have r1:=@Eng.dn_mono (plainV w0.heap.size (nuA B l1 n1)) _ _ k6 _ _ (rt_split k7).2
 obtain ⟨F',a1,a2⟩:=k4 [gs'++[vw]] ⟨rt_join k2 r1,trivial⟩
 exact ⟨rfl,k5,F',⟨gs',all_last a1 fun F2 q=>Eng.engA_sub (putsA1 l1 n1) (by rfl) rfl q⟩,a2⟩
def sg2:Eng.Sb:=List.replicate 10 (Eng.lk 0 [])++[Eng.lk 0 [(10,1)],Eng.lk 0 [(11,1)],Eng.lk 0 [(12,1)],Eng.lk 0 [(13,1)],Eng.lk 0 [(14,1)],Eng.lk 0 []]
theorem putsB {l0 m0 l1 n1 hl0:Nat} {hs0:Int}:Eng.Puts sg2 (nuB B l0 m0 l1 n1 hl0 hs0) (nu1 hl0 hs0 l0 m0):=by
 intro i
 match i with
 | 0|1|2|3|4|5|6|7|8|9|15=>rfl
 | 10=>exact (@lin1 0 (nuB B l0 m0 l1 n1 hl0 hs0) 10).symm
 | 11=>exact (@lin1 0 (nuB B l0 m0 l1 n1 hl0 hs0) 11).symm
 | 12=>exact (@lin1 0 (nuB B l0 m0 l1 n1 hl0 hs0) 12).symm
 | 13=>exact (@lin1 0 (nuB B l0 m0 l1 n1 hl0 hs0) 13).symm
 | 14=>exact (@lin1 0 (nuB B l0 m0 l1 n1 hl0 hs0) 14).symm
 | _+16=>rfl
theorem putsB1 {l0 m0 l1 n1 hl0:Nat} {hs0:Int}:Eng.Puts sg (nuB B l0 m0 l1 n1 hl0 hs0) (nu1 (min (B.take 16).length 16) ((headSum (B.take 16)).toNat:Int) l1 n1):=by
 intro i
 match i with
 | 0|1|2|3|4|5|6|7|8|9|15=>rfl
 | 10=>exact (@lin1 0 (nuB B l0 m0 l1 n1 hl0 hs0) 2).symm
 | 11=>exact (@lin1 0 (nuB B l0 m0 l1 n1 hl0 hs0) 3).symm
 | 12=>exact (@lin1 0 (nuB B l0 m0 l1 n1 hl0 hs0) 7).symm
 | 13=>exact (@lin1 0 (nuB B l0 m0 l1 n1 hl0 hs0) 8).symm
 | 14=>exact (@lin1 0 (nuB B l0 m0 l1 n1 hl0 hs0) 9).symm
 | _+16=>rfl
theorem bdQ_ok {b l0 m0 l n hl0:Nat} {hs0:Int} (hB:B.length≤60000) (h:B.length=l+n) (hlt:l0+m0 < B.length) (q1:hl0≤16) (q3:0≤hs0∧hs0≤4294967295):@Eng.BD (plainV b (nuB B l0 m0 l n hl0 hs0)) Eng.bdQ:=by
 have h1:=(headSum (B.take 16)).isLt
 have h2:=plN_le n
 have h3:=plN_le m0
 intro i p hp
 match i with
 | 0=>cases hp;exact ⟨by show (0:Int)≤0;omega,by show (0:Int)≤1000000;omega⟩
 | 1=>cases hp;exact ⟨by show (0:Int)≤0;omega,by show (0:Int)≤1000000;omega⟩
 | 2=>cases hp;exact ⟨by show (0:Int)≤((min (B.take 16).length 16:Nat):Int);omega,by show ((min (B.take 16).length 16:Nat):Int)≤16;omega⟩
 | 3=>cases hp;exact ⟨by show (0:Int)≤((headSum (B.take 16)).toNat:Int);omega,by show ((headSum (B.take 16)).toNat:Int)≤4294967295;omega⟩
 | 4=>cases hp;exact ⟨by show (0:Int)≤0;omega,by show (0:Int)≤0;omega⟩
 | 5=>cases hp;exact ⟨by show (0:Int)≤0;omega,by show (0:Int)≤0;omega⟩
 | 6=>cases hp;exact ⟨by show (0:Int)≤(B.length:Int);omega,by show (B.length:Int)≤65536;omega⟩
 | 7=>cases hp;exact ⟨by show (0:Int)≤((l+n:Nat):Int);omega,by show ((l+n:Nat):Int)≤1000000;omega⟩
 | 8=>cases hp;exact ⟨by show (0:Int)≤(l:Int);omega,by show (l:Int)≤1000000;omega⟩
 | 9=>cases hp;exact ⟨by show (0:Int)≤(plN n:Int);omega,by show (plN n:Int)≤200;omega⟩
 | 10=>cases hp;exact ⟨by show (0:Int)≤(hl0:Int);omega,by show (hl0:Int)≤16;omega⟩
 | 11=>cases hp;exact q3
 | 12=>cases hp;exact ⟨by show (0:Int)≤((l0+m0:Nat):Int);omega,by show ((l0+m0:Nat):Int)≤1000000;omega⟩
 | 13=>cases hp;exact ⟨by show (0:Int)≤(l0:Int);omega,by show (l0:Int)≤1000000;omega⟩
 | 14=>cases hp;exact ⟨by show (0:Int)≤(plN m0:Int);omega,by show (plN m0:Int)≤200;omega⟩
 | 15=>cases hp;exact ⟨by show (1:Int)≤((B.length-(l0+m0):Nat):Int);omega,by show ((B.length-(l0+m0):Nat):Int)≤65536;omega⟩
 | _+16=>cases hp
theorem poll_more {l0 m0 hl0:Nat} {hs0:Int} (h:W1 w0 vw n0 N K rl B l0 m0 hl0 hs0 w F) (hb:w0.heap.size≤w.heap.size) (hn0:n0≤900) (hB:B.length≤60000) (hc:∀ c∈B,c=121∨c=10) (hlt:l0+m0 < B.length) (q1:hl0≤16) (q2:hl0≤B.length) (q3:hs0=(sumOn 0 (B.take hl0)).toNat) {l1 n1:Nat} {fds:List Fd} (hfd:feedL l0 m0 (B.drop (l0+m0))=((l1,n1),fds)) (hok:AddOk 1 1 rl fds) (hK:K+fds.length+1≤4000) (hN:N+208*fds.length+938≤262000) (hl:rl.length+fds.length≤90000000) :
  Calls Tryz.prog 8 #[vw,.agg #[.int .i64 6,.int .i64 0,.string ⟨#[]⟩,.string ⟨#[]⟩,.slice none 0 0,.slice none 0 0,.string ⟨#[]⟩]] w fun e w'=>e = .returned out0∧UpdP F w w'∧∃ F',W1 w0 vw (n0+1+1) (N+208*fds.length+938) (K+fds.length+1) (rl++fds.map (recF 1 1)) B l1 n1 (min (B.take 16).length 16) ((headSum (B.take 16)).toNat:Int) w' F'∧∀ x,F' x→F x∨w.heap.size≤x:=by
 obtain ⟨gs,hA⟩:=h
 have hts:=pollB_ts (w0:=w0) (n0:=n0) (N:=N) (K:=K) (rl:=rl) (B:=B) hn0 hB hc hlt q1 q2 q3 (by rw [hfd];exact hok) (by rw [hfd];exact hK) (by rw [hfd];exact hN) (by rw [hfd];exact hl)
 have hsum:=(feed_sum 0 0 (B.drop (l0+m0)) ((l0,m0),[])).1
 have hsum:B.length=(feedL l0 m0 (B.drop (l0+m0))).1.1+(feedL l0 m0 (B.drop (l0+m0))).1.2:=by
  rw [List.length_drop] at hsum
  unfold feedL
  dsimp only at hsum
  omega
 rw [hfd] at hts hsum
 dsimp only at hts hsum
 have q4:0≤hs0∧hs0≤4294967295:=by
  have:=(sumOn 0 (B.take hl0)).isLt
  subst q3;constructor<;>omega
 have hbd:=bdQ_ok (b:=w0.heap.size) (hs0:=hs0) hB hsum hlt q1 q4
 have hE:@Eng.EOK (Eng.mkVal w0.heap.size (nuB B l0 m0 l1 n1 hl0 hs0) (stB w0 n0 N K rl B l0 m0 (l0+m0) l1 n1 fds)) Tryz.prog (Eng.EBh Eng.bdQ (Eng.hks Eng.bdQ Eng.pollB)):=@Eng.EBh_ok (Eng.mkVal w0.heap.size (nuB B l0 m0 l1 n1 hl0 hs0) (stB w0 n0 N K rl B l0 m0 (l0+m0) l1 n1 fds)) Eng.bdQ hbd _ (Eng.hks_ok hbd hts)
 have hA2:All (stB w0 n0 N K rl B l0 m0 (l0+m0) l1 n1 fds 0 gs++[engA w0.heap.size (nuB B l0 m0 l1 n1 hl0 hs0) Eng.hP1 13 (Eng.as7++[.ptr 8 0]) (gs++[vw])]) w F:=all_last hA fun F' q=>Eng.engA_sub' (putsB (B:=B) (l1:=l1) (n1:=n1)) (by rfl) rfl q
 refine (Eng.run_engs (us:=[vw,.agg #[.int .i64 6,.int .i64 0,.string ⟨#[]⟩,.string ⟨#[]⟩,.slice none 0 0,.slice none 0 0,.string ⟨#[]⟩]]) hE Eng.pollB_e (by omega) rfl hb hA2 (fun G hG=>⟨(rt_split hG).1,@Eng.dv_of_dn (plainV w0.heap.size (nuB B l0 m0 l1 n1 hl0 hs0)) _ _ _ (rt_split hG).2,rfl,trivial⟩)).mono ?_
 rintro e w' ⟨u,gs',G,rfl,k1,k2,⟨F0,k3⟩,k4,k5,G0,k6,k7⟩
 have k1:some out0=some u:=k1
 cases k1
 have r1:=@Eng.dn_mono (plainV w0.heap.size (nuB B l0 m0 l1 n1 hl0 hs0)) _ _ k6 _ _ (rt_split k7).2
 obtain ⟨F',a1,a2⟩:=k4 [gs'++[vw]] ⟨rt_join k2 r1,trivial⟩
 exact ⟨rfl,k5,F',⟨gs',all_last a1 fun F2 q=>Eng.engA_sub putsB1 (by rfl) rfl q⟩,a2⟩
end
end Go.Proofs.YthgnlfikneipiaaGreat
namespace Go.Proofs.YthgnlfikneipiaaGreat
open Go.RowKit
open Go.Eng (Asr UpdP TS AllF All engA plainV)
theorem mos_aux2 [Eng.Val] (R:List Value):∀ (M P:List Value),Eng.mos (P++(M++R)) ((List.range' P.length M.length).map Eng.Sel.at) M
 | [],P=>trivial
 | v::M,P=>by
  refine ⟨?_,?_⟩
  ·show Eng.nth (P++(v::M++R)) P.length=some v
   rw [nth_l];simp
  ·have:=mos_aux2 R M (P++[v])
   rw [List.append_assoc,List.length_append] at this
   exact this
theorem mos_take [Eng.Val] {L:List Value} {n:Nat} (h:n≤L.length):Eng.mos L (Eng.ats n) (L.take n):=by
 have:=mos_aux2 (L.drop n) (L.take n) []
 rw [List.nil_append,List.take_append_drop,List.length_nil,List.length_take,Nat.min_eq_left h,← List.range_eq_range'] at this
 exact this
def rcO (b:Nat) (v:Value) (l:List Rec):Asr b where
 P w F:=OwnN 15 recCells b 48 w v l∧∀ x,F x↔x∈blk v
 up:=by
  rintro w w' F S ⟨h1,h4⟩ hu hs hb
  obtain ⟨L,k1,k2⟩:=updL hu
  exact ⟨h1.upd k1 (fun x hx hl=>hs x ((h4 x).2 hx) (k2 x hl)),h4⟩
 lt:=by
  rintro w F ⟨h1,h4⟩ x hx
  exact h1.ge x ((h4 x).1 hx)
theorem all_in {b:Nat} {pre post:List (Asr b)} {X:Asr b} {w:World} {F f:Nat→Prop} (h:All (pre++Eng.emp::post) w F) (hx:X.P w f) (hd:∀ x,f x→¬ F x):All (pre++X::post) w fun x=>F x∨f x:=by
 obtain ⟨F1,F2,h1,h2,h3,h4⟩:=h.split
 obtain ⟨E,F3,a1,a2,a3,a4⟩:=All.split (l:=[Eng.emp]) (m:=post) h2
 have a1:=Eng.All.one.1 a1
 refine h1.join (F2:=fun x=>f x∨F3 x) (Eng.All.join (l:=[X]) (Eng.All.one.2 hx) a2 (fun x p q=>hd x p ((h4 x).2 (.inr ((a4 x).2 (.inr q))))) fun x=>Iff.rfl) (fun x p q=>?_) fun x=>?_
 ·rcases q with q|q
  ·exact hd x q ((h4 x).2 (.inl p))
  ·exact h3 x p ((a4 x).2 (.inr q))
 ·constructor
  ·rintro (q|q)
   ·rcases (h4 x).1 q with q|q
    ·exact .inl q
    ·rcases (a4 x).1 q with q|q
     ·exact absurd q (a1 x)
     ·exact .inr (.inr q)
   ·exact .inr (.inl q)
  ·rintro (q|q|q)
   ·exact .inl ((h4 x).2 (.inl q))
   ·exact .inr q
   ·exact .inl ((h4 x).2 (.inr ((a4 x).2 (.inr q))))
theorem all_out {b:Nat} {pre post:List (Asr b)} {X:Asr b} {w:World} {F:Nat→Prop} (h:All (pre++X::post) w F):∃ F0 f,All (pre++Eng.emp::post) w F0∧X.P w f∧(∀ x,f x→¬ F0 x)∧∀ x,F x↔F0 x∨f x:=by
 obtain ⟨F1,F2,h1,h2,h3,h4⟩:=h.split
 obtain ⟨f,F3,a1,a2,a3,a4⟩:=All.split (l:=[X]) (m:=post) h2
 have a1:=Eng.All.one.1 a1
 refine ⟨fun x=>F1 x∨F3 x,f,h1.join (F2:=F3) (Eng.All.join (l:=[Eng.emp]) (F1:=fun _=>False) (Eng.All.one.2 (fun _ q=>q)) a2 (fun x p q=>p) fun x=>by simp) (fun x p q=>h3 x p ((a4 x).2 (.inr q))) (fun x=>Iff.rfl),a1,fun x p q=>?_,fun x=>?_⟩
 ·rcases q with q|q
  ·exact h3 x q ((a4 x).2 (.inl p))
  ·exact a3 x p q
 ·rw [h4,a4]
  constructor
  ·rintro (q|q|q)
   ·exact .inl (.inl q)
   ·exact .inr q
   ·exact .inl (.inr q)
  ·rintro ((q|q)|q)
   ·exact .inl q
   ·exact .inr (.inr q)
   ·exact .inr (.inl q)
section
variable {w0 : World} {ν : Nat → Int} {st : Nat → List Value → List (Asr w0.heap.size)} {k n : Nat} {p0 p1 : List Value → Prop} {a1 a2 a3 a4 a5 a6 a7 a8 : List Value → Asr w0.heap.size}
theorem okApp {fl fl':FL} {n0 d:Nat} {u dv:Value} {l p:List UInt8} (h0:∀ gs,st k gs=[Eng.fact (p0 gs),YdA w0 (gv gs 0) fl n0,a2 gs,a3 gs,byO _ u l,a5 gs,a6 gs,a7 gs,a8 gs])
  (h1:∀ gs,p0 gs→st (k+1) (gs.take n)=[Eng.fact (p1 (gs.take n)),YdA w0 (gv gs 0) fl' n0,a2 gs,a3 gs,byO _ u l,a5 gs,a6 gs,a7 gs,a8 gs])
  (hp:∀ gs,p0 gs→n≤gs.length) (hp1:∀ gs,p0 gs→p1 (gs.take n)) (hd:∀ gs,p0 gs→gv gs d=dv) (hb:∀ w,Own bv w0.heap.size 5 w u l→Bytes w dv p) (hl:p.length≤100000) (he:yAppend fl nmLog p=(0,fl')):(Eng.tApp k n d).Ok Tryz.prog ν st:=by
 intro w gs us fs F ha hA hF hbb
 have hA:AllF (st k gs) w fs:=hA
 rw [h0] at hA
 have hq:=(hA.at_ 0 _ rfl).1
 obtain ⟨G,hs,hG⟩:=hA.at_ 1 _ rfl
 obtain ⟨ho,hG2⟩:=hA.at_ 4 _ rfl
 match us,ha with
 | [u0,u1,u2],⟨a,b1,b2,_⟩ =>
  rw [gv_at a] at hs
  have b1:some (Value.string nmLog)=some u1:=b1
  cases b1
  have b2:=gv_at (show Eng.nth gs d=some u2 from b2)
  rw [hd gs hq] at b2
  subst b2
  refine (yd_append hs nmLog (hb w ho) hl he).mono ?_
  rintro e w' ⟨rfl,G',s',u',n'⟩
  rw [← gv_at a] at s'
  obtain ⟨F',r1,r2,r3⟩:=hA.step1 hF 1 (by simp) (A:=YdA w0 (gv gs 0) fl' n0) (f:=fun x=>x∈G') ⟨G',s',fun _=>Iff.rfl⟩ (updF u' hG) (fun x hx=>(n' x hx).imp (hG x).2 id)
  refine ⟨_,[],gs.take n,F',rfl,trivial,rfl,?_,?_,r2,r3⟩
  ·rw [List.append_nil];exact @mos_take (Eng.mkVal _ ν st) gs n (hp gs hq)
  ·show All (st (k+1) (gs.take n)) w' F'
   rw [h1 gs hq];exact fact_swap r1 (hp1 gs hq)
 | [],h=>exact h.elim
 | [_],h=>exact h.2.elim
 | [_,_],h=>exact h.2.2.elim
 | _::_::_::_::_,h=>exact h.2.2.2.elim
theorem st_list {w:World} {vd vl vj:Value} {rl:List Rec} {N K:Nat} {G:List Nat} (h:StQ w0 vd vl vj rl N K w G) (hl:rl.length≤100000000):Calls Tryz.prog 78 #[vl,.int .i64 0] w fun e w'=>∃ u,e = .returned u∧OwnN 15 recCells w.heap.size 48 w' u rl∧Upd [] w w':=by
 obtain ⟨gd,gl,gj,F,D,K,s,js,rfl,rfl,rfl,h4,h5,h6,h7,rfl⟩:=h
 obtain ⟨gm,lv,hc,hF⟩:=h4.lc
 refine (ledList_any hc 0 0 (Nat.zero_le _) (.inr (.inl rfl)) hl).mono ?_
 rintro e w' ⟨a,q,k,rfl,k1,k2⟩
 exact ⟨_,rfl,k1,k2⟩
theorem okList {rl:List Rec} {N K:Nat} (h0:∀ gs,st k gs=[Eng.fact (p0 gs),a1 gs,StA w0 (gv gs 1) (gv gs 2) (gv gs 3) rl N K,a3 gs,Eng.emp,a5 gs,a6 gs,a7 gs,a8 gs])
  (h1:∀ gs u,p0 gs→st (k+1) (gs++[u])=[Eng.fact (p1 (gs++[u])),a1 gs,StA w0 (gv gs 1) (gv gs 2) (gv gs 3) rl N K,a3 gs,rcO _ u rl,a5 gs,a6 gs,a7 gs,a8 gs])
  (hp:∀ gs,p0 gs→gs.length=n) (hp1:∀ gs u,p0 gs→p1 (gs++[u])) (hl:rl.length≤100000000):(Eng.tList k n).Ok Tryz.prog ν st:=by
 intro w gs us fs F ha hA hF hb
 have hA:AllF (st k gs) w fs:=hA
 rw [h0] at hA
 have hq:=(hA.at_ 0 _ rfl).1
 obtain ⟨G,hs,hG⟩:=hA.at_ 2 _ rfl
 have hE:=hA.at_ 4 _ rfl
 match us,ha with
 | [u0,u1],⟨a,b1,_⟩ =>
  have b1:some (Value.int .i64 0)=some u1:=b1
  cases b1
  have a:=gv_at (show Eng.nth gs 2=some u0 from a)
  rw [a] at hs
  refine (st_list hs hl).mono ?_
  rintro e w' ⟨out,rfl,g1,u'⟩
  have hone:out.oneCell'=true:=by
   rcases g1.2 with ⟨rfl,_⟩|⟨g,cap,cur,rfl,_⟩<;>rfl
  obtain ⟨F',r1,r2,r3⟩:=hA.step1 hF 4 (by simp) (A:=rcO _ out rl) (f:=fun x=>x∈blk out) ⟨ownN_le g1 hb,fun _=>Iff.rfl⟩ (updO (updP0 u') fun _ q=>q.elim) (fun x hx => .inr (g1.ge x hx).1)
  refine ⟨_,[out],gs++[out],F',rfl,⟨hone,trivial⟩,?_,?_,?_,r2,r3⟩
  ·exact nth_new (hp gs hq) [out] 0
  ·exact @mos_ats (Eng.mkVal _ ν st) _ (n+1) (by rw [List.length_append,hp gs hq];rfl)
  ·show All (st (k+1) (gs++[out])) w' F'
   rw [h1 gs out hq]
   exact fact_swap r1 (hp1 gs out hq)
 | [],h=>exact h.elim
 | [_],h=>exact h.2.elim
 | _::_::_::_,h=>exact h.2.2.elim
end
theorem app_log (B p:List UInt8) (h:B.length+p.length≤65536):yAppend (flL B) nmLog p=(0,flL (B++p)):=by
 unfold yAppend
 rw [if_pos (show hasN (flL B) nmLog=true by rfl)]
 rw [show bytesN (flL B) nmLog=B from rfl,if_neg (by omega)]
 rfl
end Go.Proofs.YthgnlfikneipiaaGreat
namespace Go.Proofs.YthgnlfikneipiaaGreat
open Go.RowKit
open Go.Eng (Asr UpdP TS AllF All engA plainV)
def stC (w0:World) (u dv:Value) (n0 N K:Nat) (rl:List Rec) (B B' l:List UInt8):Nat→List Value→List (Asr w0.heap.size)
 | 0,gs=>[Eng.fact (gs.length=6∧gv gs 5=dv),YdA w0 (gv gs 0) (flL B) n0,StA w0 (gv gs 1) (gv gs 2) (gv gs 3) rl N K,rulesA _ (gv gs 4),byO _ u l,Eng.emp,Eng.emp,Eng.emp,Eng.emp]
 | 1,gs=>[Eng.fact (gs.length=6∧gv gs 5=dv),YdA w0 (gv gs 0) (flL B) n0,StA w0 (gv gs 1) (gv gs 2) (gv gs 3) rl N K,rulesA _ (gv gs 4),byO _ u l,Eng.emp,Eng.emp,Eng.emp,Eng.emp]
 | _+2,gs=>[Eng.fact (gs.length=5),YdA w0 (gv gs 0) (flL B') n0,StA w0 (gv gs 1) (gv gs 2) (gv gs 3) rl N K,rulesA _ (gv gs 4),byO _ u l,Eng.emp,Eng.emp,Eng.emp,Eng.emp]
def stD (w0:World) (u dv:Value) (n0 N K:Nat) (rl:List Rec) (B B' l:List UInt8) (m0:Nat):Nat→List Value→List (Asr w0.heap.size)
 | 0,gs=>[Eng.fact ((gs.length=8∧gv gs 6 = .bool (decide (200 < m0)))∧gv gs 7=dv),YdA w0 (gv gs 0) (flL B) n0,StA w0 (gv gs 1) (gv gs 2) (gv gs 3) rl N K,rulesA _ (gv gs 4),byO _ u l,Eng.emp,svT _ (gv gs 5) m0,Eng.emp,Eng.emp]
 | 1,gs=>[Eng.fact ((gs.length=8∧gv gs 6 = .bool (decide (200 < m0)))∧gv gs 7=dv),YdA w0 (gv gs 0) (flL B) n0,StA w0 (gv gs 1) (gv gs 2) (gv gs 3) rl N K,rulesA _ (gv gs 4),byO _ u l,Eng.emp,svT _ (gv gs 5) m0,Eng.emp,Eng.emp]
 | _+2,gs=>[Eng.fact (gs.length=7∧gv gs 6 = .bool (decide (200 < m0))),YdA w0 (gv gs 0) (flL B') n0,StA w0 (gv gs 1) (gv gs 2) (gv gs 3) rl N K,rulesA _ (gv gs 4),byO _ u l,Eng.emp,svT _ (gv gs 5) m0,Eng.emp,Eng.emp]
def stQ (w0:World) (n0 N K:Nat) (rl:List Rec) (B:List UInt8) (m0:Nat):Nat→List Value→List (Asr w0.heap.size)
 | 0,gs=>[Eng.fact (gs.length=7∧gv gs 6 = .bool (decide (200 < m0))),YdA w0 (gv gs 0) (flL B) n0,StA w0 (gv gs 1) (gv gs 2) (gv gs 3) rl N K,rulesA _ (gv gs 4),Eng.emp,Eng.emp,svT _ (gv gs 5) m0,Eng.emp,Eng.emp]
 | 1,gs=>[Eng.fact (gs.length=7∧gv gs 6 = .bool (decide (200 < m0))),YdA w0 (gv gs 0) (flL B) n0,StA w0 (gv gs 1) (gv gs 2) (gv gs 3) rl N K,rulesA _ (gv gs 4),Eng.emp,Eng.emp,svT _ (gv gs 5) m0,Eng.emp,Eng.emp]
 | _+2,gs=>[Eng.fact (gs.length=8∧gv gs 6 = .bool (decide (200 < m0))),YdA w0 (gv gs 0) (flL B) n0,StA w0 (gv gs 1) (gv gs 2) (gv gs 3) rl N K,rulesA _ (gv gs 4),rcO _ (gv gs 7) rl,Eng.emp,svT _ (gv gs 5) m0,Eng.emp,Eng.emp]
theorem gv_take (gs:List Value) {n i:Nat} (h:i < n):gv (gs.take n) i=gv gs i:=by
 unfold gv
 rw [nth_l,nth_l,List.getElem?_take,if_pos h]
theorem engA_new {b:Nat} {ν:Nat→Int} {H:Eng.Hp} {n:Nat} {rt:List Eng.AV} {vals:List Value} {w:World} {F:Nat→Prop} {d:Value} (h:(engA b ν H n rt vals).P w F) (hd:d.oneCell'=true):(engA b ν H (n+1) (rt++[.opq n]) (vals++[d])).P w F:=by
 letI:Eng.Val:=plainV b ν
 obtain ⟨G,h1,h2,h3,h4⟩:=h
 let G':Eng.GM:=fun i=>if i=n then some ⟨0,0,0,0,d⟩ else G i
 have hle:Eng.GLe G G':=fun i x e=>by
  show (if i=n then _ else G i)=_
  rw [if_neg (fun q=>by rw [q,h2 n (Nat.le_refl _)] at e;cases e)];exact e
 have hn:∀ i c,Eng.getA H i=some c→c.live→i≠n:=fun i c hc hl q=>by
  obtain ⟨x,k1,_⟩:=h1.bs i c hc hl
  rw [q,h2 n (Nat.le_refl _)] at k1;cases k1
 have hG:∀ i,i≠n→G' i=G i:=fun i q=>if_neg q
 refine ⟨G',⟨fun i c hi hl=>?_,fun i j c e x y hi hc hj he hx hy hxy=>?_⟩,fun i hi=>?_,?_,h4⟩
 ·obtain ⟨x,k1,k2,k3,k4⟩:=h1.bs i c hi hl
  exact ⟨x,hle _ _ k1,k2,k3,k4.mono hle rfl⟩
 ·exact h1.inj i j c e x y hi hc hj he (by rw [← hG i (hn i c hi hc)];exact hx) (by rw [← hG j (hn j e hj he)];exact hy) hxy
 ·rw [hG i (by omega)];exact h2 i (by omega)
 ·refine rt_join (Eng.dns_mono hle h3) ?_
  show (G' n).bind Eng.GI.ov=some d
  rw [show G' n=some ⟨0,0,0,0,d⟩ from if_pos rfl]
  show (bif d.oneCell' then some d else none)=_
  rw [hd];rfl
theorem bd_nil {b:Nat} {ν:Nat→Int}:@Eng.BD (plainV b ν) []:=fun i p h=>by cases i<;>cases h
section
variable {w0 w : World} {vw u dv : Value} {n0 N K : Nat} {rl : List Rec} {B l p : List UInt8} {F : Nat → Prop}
theorem appA_ts (hK:K≤4000) (hb:∀ w,Own bv w0.heap.size 5 w u l→Bytes w dv p) (hl:B.length+p.length≤65536):∀ T∈Eng.appA,T.Ok Tryz.prog nu0 (stC w0 u dv n0 N K rl B (B++p) l):=by
 intro T hT
 simp only [Eng.appA,List.mem_cons,List.not_mem_nil,or_false] at hT
 rcases hT with rfl|rfl
 ·exact okMark (p0:=fun gs=>gs.length=6∧gv gs 5=dv) (fun gs=>rfl) (fun gs _=>rfl) (fun gs h=>h.1) hK
 ·refine okApp (p0:=fun gs=>gs.length=6∧gv gs 5=dv) (p1:=fun gs=>gs.length=5) (fun gs=>rfl) (fun gs h=>?_) (fun gs h=>by omega) (fun gs h=>by rw [List.length_take];omega) (fun gs h=>h.2) hb (by omega) (app_log B p hl)
  simp only [stC,gv_take gs (show 0 < 5 by omega),gv_take gs (show 1 < 5 by omega),gv_take gs (show 2 < 5 by omega),gv_take gs (show 3 < 5 by omega),gv_take gs (show 4 < 5 by omega)]
theorem appB_ts {m0:Nat} {ν:Nat→Int} (hK:K≤4000) (hb:∀ w,Own bv w0.heap.size 5 w u l→Bytes w dv p) (hl:B.length+p.length≤65536):∀ T∈Eng.appB,T.Ok Tryz.prog ν (stD w0 u dv n0 N K rl B (B++p) l m0):=by
 intro T hT
 simp only [Eng.appB,List.mem_cons,List.not_mem_nil,or_false] at hT
 rcases hT with rfl|rfl
 ·exact okMark (p0:=fun gs=>(gs.length=8∧gv gs 6 = .bool (decide (200 < m0)))∧gv gs 7=dv) (fun gs=>rfl) (fun gs _=>rfl) (fun gs h=>h.1.1) hK
 ·refine okApp (p0:=fun gs=>(gs.length=8∧gv gs 6 = .bool (decide (200 < m0)))∧gv gs 7=dv) (p1:=fun gs=>gs.length=7∧gv gs 6 = .bool (decide (200 < m0))) (fun gs=>rfl) (fun gs h=>?_) (fun gs h=>by omega) (fun gs h=>⟨by rw [List.length_take];omega,by rw [gv_take gs (by omega)];exact h.1.2⟩) (fun gs h=>h.2) hb (by omega) (app_log B p hl)
  simp only [stD,gv_take gs (show 0 < 7 by omega),gv_take gs (show 1 < 7 by omega),gv_take gs (show 2 < 7 by omega),gv_take gs (show 3 < 7 by omega),gv_take gs (show 4 < 7 by omega),gv_take gs (show 5 < 7 by omega),gv_take gs (show 6 < 7 by omega)]
theorem qryB_ts {m0:Nat} {ν:Nat→Int} (hK:K≤4000) (hl:rl.length≤100000000):∀ T∈Eng.qryB,T.Ok Tryz.prog ν (stQ w0 n0 N K rl B m0):=by
 intro T hT
 simp only [Eng.qryB,List.mem_cons,List.not_mem_nil,or_false] at hT
 rcases hT with rfl|rfl
 ·exact okMark (p0:=fun gs=>gs.length=7∧gv gs 6 = .bool (decide (200 < m0))) (fun gs=>rfl) (fun gs _=>rfl) (fun gs h=>h.1) hK
 ·refine okList (p0:=fun gs=>gs.length=7∧gv gs 6 = .bool (decide (200 < m0))) (p1:=fun gs=>gs.length=8∧gv gs 6 = .bool (decide (200 < m0))) (fun gs=>rfl) (fun gs v h=>?_) (fun gs h=>h.1) (fun gs v h=>⟨by simp [h.1],by rw [gv_app _ (by omega)];exact h.2⟩) hl
  have e:=fun i (hi:i < 7)=>gv_app (gs:=gs) [v] (i:=i) (by rw [h.1];exact hi)
  have e7:gv (gs++[v]) 7=v:=gv_new h.1 [v] 0 rfl
  simp only [stQ,e 0 (by omega),e 1 (by omega),e 2 (by omega),e 3 (by omega),e 4 (by omega),e 5 (by omega),e7]
theorem upd_own (hF:∀ x,F x→x < w.heap.size) {F' f':Nat→Prop} (k1:∀ x,F' x∨f' x→(F x∨x∈blk u)∨w.heap.size≤x) (k2:∀ x,f' x↔x∈blk u) (k3:∀ x,f' x→¬ F' x):∀ x,F' x→F x∨w.heap.size≤x:=fun x hx=>by
 rcases k1 x (.inl hx) with (q|q)|q
 ·exact .inl q
 ·exact absurd hx (k3 x ((k2 x).2 q))
 ·exact .inr q
theorem do_app_first (h:W0 w0 vw n0 N K rl B w F) (hb:w0.heap.size≤w.heap.size) (hK:K≤4000) (hu:Own bv w0.heap.size 5 w u l) (hd:∀ x∈blk u,¬ F x) (hdv:∀ w,Own bv w0.heap.size 5 w u l→Bytes w dv p) (h1:dv.oneCell'=true) (hl:B.length+p.length≤65536) :
  Calls Tryz.prog 8 #[vw,.agg #[.int .i64 2,.int .i64 0,.string nmLog,.string ⟨#[]⟩,dv,.slice none 0 0,.string ⟨#[]⟩]] w fun e w'=>e = .returned out0∧UpdP (fun x=>F x∨x∈blk u) w w'∧Own bv w0.heap.size 5 w' u l∧∃ F',W0 w0 vw n0 N K rl (B++p) w' F'∧(∀ x∈blk u,¬ F' x)∧∀ x,F' x→F x∨w.heap.size≤x:=by
 obtain ⟨gs,hA⟩:=h
 have hlt:∀ x,F x→x < w.heap.size:=fun x hx=>by
  obtain ⟨fs,a,b⟩:=hA
  obtain ⟨i,hi⟩:=(b x).1 hx
  exact (a.lt i x hi).2
 have hlen:gs.length=5:=by
  obtain ⟨fs,a,b⟩:=hA
  exact (a.at_ 0 _ rfl).1
 have hA1:=all_in (pre:=[_,_,_,_]) (X:=byO w0.heap.size u l) hA ⟨hu,fun _=>Iff.rfl⟩ hd
 have g5:gv (gs++[dv]) 5=dv:=gv_new hlen [dv] 0 rfl
 have e:=fun i (hi:i < 5)=>gv_app (gs:=gs) [dv] (i:=i) (by rw [hlen];exact hi)
 have hA2:All (stC w0 u dv n0 N K rl B (B++p) l 0 (gs++[dv])++[engA w0.heap.size nu0 Eng.hW0 11 (Eng.as5++[.ptr 6 0]++[.opq 10]) (gs++[vw]++[dv])]) w fun x=>F x∨x∈blk u:=by
  simp only [stC,e 0 (by omega),e 1 (by omega),e 2 (by omega),e 3 (by omega),e 4 (by omega)]
  exact all_last (fact_swap hA1 ⟨by simp [hlen],g5⟩) fun F' q=>engA_new q h1
 have hbd:@Eng.BD (plainV w0.heap.size nu0) []:=bd_nil
 have hE:@Eng.EOK (Eng.mkVal w0.heap.size nu0 (stC w0 u dv n0 N K rl B (B++p) l)) Tryz.prog (Eng.EBh [] (Eng.hks [] Eng.appA)):=@Eng.EBh_ok (Eng.mkVal w0.heap.size nu0 (stC w0 u dv n0 N K rl B (B++p) l)) [] hbd _ (Eng.hks_ok hbd (appA_ts hK hdv hl))
 have hA3:All (stC w0 u dv n0 N K rl B (B++p) l 0 (gs++[dv])++[engA w0.heap.size nu0 Eng.hW0 11 (Eng.as5++[.ptr 6 0]++[.opq 10]) (gs++[vw]++[dv])]) w fun x=>F x∨x∈blk u:=hA2
 refine (Eng.run_engs (us:=[vw,.agg #[.int .i64 2,.int .i64 0,.string nmLog,.string ⟨#[]⟩,dv,.slice none 0 0,.string ⟨#[]⟩]]) hE Eng.appA_e (by omega) rfl hb hA3 (fun G hG=>?_)).mono ?_
 ·obtain ⟨q1,q2⟩:=rt_split hG
  obtain ⟨q3,q4⟩:=rt_split q1
  refine ⟨rt_join q3 q2,@Eng.dv_of_dn (plainV w0.heap.size nu0) _ _ _ q4,?_,trivial⟩
  have q2:(G 10).bind Eng.GI.ov=some dv:=q2
  show (@Eng.dns (plainV w0.heap.size nu0) G [Eng.i6 2,Eng.i6 0,.str ⟨#[108,111,103]⟩,.str ⟨#[]⟩,.opq 10,.nils,.str ⟨#[]⟩]).map (fun us=>Value.agg us.toArray)=_
  simp [Eng.dns,Eng.dn,q2,Eng.i6,nmLog]
 ·rintro e w' ⟨x,gs',G,rfl,k1,k2,⟨F0,k3⟩,k4,k5,G0,k6,k7⟩
  have k1:some out0=some x:=k1
  cases k1
  have r1:=@Eng.dn_mono (plainV w0.heap.size nu0) _ _ k6 _ _ (rt_split (rt_split k7).1).2
  obtain ⟨F',a1,a2⟩:=k4 [gs'++[vw]] ⟨rt_join k2 r1,trivial⟩
  obtain ⟨F1,f,b1,⟨b2,b3⟩,b4,b5⟩:=all_out (pre:=[_,_,_,_]) (X:=byO w0.heap.size u l) a1
  exact ⟨rfl,k5,b2,F1,⟨gs',b1⟩,fun y hy=>b4 y ((b3 y).2 hy),upd_own hlt (fun y hy=>a2 y ((b5 y).2 hy)) b3 b4⟩
theorem do_app_more {l0 m0 hl0:Nat} {hs0:Int} (h:W1 w0 vw n0 N K rl B l0 m0 hl0 hs0 w F) (hb:w0.heap.size≤w.heap.size) (hK:K≤4000) (hu:Own bv w0.heap.size 5 w u l) (hd:∀ x∈blk u,¬ F x) (hdv:∀ w,Own bv w0.heap.size 5 w u l→Bytes w dv p) (h1:dv.oneCell'=true) (hl:B.length+p.length≤65536) :
  Calls Tryz.prog 8 #[vw,.agg #[.int .i64 2,.int .i64 0,.string nmLog,.string ⟨#[]⟩,dv,.slice none 0 0,.string ⟨#[]⟩]] w fun e w'=>e = .returned out0∧UpdP (fun x=>F x∨x∈blk u) w w'∧Own bv w0.heap.size 5 w' u l∧∃ F',W1 w0 vw n0 N K rl (B++p) l0 m0 hl0 hs0 w' F'∧(∀ x∈blk u,¬ F' x)∧∀ x,F' x→F x∨w.heap.size≤x:=by
 obtain ⟨gs,hA⟩:=h
 have hlt:∀ x,F x→x < w.heap.size:=fun x hx=>by
  obtain ⟨fs,a,b⟩:=hA
  obtain ⟨i,hi⟩:=(b x).1 hx
  exact (a.lt i x hi).2
 have hlen:gs.length=7∧gv gs 6 = .bool (decide (200 < m0)):=by
  obtain ⟨fs,a,b⟩:=hA
  exact (a.at_ 0 _ rfl).1
 have hA1:=all_in (pre:=[_,_,_,_]) (X:=byO w0.heap.size u l) hA ⟨hu,fun _=>Iff.rfl⟩ hd
 have g5:gv (gs++[dv]) 7=dv:=gv_new hlen.1 [dv] 0 rfl
 have e:=fun i (hi:i < 7)=>gv_app (gs:=gs) [dv] (i:=i) (by rw [hlen.1];exact hi)
 have hA2:All (stD w0 u dv n0 N K rl B (B++p) l m0 0 (gs++[dv])++[engA w0.heap.size (nu1 hl0 hs0 l0 m0) Eng.hP1 14 (Eng.as7++[.ptr 8 0]++[.opq 13]) (gs++[vw]++[dv])]) w fun x=>F x∨x∈blk u:=by
  simp only [stD,e 0 (by omega),e 1 (by omega),e 2 (by omega),e 3 (by omega),e 4 (by omega),e 5 (by omega),e 6 (by omega)]
  exact all_last (fact_swap hA1 ⟨⟨by simp [hlen],hlen.2⟩,g5⟩) fun F' q=>engA_new q h1
 have hbd:@Eng.BD (plainV w0.heap.size (nu1 hl0 hs0 l0 m0)) []:=bd_nil
 have hE:@Eng.EOK (Eng.mkVal w0.heap.size (nu1 hl0 hs0 l0 m0) (stD w0 u dv n0 N K rl B (B++p) l m0)) Tryz.prog (Eng.EBh [] (Eng.hks [] Eng.appB)):=@Eng.EBh_ok (Eng.mkVal w0.heap.size (nu1 hl0 hs0 l0 m0) (stD w0 u dv n0 N K rl B (B++p) l m0)) [] hbd _ (Eng.hks_ok hbd (appB_ts hK hdv hl))
 refine (Eng.run_engs (us:=[vw,.agg #[.int .i64 2,.int .i64 0,.string nmLog,.string ⟨#[]⟩,dv,.slice none 0 0,.string ⟨#[]⟩]]) hE Eng.appB_e (by omega) rfl hb hA2 (fun G hG=>?_)).mono ?_
 ·obtain ⟨q1,q2⟩:=rt_split hG
  obtain ⟨q3,q4⟩:=rt_split q1
  refine ⟨rt_join q3 q2,@Eng.dv_of_dn (plainV w0.heap.size (nu1 hl0 hs0 l0 m0)) _ _ _ q4,?_,trivial⟩
  have q2:(G 13).bind Eng.GI.ov=some dv:=q2
  show (@Eng.dns (plainV w0.heap.size (nu1 hl0 hs0 l0 m0)) G [Eng.i6 2,Eng.i6 0,.str ⟨#[108,111,103]⟩,.str ⟨#[]⟩,.opq 13,.nils,.str ⟨#[]⟩]).map (fun us=>Value.agg us.toArray)=_
  simp [Eng.dns,Eng.dn,q2,Eng.i6,nmLog]
 ·rintro e w' ⟨x,gs',G,rfl,k1,k2,⟨F0,k3⟩,k4,k5,G0,k6,k7⟩
  have k1:some out0=some x:=k1
  cases k1
  have r1:=@Eng.dn_mono (plainV w0.heap.size (nu1 hl0 hs0 l0 m0)) _ _ k6 _ _ (rt_split (rt_split k7).1).2
  obtain ⟨F',a1,a2⟩:=k4 [gs'++[vw]] ⟨rt_join k2 r1,trivial⟩
  obtain ⟨F1,f,b1,⟨b2,b3⟩,b4,b5⟩:=all_out (pre:=[_,_,_,_]) (X:=byO w0.heap.size u l) a1
  exact ⟨rfl,k5,b2,F1,⟨gs',b1⟩,fun y hy=>b4 y ((b3 y).2 hy),upd_own hlt (fun y hy=>a2 y ((b5 y).2 hy)) b3 b4⟩
theorem do_query {l0 m0 hl0:Nat} {hs0:Int} (h:W1 w0 vw n0 N K rl B l0 m0 hl0 hs0 w F) (hb:w0.heap.size≤w.heap.size) (hK:K≤4000) (hl:rl.length≤100000000) :
  Calls Tryz.prog 8 #[vw,.agg #[.int .i64 8,.int .i64 0,.string ⟨#[]⟩,.string ⟨#[]⟩,.slice none 0 0,.slice none 0 0,.string ⟨#[]⟩]] w fun e w'=>∃ v,e = .returned (.agg #[.int .i64 0,.int .i64 0,.slice none 0 0,v])∧UpdP F w w'∧OwnN 15 recCells w0.heap.size 48 w' v rl∧∀ x∈blk v,F x∨w.heap.size≤x:=by
 obtain ⟨gs,hA⟩:=h
 have hbd:@Eng.BD (plainV w0.heap.size (nu1 hl0 hs0 l0 m0)) []:=bd_nil
 have hE:@Eng.EOK (Eng.mkVal w0.heap.size (nu1 hl0 hs0 l0 m0) (stQ w0 n0 N K rl B m0)) Tryz.prog (Eng.EBh [] (Eng.hks [] Eng.qryB)):=@Eng.EBh_ok (Eng.mkVal w0.heap.size (nu1 hl0 hs0 l0 m0) (stQ w0 n0 N K rl B m0)) [] hbd _ (Eng.hks_ok hbd (qryB_ts hK hl))
 have hA2:All (stQ w0 n0 N K rl B m0 0 gs++[engA w0.heap.size (nu1 hl0 hs0 l0 m0) Eng.hP1 13 (Eng.as7++[.ptr 8 0]) (gs++[vw])]) w F:=hA
 refine (Eng.run_engs (us:=[vw,.agg #[.int .i64 8,.int .i64 0,.string ⟨#[]⟩,.string ⟨#[]⟩,.slice none 0 0,.slice none 0 0,.string ⟨#[]⟩]]) hE Eng.qryB_e (by omega) rfl hb hA2 (fun G hG=>⟨(rt_split hG).1,@Eng.dv_of_dn (plainV w0.heap.size (nu1 hl0 hs0 l0 m0)) _ _ _ (rt_split hG).2,rfl,trivial⟩)).mono ?_
 rintro e w' ⟨x,gs',G,rfl,k1,k2,⟨F0,k3⟩,k4,k5,G0,k6,k7⟩
 have hlast:=@Eng.dns_app (plainV w0.heap.size (nu1 hl0 hs0 l0 m0)) G Eng.as7 [.opq 17] gs'
 obtain ⟨g1,g2,hg1,hg2,rfl⟩:=hlast.1 k2
 obtain ⟨v,r,e1,e2,rfl⟩:=(@Eng.dns_cons (plainV w0.heap.size (nu1 hl0 hs0 l0 m0)) _ _ _ _).1 hg2
 cases e2
 have r1:=@Eng.dn_mono (plainV w0.heap.size (nu1 hl0 hs0 l0 m0)) _ _ k6 _ _ (rt_split k7).2
 obtain ⟨F',a1,a2⟩:=k4 [g1++[vw]] ⟨rt_join hg1 r1,trivial⟩
 obtain ⟨F1,f,b1,⟨b2,b3⟩,b4,b5⟩:=all_out (pre:=[_,_,_,_]) (X:=rcO w0.heap.size (gv (g1++[v]) 7) rl) a1
 have hfl:(g1++[v]).length=8:=by
  obtain ⟨fs,a,b⟩:=b1
  exact (a.at_ 0 _ rfl).1.1
 have hv:gv (g1++[v]) 7=v:=gv_new (by simpa using hfl) [v] 0 rfl
 rw [hv] at b2 b3
 have e1:(G 17).bind Eng.GI.ov=some v:=e1
 have k1:(@Eng.dns (plainV w0.heap.size (nu1 hl0 hs0 l0 m0)) G [Eng.i6 0,Eng.i6 0,.nils,.opq 17]).map (fun us=>Value.agg us.toArray)=some x:=k1
 simp [Eng.dns,Eng.dn,e1,Eng.i6] at k1
 exact ⟨v,by rw [← k1],k5,b2,fun y hy=>a2 y ((b5 y).2 (.inr ((b3 y).2 hy)))⟩
end
end Go.Proofs.YthgnlfikneipiaaGreat
namespace Go.Proofs.YthgnlfikneipiaaGreat
open Go.RowKit
def dE:DS:=⟨[],[],[]⟩
set_option maxRecDepth 20000 in
theorem fNextE (w:World) (a:Option Addr) (cap:Nat) (hc:cap≤maxLen) :
  Calls Tryz.prog 87 #[.slice a 0 cap,.int .i64 0] w fun e w'=>e = .returned (.tuple #[.slice none 0 0,.int .i64 0,.int .i64 3])∧w'=w:=by
 have hk3:(0:Int)≤cap:=by omega
 have hcut:=run_cut (P:=Tryz.prog) Tryz.underlying33 sizeByte a 0 cap 0 (Nat.le_refl _)
 simp only [Nat.mul_one,Nat.sub_zero,Nat.sub_self] at hcut
 generalize (if cap=0 then a else a.map (·.add 0))=ak at *
 go_enter Tryz.func87,Tryz.ntmps87
 go_wp2_with fail
 go_ret3
 exact ⟨rfl,rfl⟩
section
variable {w0 w : World} {gd : Nat} {G : List Nat}
set_option maxRecDepth 20000 in
set_option maxHeartbeats 8000000 in
theorem ledOpenE_any (h:DD w0 w gd G dE) :
  Calls Tryz.prog 49 #[.pointer (some ⟨gd,0,none⟩)] w fun e w'=>∃ gl,e = .returned (.tuple #[.pointer (some ⟨gl,0,none⟩),.int .i64 0])∧LOut w0 w gd gl G [] dE w':=by
 have hG:∀ x∈G,x < w.heap.size:=fun x hx=>(h.ge x hx).2
 have HG:=Lib.hid hG
 have HD:=Lib.hid h
 have HL0:=Lib.hid (LC.new w gd)
 have hmm:=@run_makeMap Tryz.prog
 clear h hG
 go_enter Tryz.func49,Tryz.ntmps49
 go_wp2_with fail
 have HLC0:=HL0
 generalize (w.alloc (.map #[] 0)).alloc (.cells #[.pointer (some ⟨gd,0,none⟩),.slice none 0 0,.map (some w.heap.size)] 216)=w2 at *
 (with_reducible refine (dkRead_any nmL (HD.out.upd0 HL0.out.old) (by decide)).mono ?_)
 rintro e w3 ⟨vb,rfl,hob,hu3⟩
 have hb:(dGet dE.now nmL).1=[]:=rfl
 have hb2:(dGet dE.now nmL).2=false:=rfl
 rw [hb] at hob
 have HL3:=Lib.hid (HL0.out.upd0 hu3)
 obtain ⟨ba,bk,rfl,hbk1,hbk2,-⟩:=hob.rd
 have hbk3:bk≤9223372036854775807:=by unfold maxLen at hbk2;omega
 have HBK:=Lib.hid hbk2
 generalize w.heap.size+1=gl at *
 clear hob hu3 hbk2 HL0 HLC0 hmm
 try rw [hb2]
 go_wp2_with fail
 go_loopw [7] (fun i wr=>i = .int .i64 0∧wr=w3) (fun i wr=>0)
 case atStart=>exact ⟨rfl,rfl⟩
 case round =>
  obtain ⟨rfl,rfl⟩:=hrel
  go_wp2_with fail
  (with_reducible refine (fNextE _ ba bk HBK.out).mono ?_)
  rintro e w4 ⟨rfl,rfl⟩
  go_wp2_with fail
  go_ret2
  exact ⟨gl,rfl,lopen_done HD.out HL3.out (fun r hr=>by cases hr) ((HD.out.upd0 HL3.out.old).out0 (Upd.refl [] _)) HG.out⟩
set_option maxRecDepth 20000 in
set_option maxHeartbeats 8000000 in
theorem jopenE_any (h:DD w0 w gd G dE) :
  Calls Tryz.prog 50 #[.pointer (some ⟨gd,0,none⟩)] w fun e w'=>∃ gj,e = .returned (.tuple #[.pointer (some ⟨gj,0,none⟩),.int .i64 0])∧JOut w0 w gd gj G [] dE w':=by
 have HG:Hid (∀ x∈G,x < w.heap.size):=fun x hx=>(h.ge x hx).2
 have HD:=Lib.hid h
 clear h
 go_enter Tryz.func50,Tryz.ntmps50
 go_wp2_with fail
 (with_reducible refine (dkRead_any nmN HD.out (by decide)).mono ?_)
 rw [show (dGet dE.now nmN).2=false from rfl]
 rintro e w2 ⟨v1,rfl,-,hu1⟩
 have H2:=Lib.hid (HD.out.upd0 hu1)
 have HU2:Hid (Upd G w w2):=hu1.mono (by simp)
 have HG1:Hid (∀ x∈G,x∈G∨w.heap.size≤x):=fun x hx => .inl hx
 clear hu1
 go_wp2_with fail
 (with_reducible refine (txIS_New w0 w2 H2.out.old).mono ?_)
 rintro e w3 ⟨gt,F0,rfl,ht3,hu3,hf3⟩
 have hu4:Upd [] w3 (w3.alloc (.cells #[.pointer (some ⟨gd,0,none⟩),.pointer (some ⟨gt,0,none⟩)] 226)):=(Upd.refl [] w3).alloc _
 have HJ0:Hid (JD w0 (w3.alloc (.cells #[.pointer (some ⟨gd,0,none⟩),.pointer (some ⟨gt,0,none⟩)] 226)) gd w3.heap.size (w3.heap.size::F0) G [] dE):=by
  have hg:=(H2.out.ge)
  have hsz:=hu3.size
  refine ⟨⟨gt,F0,⟨Blk.new w3 _ [.pointer (some ⟨gd,0,none⟩),.pointer (some ⟨gt,0,none⟩)],ht3.upd0 hu4,Nat.le_trans H2.out.old.size hsz,fun hx=>by have:=(ht3.ge _ hx).2;omega,JT.nil⟩,rfl⟩,H2.out.upd0 (hu3.seq hu4),fun x hx hgx=>?_⟩
  have h1:=(hg x hgx).2
  rcases List.mem_cons.1 hx with q|q
  ·omega
  ·have:=hf3 x q;omega
 have HUJ:Hid (Upd G w (w3.alloc (.cells #[.pointer (some ⟨gd,0,none⟩),.pointer (some ⟨gt,0,none⟩)] 226))):=HU2.out.trans (hu3.seq hu4) (fun x hx=>hx) (by simp)
 have HFJ:Hid (∀ x∈w3.heap.size::F0,w.heap.size≤x):=fun x hx=>by
  have h1:=HU2.out.size
  have h2:=hu3.size
  rcases List.mem_cons.1 hx with q|q
  ·omega
  ·have:=hf3 x q;omega
 clear ht3 hu3 hf3 hu4
 go_wp2_with fail
 generalize w3.alloc (.cells #[.pointer (some ⟨gd,0,none⟩),.pointer (some ⟨gt,0,none⟩)] 226)=w4 at *
 generalize w3.heap.size=gj at *
 (with_reducible refine (dkRead_any nmJ HJ0.out.dd (by decide)).mono ?_)
 rw [show (dGet dE.now nmJ).2=false from rfl,show (dGet dE.now nmJ).1=[] from rfl]
 rintro e w5 ⟨vb,rfl,hob,hu5⟩
 have HJ5:=Lib.hid (HJ0.out.upd0 hu5)
 have HU5:Hid (Upd G w w5):=HUJ.out.trans hu5 (fun x hx=>hx) (by simp)
 obtain ⟨ba,bk,rfl,hbk1,hbk2,-⟩:=hob.rd
 have HBK:=Lib.hid hbk2
 have hbk3:bk≤9223372036854775807:=by unfold maxLen at hbk2;omega
 clear hob hu5 hbk2 HJ0 HUJ
 go_wp2_with fail
 go_loopw [9] (fun i wr=>i = .int .i64 0∧wr=w5) (fun i wr=>0)
 case atStart=>exact ⟨rfl,rfl⟩
 case round =>
  obtain ⟨rfl,rfl⟩:=hrel
  go_wp2_with fail
  (with_reducible refine (fNextE _ ba bk HBK.out).mono ?_)
  rintro e w6 ⟨rfl,rfl⟩
  go_wp2_with fail
  go_ret2
  exact ⟨gj,rfl,jopen_done HJ5.out HU5.out HFJ.out HG1.out (HJ5.out.dd.out0 (Upd.refl [] _))⟩
end
end Go.Proofs.YthgnlfikneipiaaGreat
namespace Go.Proofs.YthgnlfikneipiaaGreat
open Go.RowKit
open Go.Eng (Asr UpdP TS AllF All engA plainV)
def oldA (w0:World):Asr w0.heap.size where
 P w F:=Upd [] w0 w∧∀ x,¬ F x
 up:=by
  rintro w w' F S ⟨h1,h4⟩ hu hs hb
  refine ⟨⟨hu.os.trans h1.os,hu.tape.trans h1.tape,hu.output.trans h1.output,Nat.le_trans h1.size hu.size,fun k hk hn=>?_⟩,h4⟩
  rw [hu.block k (Nat.lt_of_lt_of_le hk h1.size) (fun q=>by have:=hb k q;omega)]
  exact h1.block k hk hn
 lt:=by
  rintro w F ⟨h1,h4⟩ x hx
  exact absurd hx (h4 x)
def DkQ (w0:World) (v:Value) (w:World) (G:List Nat):Prop:=∃ gd,v = .pointer (some ⟨gd,0,none⟩)∧DD w0 w gd G dE
def DkA (w0:World) (v:Value):Asr w0.heap.size:=lA w0 (DkQ w0 v)
 (by rintro w w' G L ⟨gy,h1,h2⟩ hu hs hb;exact ⟨gy,h1,h2.upd hu hs hb⟩)
 (by rintro w G ⟨gy,h1,h2⟩ x hx;exact h2.ge x hx)
def LeQ (w0:World) (vd vl:Value) (w:World) (G:List Nat):Prop :=
 ∃ gd gl F D,vd = .pointer (some ⟨gd,0,none⟩)∧vl = .pointer (some ⟨gl,0,none⟩)∧LD w0 w gd gl F D [] dE∧G=F++D
def LeA (w0:World) (vd vl:Value):Asr w0.heap.size:=lA w0 (LeQ w0 vd vl)
 (by
  rintro w w' G L ⟨gd,gl,F,D,h1,h2,h4,rfl⟩ hu hs hb
  exact ⟨gd,gl,F,D,h1,h2,h4.upd hu (fun x hx=>hs x (by simp [hx])) (fun x hx=>hs x (by simp [hx])) hb,rfl⟩)
 (by
  rintro w G ⟨gd,gl,F,D,h1,h2,h4,rfl⟩ x hx
  rcases List.mem_append.1 hx with q|q
  ·exact h4.geF x q
  ·exact h4.dd.ge x q)
def S0Q (w0:World) (vd vl vj:Value) (w:World) (G:List Nat):Prop :=
 ∃ gd gl gj F D K,vd = .pointer (some ⟨gd,0,none⟩)∧vl = .pointer (some ⟨gl,0,none⟩)∧vj = .pointer (some ⟨gj,0,none⟩)∧LD w0 w gd gl F D [] dE∧JD w0 w gd gj K D [] dE∧Ap F K∧G=F++D++K
def S0A (w0:World) (vd vl vj:Value):Asr w0.heap.size:=lA w0 (S0Q w0 vd vl vj)
 (by
  rintro w w' G L ⟨gd,gl,gj,F,D,K,h1,h2,h3,h4,h5,h6,rfl⟩ hu hs hb
  have hF:∀ x∈F,x∉L:=fun x hx=>hs x (by simp [hx])
  have hD:∀ x∈D,x∉L:=fun x hx=>hs x (by simp [hx])
  have hK:∀ x∈K,x∉L:=fun x hx=>hs x (by simp [hx])
  exact ⟨gd,gl,gj,F,D,K,h1,h2,h3,h4.upd hu hF hD hb,h5.upd hu hK hD hb,h6,rfl⟩)
 (by
  rintro w G ⟨gd,gl,gj,F,D,K,h1,h2,h3,h4,h5,h6,rfl⟩ x hx
  rcases List.mem_append.1 hx with q|q
  ·rcases List.mem_append.1 q with q|q
   ·exact h4.geF x q
   ·exact h4.dd.ge x q
  ·exact h5.geF x q)
theorem dE_ok:DOk dE:=⟨fun i j a b=>absurd b (Nat.not_lt_zero _),fun i j a b=>absurd b (Nat.not_lt_zero _),rfl,trivial,by decide,by decide⟩
theorem s0_st {w0 w:World} {vd vl vj:Value} {F:Nat→Prop} (h:(S0A w0 vd vl vj).P w F):(StA w0 vd vl vj [] 0 0).P w F:=by
 obtain ⟨G,⟨gd,gl,gj,F,D,K,h1,h2,h3,h4,h5,h6,rfl⟩,hG⟩:=h
 exact ⟨_,⟨gd,gl,gj,F,D,K,dE,[],h1,h2,h3,h4,h5,h6,⟨dE_ok,by decide,by decide,by decide⟩,rfl⟩,hG⟩
end Go.Proofs.YthgnlfikneipiaaGreat
namespace Go.Proofs.YthgnlfikneipiaaGreat
open Go.RowKit
open Go.Eng (Asr UpdP TS AllF All engA plainV)
def stN (w0:World):Nat→List Value→List (Asr w0.heap.size)
 | 0,gs=>[Eng.fact (gs.length=0),Eng.emp,Eng.emp,oldA w0]
 | 1,gs=>[Eng.fact (gs.length=1),YdA w0 (gv gs 0) [] 0,Eng.emp,oldA w0]
 | 2,gs=>[Eng.fact (gs.length=2),YdA w0 (gv gs 0) [] 0,DkA w0 (gv gs 1),oldA w0]
 | 3,gs=>[Eng.fact (gs.length=3),YdA w0 (gv gs 0) [] 0,LeA w0 (gv gs 1) (gv gs 2),oldA w0]
 | _+4,gs=>[Eng.fact (gs.length=4),YdA w0 (gv gs 0) [] 0,S0A w0 (gv gs 1) (gv gs 2) (gv gs 3),oldA w0]
section
variable {w0 : World} {ν : Nat → Int}
theorem okYNew:Eng.tYNew.Ok Tryz.prog ν (stN w0):=by
 intro w gs us fs F hargs hA hF hb
 have hA:AllF (stN w0 0 gs) w fs:=hA
 have hq:=(hA.at_ 0 _ rfl).1
 have ho:=(hA.at_ 3 _ rfl).1
 match us,hargs with
 | [],_ =>
  refine (yNew_any w0 w ho).mono ?_
  rintro e w' ⟨gy,rfl,⟨G,h1,h2⟩,u'⟩
  obtain ⟨F',r1,r2,r3⟩:=hA.step1 hF 1 (by simp [stN]) (A:=YdA w0 (.pointer (some ⟨gy,0,none⟩)) [] 0) (f:=fun x=>x∈G) ⟨G,⟨gy,[],rfl,h1,Nat.le_refl _,fun p hp=>by cases hp⟩,fun _=>Iff.rfl⟩ (updO (updP0 u') fun _ q=>q.elim) (fun x hx => .inr (h2 x hx))
  refine ⟨_,[.pointer (some ⟨gy,0,none⟩)],gs++[.pointer (some ⟨gy,0,none⟩)],F',rfl,⟨⟨gy,rfl⟩,trivial⟩,nth_new hq [_] 0,?_,?_,r2,r3⟩
  ·exact @mos_ats (Eng.mkVal _ ν (stN w0)) _ 1 (by rw [List.length_append,hq];rfl)
  ·show All (stN w0 1 (gs++[_])) w' F'
   have e0:gv (gs++[.pointer (some ⟨gy,0,none⟩)]) 0 = .pointer (some ⟨gy,0,none⟩):=gv_new hq [_] 0 rfl
   simp only [stN,e0]
   exact fact_swap r1 (by simp [hq])
 | _::_,h=>exact h.elim
theorem okDNew:Eng.tDNew.Ok Tryz.prog ν (stN w0):=by
 intro w gs us fs F hargs hA hF hb
 have hA:AllF (stN w0 1 gs) w fs:=hA
 have hq:=(hA.at_ 0 _ rfl).1
 have ho:=(hA.at_ 3 _ rfl).1
 match us,hargs with
 | [],_ =>
  refine (dNew_any w0 w ho).mono ?_
  rintro e w' ⟨gd,G,rfl,h1,u',h2⟩
  obtain ⟨F',r1,r2,r3⟩:=hA.step1 hF 2 (by simp [stN]) (A:=DkA w0 (.pointer (some ⟨gd,0,none⟩))) (f:=fun x=>x∈G) ⟨G,⟨gd,rfl,h1⟩,fun _=>Iff.rfl⟩ (updO (updP0 u') fun _ q=>q.elim) (fun x hx => .inr (h2 x hx))
  refine ⟨_,[.pointer (some ⟨gd,0,none⟩)],gs++[.pointer (some ⟨gd,0,none⟩)],F',rfl,⟨⟨gd,rfl⟩,trivial⟩,nth_new hq [_] 0,?_,?_,r2,r3⟩
  ·exact @mos_ats (Eng.mkVal _ ν (stN w0)) _ 2 (by rw [List.length_append,hq];rfl)
  ·show All (stN w0 2 (gs++[_])) w' F'
   have e:=fun i (hi:i < 1)=>gv_app (gs:=gs) [.pointer (some ⟨gd,0,none⟩)] (i:=i) (by rw [hq];exact hi)
   have e0:gv (gs++[.pointer (some ⟨gd,0,none⟩)]) 1 = .pointer (some ⟨gd,0,none⟩):=gv_new hq [_] 0 rfl
   simp only [stN,e0,e 0 (by omega)]
   exact fact_swap r1 (by simp [hq])
 | _::_,h=>exact h.elim
theorem okLOpen:Eng.tLOpen.Ok Tryz.prog ν (stN w0):=by
 intro w gs us fs F hargs hA hF hb
 have hA:AllF (stN w0 2 gs) w fs:=hA
 have hq:=(hA.at_ 0 _ rfl).1
 obtain ⟨G,⟨gd,hd,hD⟩,hG⟩:=hA.at_ 2 _ rfl
 match us,hargs with
 | [u0],⟨a,_⟩ =>
  have a:=gv_at (show Eng.nth gs 1=some u0 from a)
  rw [hd] at a
  subst a
  refine (ledOpenE_any hD).mono ?_
  rintro e w' ⟨gl,rfl,k⟩
  obtain ⟨F1,G1,k1,k2,k3,k4⟩:=k
  obtain ⟨F',r1,r2,r3⟩:=hA.step1 hF 2 (by simp [stN]) (A:=LeA w0 (gv gs 1) (.pointer (some ⟨gl,0,none⟩))) (f:=fun x=>x∈F1++G1) ⟨_,⟨gd,gl,F1,G1,hd,rfl,k1,rfl⟩,fun _=>Iff.rfl⟩ (updF k2 hG) (fun x hx=>by
   rcases List.mem_append.1 hx with q|q
   ·exact (k3 x q).imp (hG x).2 id
   ·exact (k4 x q).imp (hG x).2 id)
  refine ⟨_,[.pointer (some ⟨gl,0,none⟩)],gs++[.pointer (some ⟨gl,0,none⟩)],F',rfl,⟨⟨gl,rfl⟩,trivial⟩,⟨[.pointer (some ⟨gl,0,none⟩),.int .i64 0],rfl,nth_new hq [_] 0,rfl,trivial⟩,?_,?_,r2,r3⟩
  ·exact @mos_ats (Eng.mkVal _ ν (stN w0)) _ 3 (by rw [List.length_append,hq];rfl)
  ·show All (stN w0 3 (gs++[_])) w' F'
   have e:=fun i (hi:i < 2)=>gv_app (gs:=gs) [.pointer (some ⟨gl,0,none⟩)] (i:=i) (by rw [hq];exact hi)
   have e0:gv (gs++[.pointer (some ⟨gl,0,none⟩)]) 2 = .pointer (some ⟨gl,0,none⟩):=gv_new hq [_] 0 rfl
   simp only [stN,e0,e 0 (by omega),e 1 (by omega)]
   exact fact_swap r1 (by simp [hq])
 | [],h=>exact h.elim
 | _::_::_,h=>exact h.2.elim
theorem okJOpen:Eng.tJOpen.Ok Tryz.prog ν (stN w0):=by
 intro w gs us fs F hargs hA hF hb
 have hA:AllF (stN w0 3 gs) w fs:=hA
 have hq:=(hA.at_ 0 _ rfl).1
 obtain ⟨G,⟨gd,gl,F0,D,hd,hl,h4,rfl⟩,hG⟩:=hA.at_ 2 _ rfl
 match us,hargs with
 | [u0],⟨a,_⟩ =>
  have a:=gv_at (show Eng.nth gs 1=some u0 from a)
  rw [hd] at a
  subst a
  refine (jopenE_any h4.dd).mono ?_
  rintro e w' ⟨gj,rfl,k⟩
  obtain ⟨K1,D1,k1,k2,k3,k4⟩:=k
  obtain ⟨gm,lv,hcl,hF0⟩:=h4.lc
  have hlc:=hcl.upd k2 (by
   rw [← hF0]
   intro x hx hq
   exact h4.ap x hx hq) (fun x hx=>(h4.dd.ge x hx).1)
  have aF:Ap F0 D1:=fun x hx hd=>by
   rcases k4 x hd with q|q
   ·exact h4.ap x hx q
   ·have:=(h4.geF x hx).2;omega
  have aK:Ap F0 K1:=fun x hx hd=>by
   rcases k3 x hd with q|q
   ·exact h4.ap x hx q
   ·have:=(h4.geF x hx).2;omega
  obtain ⟨F',r1,r2,r3⟩:=hA.step1 hF 2 (by simp [stN]) (A:=S0A w0 (gv gs 1) (gv gs 2) (.pointer (some ⟨gj,0,none⟩))) (f:=fun x=>x∈F0++D1++K1) ⟨_,⟨gd,gl,gj,F0,D1,K1,hd,hl,rfl,⟨⟨gm,lv,hlc,hF0⟩,k1.dd,aF,h4.ok⟩,k1,aK,rfl⟩,fun _=>Iff.rfl⟩ (updF (k2.mono fun x hx => .inl (by simp [hx])) hG) (fun x hx=>by
   rcases List.mem_append.1 hx with q|q
   ·rcases List.mem_append.1 q with q|q
    ·exact .inl ((hG x).2 (by simp [q]))
    ·exact (k4 x q).imp (fun z=>(hG x).2 (by simp [z])) id
   ·exact (k3 x q).imp (fun z=>(hG x).2 (by simp [z])) id)
  refine ⟨_,[.pointer (some ⟨gj,0,none⟩)],gs++[.pointer (some ⟨gj,0,none⟩)],F',rfl,⟨⟨gj,rfl⟩,trivial⟩,⟨[.pointer (some ⟨gj,0,none⟩),.int .i64 0],rfl,nth_new hq [_] 0,rfl,trivial⟩,?_,?_,r2,r3⟩
  ·exact @mos_ats (Eng.mkVal _ ν (stN w0)) _ 4 (by rw [List.length_append,hq];rfl)
  ·show All (stN w0 4 (gs++[_])) w' F'
   have e:=fun i (hi:i < 3)=>gv_app (gs:=gs) [.pointer (some ⟨gj,0,none⟩)] (i:=i) (by rw [hq];exact hi)
   have e0:gv (gs++[.pointer (some ⟨gj,0,none⟩)]) 3 = .pointer (some ⟨gj,0,none⟩):=gv_new hq [_] 0 rfl
   simp only [stN,e0,e 0 (by omega),e 1 (by omega),e 2 (by omega)]
   exact fact_swap r1 (by simp [hq])
 | [],h=>exact h.elim
 | _::_::_,h=>exact h.2.elim
theorem okJGet:Eng.tJGet.Ok Tryz.prog ν (stN w0):=by
 intro w gs us fs F hargs hA hF hb
 have hA:AllF (stN w0 4 gs) w fs:=hA
 have hq:=(hA.at_ 0 _ rfl).1
 obtain ⟨G,⟨gd,gl,gj,F0,D,K,hd,hl,hj,h4,h5,h6,rfl⟩,hG⟩:=hA.at_ 2 _ rfl
 match us,hargs with
 | [u0,u1],⟨a,⟨m,b1,b2,b3⟩,_⟩ =>
  have b1:u1 = .int .i64 m:=b1
  subst b1
  have a:=gv_at (show Eng.nth gs 3=some u0 from a)
  rw [hj] at a
  subst a
  refine (jGet_any m ⟨by omega,by omega⟩ h5).mono ?_
  rintro e w' ⟨rfl,u'⟩
  obtain ⟨F',r1,r2,r3⟩:=hA.step0 hF (updP0 u')
  refine ⟨_,[],gs,F',rfl,trivial,?_,?_,r1,r2,r3⟩
  ·show some (Value.string ⟨#[]⟩)=_
   rfl
  ·rw [List.append_nil];exact @mos_ats (Eng.mkVal _ ν (stN w0)) gs 4 hq
 | [],h=>exact h.elim
 | [_],h=>exact h.2.elim
 | _::_::_::_,h=>exact h.2.2.elim
theorem new_ts:∀ T∈Eng.newTs,T.Ok Tryz.prog ν (stN w0):=by
 intro T hT
 simp only [Eng.newTs,List.mem_cons,List.not_mem_nil,or_false] at hT
 rcases hT with rfl|rfl|rfl|rfl|rfl
 ·exact okYNew
 ·exact okDNew
 ·exact okLOpen
 ·exact okJOpen
 ·exact okJGet
end
end Go.Proofs.YthgnlfikneipiaaGreat
namespace Go.Proofs.YthgnlfikneipiaaGreat
open Go.RowKit
open Go.Eng (Asr UpdP TS AllF All engA plainV)
def emps (b:Nat):Nat→List (Asr b)
 | 0=>[]
 | n+1=>Eng.emp::emps b n
theorem all_emps (b n:Nat) (w:World):All (emps b n) w fun _=>False:=by
 refine ⟨fun _ _=>False,⟨fun i A hi=>?_,fun i j x h=>h.elim,fun i _ x h=>h⟩,fun x=>⟨fun h=>h.elim,fun ⟨_,h⟩=>h⟩⟩
 have:A=Eng.emp:=by
  induction n generalizing i with
  | zero=>cases i<;>cases hi
  | succ n ih =>
   cases i with
   | zero=>cases hi;rfl
   | succ i=>exact ih i hi
 subst this
 exact fun x h=>h
theorem All.up_ {b:Nat} {l:List (Asr b)} {w w':World} {F S:Nat→Prop} (h:All l w F) (hu:UpdP S w w') (hs:∀ x,F x→¬ S x) (hb:∀ x,S x→b≤x):All l w' F:=by
 obtain ⟨fs,h1,h2⟩:=h
 exact ⟨fs,h1.up hu (fun i x hx=>hs x ((h2 x).2 ⟨i,hx⟩)) hb,h2⟩
theorem All.lt_ {b:Nat} {l:List (Asr b)} {w:World} {F:Nat→Prop} (h:All l w F):∀ x,F x→b≤x∧x < w.heap.size:=fun x hx=>by
 obtain ⟨fs,h1,h2⟩:=h
 obtain ⟨i,hi⟩:=(h2 x).1 hx
 exact h1.lt i x hi
def stR (w0:World):Nat→List Value→List (Asr w0.heap.size)
 | 0,gs=>[Eng.fact (gs.length=4),YdA w0 (gv gs 0) [] 0,StA w0 (gv gs 1) (gv gs 2) (gv gs 3) [] 0 0,Eng.emp,Eng.emp,Eng.emp,Eng.emp,Eng.emp,Eng.emp]
 | 1,gs=>[Eng.fact (gs.length=4),YdA w0 (gv gs 0) [] 0,StA w0 (gv gs 1) (gv gs 2) (gv gs 3) [] 0 0,Eng.emp,Eng.emp,Eng.emp,Eng.emp,Eng.emp,Eng.emp]
 | 2,gs=>[Eng.fact (gs.length=4),YdA w0 (gv gs 0) [] 0,StA w0 (gv gs 1) (gv gs 2) (gv gs 3) [] 938 1,Eng.emp,Eng.emp,Eng.emp,Eng.emp,Eng.emp,Eng.emp]
 | 3,gs=>[Eng.fact (gs.length=4),YdA w0 (gv gs 0) [] 0,StA w0 (gv gs 1) (gv gs 2) (gv gs 3) [] 938 1,Eng.emp,Eng.emp,Eng.emp,Eng.emp,Eng.emp,Eng.emp]
 | _+4,gs=>[Eng.fact (gs.length=4),YdA w0 (gv gs 0) (flL []) 0,StA w0 (gv gs 1) (gv gs 2) (gv gs 3) [] 938 1,Eng.emp,Eng.emp,Eng.emp,Eng.emp,Eng.emp,Eng.emp]
def WN (w0:World) (vw:Value) (w:World) (F:Nat→Prop):Prop :=
 (∃ g,vw = .pointer (some ⟨g,0,none⟩))∧∃ gs,All (stR w0 0 gs++[engA w0.heap.size nu0 Eng.hN 9 (Eng.as4++[.ptr 5 0]) (gs++[vw])]) w F
theorem all_start {b:Nat} (w:World) (l:List (Asr b)) {v:List Value} (h:All l w fun _=>False):All (l++[engA b nu0 [] 1 [] []]) w fun _=>False:=by
 letI:Eng.Val:=plainV b nu0
 refine h.join (F2:=fun _=>False) (Eng.All.one.2 ⟨fun _=>none,⟨fun i c hi=>(by cases hi),fun i j c e x y hi=>(by cases hi)⟩,fun i _=>rfl,rfl,fun x hx=>hx.elim⟩) (fun x h=>h.elim) fun x=>by simp
theorem do_new {w0 w:World} (hu:Upd [] w0 w):Calls Tryz.prog 5 #[] w fun e w'=>∃ vw,e = .returned vw∧UpdP (fun _=>False) w w'∧∃ F',WN w0 vw w' F'∧∀ x,F' x→w.heap.size≤x:=by
 have hbd:@Eng.BD (plainV w0.heap.size nu0) []:=bd_nil
 have hE:@Eng.EOK (Eng.mkVal w0.heap.size nu0 (stN w0)) Tryz.prog (Eng.EBh [] (Eng.hks [] Eng.newTs)):=@Eng.EBh_ok (Eng.mkVal w0.heap.size nu0 (stN w0)) [] hbd _ (Eng.hks_ok hbd new_ts)
 have h0:All (stN w0 0 []) w fun _=>False:=by
  refine ⟨fun _ _=>False,⟨fun i A hi=>?_,fun i j x h=>h.elim,fun i _ x h=>h⟩,fun x=>⟨fun h=>h.elim,fun ⟨_,h⟩=>h⟩⟩
  match i with
  | 0=>cases hi;exact ⟨rfl,fun x h=>h⟩
  | 1=>cases hi;exact fun x h=>h
  | 2=>cases hi;exact fun x h=>h
  | 3=>cases hi;exact ⟨hu,fun x h=>h⟩
  | _+4=>cases hi
 refine (Eng.run_engs (us:=[]) (gs:=[]) hE Eng.new_e (by omega) rfl hu.size (all_start (v:=[]) w _ h0) (fun G hG=>⟨rfl,trivial⟩)).mono ?_
 rintro e w' ⟨vw,gs',G,rfl,k1,k2,⟨F0,k3⟩,k4,k5,-⟩
 have k1:(G 3).map (fun x=>Value.pointer (some ⟨x.g,0,none⟩))=some vw:=k1
 have k1':@Eng.dn (plainV w0.heap.size nu0) G (.ptr 3 0)=some vw:=k1
 obtain ⟨F',a1,a2⟩:=k4 [gs'++[vw]] ⟨rt_join k2 k1',trivial⟩
 refine ⟨vw,rfl,k5,F',⟨?_,gs',?_⟩,fun x hx=>(a2 x hx).elim (fun q=>q.elim) id⟩
 ·cases hg:G 3 with
  | none=>rw [hg] at k1;cases k1
  | some x=>rw [hg] at k1;exact ⟨x.g,(Option.some.inj k1).symm⟩
 ·obtain ⟨F1,F2,h1,h2,h3,h4⟩:=All.split (l:=stN w0 4 gs') a1
  obtain ⟨F3,F4,p1,p2,p3,p4⟩:=All.split (l:=[Eng.fact (gs'.length=4),YdA w0 (gv gs' 0) [] 0,S0A w0 (gv gs' 1) (gv gs' 2) (gv gs' 3)]) (m:=[oldA w0]) h1
  have p2:=(Eng.All.one.1 p2).2
  have p5:=all_last (l:=[Eng.fact (gs'.length=4),YdA w0 (gv gs' 0) [] 0]) (A':=StA w0 (gv gs' 1) (gv gs' 2) (gv gs' 3) [] 0 0) p1 (fun F q=>s0_st q)
  have p6:All ([Eng.fact (gs'.length=4),YdA w0 (gv gs' 0) [] 0,StA w0 (gv gs' 1) (gv gs' 2) (gv gs' 3) [] 0 0]++emps _ 6) w' F1:=Eng.All.join p5 (all_emps _ 6 w') (fun x _ h=>h) fun x=>by rw [p4];simp [p2 x]
  exact Eng.All.join p6 h2 h3 h4
end Go.Proofs.YthgnlfikneipiaaGreat
namespace Go.Proofs.YthgnlfikneipiaaGreat
open Go.RowKit
open Go.Eng (Asr UpdP TS AllF All engA plainV)
section
variable {w0 : World} {ν : Nat → Int} {st : Nat → List Value → List (Asr w0.heap.size)} {k n : Nat} {p0 p1 : List Value → Prop} {a1 a2 a3 a4 a5 a6 a7 a8 : List Value → Asr w0.heap.size}
theorem okSetL {N K:Nat} {rl:List Rec} (h0:∀ gs,st k gs=[Eng.fact (p0 gs),a1 gs,StA w0 (gv gs 1) (gv gs 2) (gv gs 3) rl N K,a3 gs,a4 gs,a5 gs,a6 gs,a7 gs,a8 gs]) (h1:∀ gs,p0 gs→st (k+1) gs=[Eng.fact (p0 gs),a1 gs,StA w0 (gv gs 1) (gv gs 2) (gv gs 3) rl (N+938) (K+1),a3 gs,a4 gs,a5 gs,a6 gs,a7 gs,a8 gs])
  (hp:∀ gs,p0 gs→gs.length=n) (hK:K≤4000) (hN:N+938≤262144):(Eng.tSetL k n).Ok Tryz.prog ν st:=by
 intro w gs us fs F hargs hA hF hb
 have hA:AllF (st k gs) w fs:=hA
 rw [h0] at hA
 have hq:=(hA.at_ 0 _ rfl).1
 obtain ⟨G,hst,hG⟩:=hA.at_ 2 _ rfl
 match us,hargs with
 | [u0,u1],⟨a,⟨g,vs,hu1,hvs,hkn⟩,_⟩ =>
  match vs,hvs with
  | [x0,x1],⟨c0,c1,_⟩ =>
   have c0:some (Value.int .i64 0)=some x0:=c0
   cases c0
   have c1:some (Value.string Eng.rlB)=some x1:=c1
   cases c1
   subst hu1
   have a:=gv_at (show Eng.nth gs 3=some u0 from a)
   rw [a] at hst
   have hrd:RdN 2 chCells w (.slice (some ⟨g,0,none⟩) 1 1) [((0:Int),Eng.rlB)]:=by
    refine ⟨_,1,rfl,by simp,by simp [maxLen],fun _=>⟨g,0,rfl,fun j hj i hi=>?_⟩⟩
    have hj0:j=0:=by simpa using hj
    subst hj0
    rw [Nat.zero_mul,Nat.zero_add,Nat.zero_add,cell_of_row w g i _ _ (0,0) hkn.1]
    match i,hi with
    | 0,_=>rfl
    | 1,_=>rfl
   refine (st_set hst ((0:Int),Eng.rlB) hrd (fun x hx hq=>?_) (by simp) (by decide) hK (by
    have:Eng.rlB.size=12:=rfl
    dsimp only;omega)).mono ?_
   ·simp [blk] at hx
    subst hx
    exact hkn.2.1 ((hF x).2 ⟨2,(hG x).2 hq⟩)
   ·rintro e w' ⟨rfl,G',s',u',n'⟩
    have:Eng.rlB.size=12:=rfl
    have s':=st_mono s' (show N+Eng.rlB.size+38≤N+938 by omega) (Nat.le_refl _)
    rw [← a] at s'
    obtain ⟨F',r1,r2,r3⟩:=hA.step1 hF 2 (by simp) (A:=StA w0 (gv gs 1) (gv gs 2) (gv gs 3) rl (N+938) (K+1)) (f:=fun x=>x∈G') ⟨G',s',fun _=>Iff.rfl⟩ (updF u' hG) (fun x hx=>(n' x hx).imp (hG x).2 id)
    refine ⟨_,[],gs,F',rfl,trivial,rfl,?_,?_,r2,r3⟩
    ·rw [List.append_nil];exact @mos_ats (Eng.mkVal _ ν st) gs n (hp gs hq)
    ·show All (st (k+1) gs) w' F'
     rw [h1 gs hq];exact r1
  | [],h=>exact h.elim
  | [_],h=>exact h.2.elim
  | _::_::_::_,h=>exact h.2.2.elim
 | [],h=>exact h.elim
 | [_],h=>exact h.2.elim
 | _::_::_::_,h=>exact h.2.2.elim
theorem okCreate {fl fl':FL} {n0:Nat} (h0:∀ gs,st k gs=[Eng.fact (p0 gs),YdA w0 (gv gs 0) fl n0,a2 gs,a3 gs,a4 gs,a5 gs,a6 gs,a7 gs,a8 gs]) (h1:∀ gs,p0 gs→st (k+1) gs=[Eng.fact (p0 gs),YdA w0 (gv gs 0) fl' n0,a2 gs,a3 gs,a4 gs,a5 gs,a6 gs,a7 gs,a8 gs])
  (hp:∀ gs,p0 gs→gs.length=n) (he:yCreate fl nmLog=(0,fl')):(Eng.tCreate k n).Ok Tryz.prog ν st:=by
 intro w gs us fs F ha hA hF hb
 have hA:AllF (st k gs) w fs:=hA
 rw [h0] at hA
 have hq:=(hA.at_ 0 _ rfl).1
 obtain ⟨G,hs,hG⟩:=hA.at_ 1 _ rfl
 match us,ha with
 | [u0,u1],⟨a,b1,_⟩ =>
  rw [gv_at a] at hs
  have b1:some (Value.string nmLog)=some u1:=b1
  cases b1
  refine (yd_create hs nmLog he).mono ?_
  rintro e w' ⟨rfl,G',s',u',n'⟩
  rw [← gv_at a] at s'
  obtain ⟨F',r1,r2,r3⟩:=hA.step1 hF 1 (by simp) (A:=YdA w0 (gv gs 0) fl' n0) (f:=fun x=>x∈G') ⟨G',s',fun _=>Iff.rfl⟩ (updF u' hG) (fun x hx=>(n' x hx).imp (hG x).2 id)
  refine ⟨_,[],gs,F',rfl,trivial,rfl,?_,?_,r2,r3⟩
  ·rw [List.append_nil];exact @mos_ats (Eng.mkVal _ ν st) gs n (hp gs hq)
  ·show All (st (k+1) gs) w' F'
   rw [h1 gs hq];exact r1
 | [],h=>exact h.elim
 | [_],h=>exact h.2.elim
 | _::_::_::_,h=>exact h.2.2.elim
end
theorem create_log:yCreate [] nmLog=(0,flL []):=by rfl
theorem run_ts {w0:World}:∀ T∈Eng.runTs,T.Ok Tryz.prog nu0 (stR w0):=by
 intro T hT
 simp only [Eng.runTs,List.mem_cons,List.not_mem_nil,or_false] at hT
 rcases hT with rfl|rfl|rfl|rfl
 ·exact okMark (p0:=fun gs=>gs.length=4) (fun gs=>rfl) (fun gs _=>rfl) (fun gs h=>h) (by omega)
 ·exact okSetL (p0:=fun gs=>gs.length=4) (fun gs=>rfl) (fun gs _=>rfl) (fun gs h=>h) (by omega) (by omega)
 ·exact okMark (p0:=fun gs=>gs.length=4) (fun gs=>rfl) (fun gs _=>rfl) (fun gs h=>h) (by omega)
 ·exact okCreate (p0:=fun gs=>gs.length=4) (fun gs=>rfl) (fun gs _=>rfl) (fun gs h=>h) create_log
def stepsV (g:Nat):List Value:=[.int .i64 7,.int .i64 0,.string ⟨#[]⟩,.string ⟨#[]⟩,.slice none 0 0,.slice (some ⟨g,0,none⟩) 1 1,.string ⟨#[]⟩,.int .i64 1,.int .i64 0,.string nmLog,.string ⟨#[]⟩,.slice none 0 0,.slice none 0 0,.string ⟨#[]⟩]
def patV:List Value:=[.string ⟨#[97]⟩,.string ⟨#[94,121,42,36]⟩]
theorem all_drop {b:Nat} {pre post:List (Asr b)} {w:World} {F:Nat→Prop} (h:All (pre++Eng.emp::post) w F):All (pre++post) w F:=by
 obtain ⟨F1,F2,h1,h2,h3,h4⟩:=h.split
 obtain ⟨E,F3,a1,a2,a3,a4⟩:=All.split (l:=[Eng.emp]) (m:=post) h2
 have a1:=Eng.All.one.1 a1
 have e:∀ x,F2 x↔F3 x:=fun x=>⟨fun q=>((a4 x).1 q).elim (fun z=>absurd z (a1 x)) id,fun q=>(a4 x).2 (.inr q)⟩
 exact h1.join a2 (fun x p q=>h3 x p ((e x).2 q)) fun x=>by rw [h4,e]
theorem steps_a {b g1 g2:Nat} {w:World} (h1:Blk w g1 35 (stepsV g2)) (h2:Blk w g2 29 patV) (b1:b≤g1) (b2:b≤g2) (hne:g1≠g2):(engA b nu0 Eng.hSteps 2 [.slk 0 0 2 2] [.slice (some ⟨g1,0,none⟩) 2 2]).P w fun x=>x=g1∨x=g2:=by
 letI:Eng.Val:=plainV b nu0
 let G:Eng.GM:=fun i=>match i with
  | 0=>some ⟨g1,0,0,0,.pointer none⟩
  | 1=>some ⟨g2,0,0,0,.pointer none⟩
  | _=>none
 refine ⟨G,⟨fun i c hi hl=>?_,fun i j c e x y hi hc hj he hx hy hxy=>?_⟩,fun i hi=>?_,rfl,fun x hx=>?_⟩
 ·match i with
  | 0=>cases hi;exact ⟨_,rfl,.inl rfl,h1.lt,_,rfl,h1⟩
  | 1=>cases hi;exact ⟨_,rfl,.inr rfl,h2.lt,_,rfl,h2⟩
  | _+2=>cases hi
 ·match i,j with
  | 0,0=>rfl
  | 1,1=>rfl
  | 0,1=>cases hx;cases hy;exact absurd (show g1=g2 from hxy) hne
  | 1,0=>cases hx;cases hy;exact absurd (show g1=g2 from hxy.symm) hne
  | _+2,_=>cases hi
  | _,_+2=>cases hj
 ·match i,hi with
  | _+2,_=>rfl
 ·rcases hx with rfl|rfl
  ·exact ⟨b1,h1.lt⟩
  ·exact ⟨b2,h2.lt⟩
theorem do_run {w0 w:World} {vw:Value} {F:Nat→Prop} {g1 g2:Nat} (h:WN w0 vw w F) (hb:w0.heap.size≤w.heap.size) (h1:Blk w g1 35 (stepsV g2)) (h2:Blk w g2 29 patV) (b1:w0.heap.size≤g1) (b2:w0.heap.size≤g2) (hne:g1≠g2) (n1:¬ F g1) (n2:¬ F g2) :
  Calls Tryz.prog 6 #[vw,.slice (some ⟨g1,0,none⟩) 2 2] w fun e w'=>∃ v,e = .returned v∧UpdP (fun x=>F x∨x=g1∨x=g2) w w'∧∃ F',W0 w0 vw 0 938 1 [] [] w' F'∧∀ x,F' x→F x∨x=g1∨x=g2∨w.heap.size≤x:=by
 obtain ⟨-,gs,hA⟩:=h
 have hbd:@Eng.BD (plainV w0.heap.size nu0) []:=bd_nil
 have hE:@Eng.EOK (Eng.mkVal w0.heap.size nu0 (stR w0)) Tryz.prog (Eng.EBh [] (Eng.hks [] Eng.runTs)):=@Eng.EBh_ok (Eng.mkVal w0.heap.size nu0 (stR w0)) [] hbd _ (Eng.hks_ok hbd run_ts)
 obtain ⟨F1,F2,p1,p2,p3,p4⟩:=hA.split
 have p5:=Eng.engA_join (Eng.All.one.1 p2) (steps_a h1 h2 b1 b2 hne) (fun x hx hq=>by
  have:=(p4 x).2 (.inr hx)
  rcases hq with rfl|rfl
  ·exact n1 this
  ·exact n2 this) rfl rfl rfl hb
 have hA2:All (stR w0 0 gs++[engA w0.heap.size nu0 (Eng.hN++Eng.shH 9 Eng.hSteps) 11 (Eng.as4++[.ptr 5 0]++[.slk 9 0 2 2]) (gs++[vw]++[.slice (some ⟨g1,0,none⟩) 2 2])]) w fun x=>F x∨x=g1∨x=g2:=by
  refine p1.join (Eng.All.one.2 p5) (fun x hx hq=>?_) fun x=>?_
  ·rcases hq with q|rfl|rfl
   ·exact p3 x hx q
   ·exact n1 ((p4 _).2 (.inl hx))
   ·exact n2 ((p4 _).2 (.inl hx))
  ·rw [p4];exact ⟨fun q=>by rcases q with (q|q)|q;exact .inl q;exact .inr (.inl q);exact .inr (.inr q),fun q=>by rcases q with q|q|q;exact .inl (.inl q);exact .inl (.inr q);exact .inr q⟩
 refine (Eng.run_engs2 (us:=[vw,.slice (some ⟨g1,0,none⟩) 2 2]) hE Eng.run_e (by omega) rfl hb hA2 (fun G hG=>?_)).mono ?_
 ·obtain ⟨q1,q2⟩:=rt_split hG
  obtain ⟨q3,q4⟩:=rt_split q1
  exact ⟨q3,@Eng.dv_of_dn (plainV w0.heap.size nu0) _ _ _ q4,@Eng.dv_of_dn (plainV w0.heap.size nu0) _ _ _ q2,trivial⟩
 ·rintro e w' ⟨x,gs',G,rfl,k1,k2,⟨F0,k3⟩,k4,kb,k5,G0,k6,k7⟩
  have r1:=@Eng.dn_mono (plainV w0.heap.size nu0) _ _ k6 _ _ (rt_split (rt_split k7).1).2
  obtain ⟨y,hy⟩:=kb _ (List.mem_cons_self ..) 1 (.row 262 [.slc 2 0 1,.str ⟨#[]⟩,.slc 3 0 8,.slc 5 0 1,.nils,.nils,.ptr 6 0]) rfl trivial
  have hy:G 208=some y:=hy
  have r2:@Eng.dn (plainV w0.heap.size nu0) G (.ptr 208 0)=some (.pointer (some ⟨y.g,0,none⟩)):=by
   show (G 208).map _=_
   rw [hy];rfl
  obtain ⟨F',a1,a2⟩:=k4 [[.pointer (some ⟨y.g,0,none⟩)],gs'++[.pointer (some ⟨y.g,0,none⟩)]++[vw]] ⟨dn_one r2,rt_join (rt_join k2 r2) r1,trivial⟩
  refine ⟨x,rfl,k5,F',⟨gs'++[.pointer (some ⟨y.g,0,none⟩)],?_⟩,fun z hz=>?_⟩
  ·have hlen:gs'.length=4:=by
    obtain ⟨fs,a,b⟩:=k3
    exact (a.at_ 0 _ rfl).1
   have e:=fun i (hi:i < 4)=>gv_app (gs:=gs') [.pointer (some ⟨y.g,0,none⟩)] (i:=i) (by rw [hlen];exact hi)
   have e4:gv (gs'++[.pointer (some ⟨y.g,0,none⟩)]) 4 = .pointer (some ⟨y.g,0,none⟩):=gv_new hlen [_] 0 rfl
   obtain ⟨F3,f,b1,b2,b3,b4⟩:=all_out (pre:=stR w0 4 gs') (X:=rulesA w0.heap.size (.pointer (some ⟨y.g,0,none⟩))) (post:=[engA w0.heap.size nu0 Eng.hW0 10 (Eng.as5++[Eng.AV.ptr 6 0]) (gs'++[Value.pointer (some ⟨y.g,0,none⟩)]++[vw])]) (show _ from a1)
   have b5:=all_in (pre:=[_,_,_]) (X:=rulesA w0.heap.size (.pointer (some ⟨y.g,0,none⟩))) (all_drop b1) b2 b3
   have hF:(fun x=>F3 x∨f x)=F':=funext fun x=>propext (b4 x).symm
   rw [hF] at b5
   simp only [stA,e 0 (by omega),e 1 (by omega),e 2 (by omega),e 3 (by omega),e4]
   exact fact_swap b5 (by simp [hlen])
  ·rcases a2 z hz with (q|q|q)|q
   ·exact .inl q
   ·exact .inr (.inl q)
   ·exact .inr (.inr (.inl q))
   ·exact .inr (.inr (.inr q))
end Go.Proofs.YthgnlfikneipiaaGreat
namespace Go.Proofs.YthgnlfikneipiaaGreat
open Go.RowKit
def ln (n:Nat):List UInt8:=List.replicate n 121++[10]
def wantF (line n:Nat):Fd:=if n≤200 then ⟨1,line,0,capsY n⟩ else ⟨2,line,0,c10z⟩
theorem ln_len (n:Nat):(ln n).length=n+1:=by simp [ln]
theorem fold_acc:∀ (l:List UInt8) (p:Nat×Nat) (fs:List Fd),l.foldl feedS (p,fs)=((l.foldl feedS (p,[])).1,fs++(l.foldl feedS (p,[])).2)
 | [],p,fs=>by simp
 | c::l,p,fs=>by
  rw [List.foldl_cons,List.foldl_cons]
  show l.foldl feedS ((stepL p.1 p.2 c).1,fs++(stepL p.1 p.2 c).2)=((l.foldl feedS ((stepL p.1 p.2 c).1,[]++(stepL p.1 p.2 c).2)).1,fs++(l.foldl feedS ((stepL p.1 p.2 c).1,[]++(stepL p.1 p.2 c).2)).2)
  rw [fold_acc l _ (fs++_),fold_acc l _ ([]++_)]
  simp
theorem feed_app (a b:List UInt8) {l m l' m' line n:Nat} {f f':List Fd} (h1:feedL line n a=((l,m),f)) (h2:feedL l m b=((l',m'),f')):feedL line n (a++b)=((l',m'),f++f'):=by
 unfold feedL at *
 rw [List.foldl_append,h1,fold_acc,h2]
theorem feed_ys:∀ (k line n:Nat),feedL line n (List.replicate k 121)=((line,n+k),if n≤200∧200 < n+k then [⟨2,line,0,c10z⟩] else [])
 | 0,line,n=>by simp [feedL]
 | k+1,line,n=>by
  have h1:feedL line n [121]=((line,n+1),if n=200 then [⟨2,line,0,c10z⟩] else []):=rfl
  have h2:=feed_app [121] (List.replicate k 121) h1 (feed_ys k line (n+1))
  rw [show List.replicate (k+1) (121:UInt8)=[121]++List.replicate k 121 from rfl,h2]
  rw [show n+1+k=n+(k+1) by omega]
  congr 1
  by_cases e:n=200
  ·subst e;simp
  ·rw [if_neg e,List.nil_append]
   by_cases q:n≤200∧200 < n+(k+1)
   ·rw [if_pos q,if_pos ⟨by omega,q.2⟩]
   ·rw [if_neg q,if_neg (by omega)]
theorem feed_ln (line n:Nat):feedL line 0 (ln n)=((line+n+1,0),[wantF line n]):=by
 have h2:feedL line (0+n) [10]=((line+(0+n)+1,0),if 0+n≤200 then [⟨1,line,0,capsY (0+n)⟩] else []):=rfl
 have:=feed_app _ _ (feed_ys n line 0) h2
 rw [Nat.zero_add] at this
 rw [ln,this]
 congr 1
 unfold wantF
 by_cases e:n≤200
 ·rw [if_pos e,if_neg (by omega),if_pos e];rfl
 ·rw [if_neg e,if_pos ⟨by omega,by omega⟩,if_neg e];rfl
def GoodF (f:Fd):Prop:=f.rule=0∧(f.kind=1∨f.kind=2)∧recOk (recF 1 1 f)=true
structure FOk (s:(Nat×Nat)×List Fd):Prop where
 pw:s.2.Pairwise fun a b=>a.at_ < b.at_
 good:∀ f∈s.2,GoodF f∧f.at_≤s.1.1∧(s.1.2≤200→f.at_ < s.1.1)
theorem good1 {line n:Nat} (h:n≤200) (hl:line≤100000):GoodF ⟨1,line,0,capsY n⟩:=by
 refine ⟨rfl,.inl rfl,?_⟩
 have hc:(capsY n).1.all capOk=true:=by
  simp only [capsY,List.all_cons,List.all_nil,capOk,Bool.and_eq_true,decide_eq_true_eq]
  refine ⟨by omega,⟨by omega,by omega⟩,?_⟩
  simp
 have hr:ruleOk nmA=true:=by decide
 unfold recOk recF
 simp only [Bool.and_eq_true,decide_eq_true_eq]
 refine ⟨by omega,?_⟩
 rw [if_neg (by decide)]
 simp [hc,hr]
theorem good2 {line:Nat} (hl:line≤100000):GoodF ⟨2,line,0,c10z⟩:=by
 refine ⟨rfl,.inr rfl,?_⟩
 unfold recOk recF
 simp only [Bool.and_eq_true,decide_eq_true_eq]
 refine ⟨by omega,?_⟩
 simp
theorem FOk.step {s:(Nat×Nat)×List Fd} (h:FOk s) (c:UInt8) (hl:s.1.1≤100000):FOk (feedS s c):=by
 obtain ⟨⟨line,n⟩,fs⟩:=s
 have hp:=h.pw
 have hg:=h.good
 dsimp only at hp hg hl
 unfold feedS stepL
 dsimp only
 by_cases e:c=10
 ·rw [if_pos e]
  dsimp only
  by_cases q:n≤200
  ·rw [if_pos q]
   refine ⟨List.pairwise_append.2 ⟨hp,List.pairwise_singleton _ _,fun a ha b hb=>?_⟩,fun f hf=>?_⟩
   ·rw [List.mem_singleton.1 hb];exact (hg a ha).2.2 q
   ·rcases List.mem_append.1 hf with z|z
    ·have:=(hg f z).2.1
     exact ⟨(hg f z).1,by dsimp only;omega,fun _=>by dsimp only;omega⟩
    ·rw [List.mem_singleton.1 z]
     exact ⟨good1 q hl,by dsimp only;omega,fun _=>by dsimp only;omega⟩
  ·rw [if_neg q,List.append_nil]
   refine ⟨hp,fun f z=>?_⟩
   have:=(hg f z).2.1
   exact ⟨(hg f z).1,by dsimp only;omega,fun _=>by dsimp only;omega⟩
 ·rw [if_neg e]
  dsimp only
  by_cases q:n=200
  ·rw [if_pos q]
   refine ⟨List.pairwise_append.2 ⟨hp,List.pairwise_singleton _ _,fun a ha b hb=>?_⟩,fun f hf=>?_⟩
   ·rw [List.mem_singleton.1 hb];exact (hg a ha).2.2 (by omega)
   ·rcases List.mem_append.1 hf with z|z
    ·have:=(hg f z).2.1
     exact ⟨(hg f z).1,by dsimp only;omega,fun k=>by dsimp only at k;omega⟩
    ·rw [List.mem_singleton.1 z]
     exact ⟨good2 hl,by dsimp only;omega,fun k=>by dsimp only at k;omega⟩
  ·rw [if_neg q,List.append_nil]
   refine ⟨hp,fun f z=>?_⟩
   exact ⟨(hg f z).1,(hg f z).2.1,fun k=>(hg f z).2.2 (by dsimp only at k ⊢;omega)⟩
theorem FOk.all {s:(Nat×Nat)×List Fd} (h:FOk s):∀ (l:List UInt8),s.1.1+s.1.2+l.length≤100000→FOk (l.foldl feedS s)
 | [],_=>h
 | c::l,hl=>by
  rw [List.length_cons] at hl
  have:=(step_sum s.1.1 s.1.2 c).1
  exact (h.step c (by omega)).all l (by show (stepL s.1.1 s.1.2 c).1.1+(stepL s.1.1 s.1.2 c).1.2+l.length≤100000;omega)
theorem feed_ok {l:List UInt8} (h:l.length≤100000):FOk (feedL 0 0 l):=FOk.all ⟨List.Pairwise.nil,fun f hf=>by cases hf⟩ l (by dsimp only;omega)
theorem add_ok {f1 f2:List Fd} {p:Nat×Nat} (h:FOk (p,f1++f2)):AddOk 1 1 (f1.map (recF 1 1)) f2:=by
 intro k hk
 have hn:nth f2 k=f2[k]:=by simp [nth,hk]
 have hm:nth f2 k∈f1++f2:=by rw [hn];exact List.mem_append_right _ (List.getElem_mem hk)
 obtain ⟨⟨g1,g2,g3⟩,-⟩:=h.good _ hm
 refine ⟨g1,g2,g3,?_⟩
 rw [← List.map_append]
 cases hq:hasK ((f1++f2.take k).map (recF 1 1)) (recF 1 1 (nth f2 k)).key with
 | false=>rfl
 | true =>
  exfalso
  unfold hasK at hq
  obtain ⟨r,hr,he⟩:=List.any_eq_true.1 hq
  obtain ⟨a,ha,rfl⟩:=List.mem_map.1 hr
  have he:(recF 1 1 a).key=(recF 1 1 (nth f2 k)).key:=of_decide_eq_true he
  have he:a.at_=(nth f2 k).at_:=congrArg Key.at_ he
  have hp:(f1++(f2.take k++(nth f2 k::f2.drop (k+1)))).Pairwise fun a b=>a.at_ < b.at_:=by
   have:f2.take k++(nth f2 k::f2.drop (k+1))=f2:=by
    rw [hn,← List.drop_eq_getElem_cons hk,List.take_append_drop]
   rw [this];exact h.pw
  rw [← List.append_assoc] at hp
  have:=(List.pairwise_append.1 hp).2.2 a ha (nth f2 k) (List.mem_cons_self ..)
  omega
end Go.Proofs.YthgnlfikneipiaaGreat
namespace Go.Proofs.YthgnlfikneipiaaGreat
open Go.RowKit
open Go.Eng (Asr UpdP TS AllF All engA plainV)
def WS (w0:World) (vw:Value) (q P:Nat) (B:List UInt8) (w:World) (F:Nat→Prop):Prop :=
 (q=0∧P=0∧W0 w0 vw 0 938 1 [] B w F) ∨
 ∃ l m fds hl0 hs0 n0 N K,l+m=P∧P≤B.length∧feedL 0 0 (B.take P)=((l,m),fds)∧hl0≤16∧hl0≤B.length∧hs0=((sumOn 0 (B.take hl0)).toNat:Int)∧n0≤2*q∧N≤938*(q+1)+208*fds.length∧K≤q+1+fds.length∧0 < q ∧
  W1 w0 vw n0 N K (fds.map (recF 1 1)) B l m hl0 hs0 w F
def pollS:Value := .agg #[.int .i64 6,.int .i64 0,.string ⟨#[]⟩,.string ⟨#[]⟩,.slice none 0 0,.slice none 0 0,.string ⟨#[]⟩]
def appS (dv:Value):Value := .agg #[.int .i64 2,.int .i64 0,.string nmLog,.string ⟨#[]⟩,dv,.slice none 0 0,.string ⟨#[]⟩]
section
variable {w0 w : World} {vw u dv : Value} {q P : Nat} {B l p : List UInt8} {F : Nat → Prop}
theorem WS.lt (h:WS w0 vw q P B w F):∀ x,F x→w0.heap.size≤x∧x < w.heap.size:=by
 rcases h with ⟨-,-,gs,h⟩|⟨l,m,fds,hl0,hs0,n0,N,K,-,-,-,-,-,-,-,-,-,-,gs,h⟩
 ·exact All.lt_ h
 ·exact All.lt_ h
theorem WS.up (h:WS w0 vw q P B w F) {w':World} {S:Nat→Prop} (hu:UpdP S w w') (hs:∀ x,F x→¬ S x) (hb:∀ x,S x→w0.heap.size≤x):WS w0 vw q P B w' F:=by
 rcases h with ⟨h1,h2,gs,h⟩|⟨l,m,fds,hl0,hs0,n0,N,K,a1,a2,a3,a4,a5,a6,a7,a8,a9,a10,gs,h⟩
 ·exact .inl ⟨h1,h2,gs,All.up_ h hu hs hb⟩
 ·exact .inr ⟨l,m,fds,hl0,hs0,n0,N,K,a1,a2,a3,a4,a5,a6,a7,a8,a9,a10,gs,All.up_ h hu hs hb⟩
theorem fds_len {P:Nat} {fds fT:List Fd} {p p':Nat×Nat} (h1:feedL 0 0 (B.take P)=(p,fds)) (h2:feedL 0 0 B=(p',fT)):∃ f2,fT=fds++f2∧feedL p.1 p.2 (B.drop P)=(p',f2):=by
 obtain ⟨⟨p2,f2⟩,hq⟩:∃ x,feedL p.1 p.2 (B.drop P)=x:=⟨_,rfl⟩
 obtain ⟨l,m⟩:=p
 have:=feed_app (B.take P) (B.drop P) h1 (l':=p2.1) (m':=p2.2) (f':=f2) hq
 rw [List.take_append_drop,h2] at this
 cases this
 exact ⟨f2,rfl,hq⟩
theorem ws_app (h:WS w0 vw q P B w F) (hb:w0.heap.size≤w.heap.size) (hq:q≤20) (hf:∃ p' fT,feedL 0 0 B=(p',fT)∧fT.length≤20) (hu:Own bv w0.heap.size 5 w u l) (hd:∀ x∈blk u,¬ F x) (hdv:∀ w,Own bv w0.heap.size 5 w u l→Bytes w dv p) (h1:dv.oneCell'=true) (hl:B.length+p.length≤65536) :
  Calls Tryz.prog 8 #[vw,appS dv] w fun e w'=>e = .returned out0∧UpdP (fun x=>F x∨x∈blk u) w w'∧Own bv w0.heap.size 5 w' u l∧∃ F',WS w0 vw q P (B++p) w' F'∧(∀ x∈blk u,¬ F' x)∧∀ x,F' x→F x∨w.heap.size≤x:=by
 rcases h with ⟨r1,r2,h⟩|⟨l',m,fds,hl0,hs0,n0,N,K,a1,a2,a3,a4,a5,a6,a7,a8,a9,a10,h⟩
 ·refine (do_app_first h hb (by omega) hu hd hdv h1 hl).mono ?_
  rintro e w' ⟨e1,e2,e3,F',e4,e5,e6⟩
  exact ⟨e1,e2,e3,F',.inl ⟨r1,r2,e4⟩,e5,e6⟩
 ·obtain ⟨p',fT,f1,f2⟩:=hf
  obtain ⟨f3,rfl,-⟩:=fds_len a3 f1
  rw [List.length_append] at f2
  refine (do_app_more h hb (by omega) hu hd hdv h1 hl).mono ?_
  rintro e w' ⟨e1,e2,e3,F',e4,e5,e6⟩
  refine ⟨e1,e2,e3,F',.inr ⟨l',m,fds,hl0,hs0,n0,N,K,a1,by rw [List.length_append];omega,by rw [List.take_append_of_le_length a2];exact a3,a4,by rw [List.length_append];omega,by rw [List.take_append_of_le_length a5];exact a6,a7,a8,a9,a10,e4⟩,e5,e6⟩
theorem ws_poll (h:WS w0 vw q P B w F) (hb:w0.heap.size≤w.heap.size) (hq:q≤20) (hP:0 < q→P < B.length) (hB:B.length≤60000) (hc:∀ c∈B,c=121∨c=10) {l1 n1:Nat} {fT:List Fd} (hf:feedL 0 0 B=((l1,n1),fT)) (hfl:fT.length≤20) :
  Calls Tryz.prog 8 #[vw,pollS] w fun e w'=>e = .returned out0∧UpdP F w w'∧∃ F',WS w0 vw (q+1) B.length B w' F'∧∀ x,F' x→F x∨w.heap.size≤x:=by
 have hok:=feed_ok (l:=B) (by omega)
 rw [hf] at hok
 have hsum:=(feed_sum 0 0 B ((0,0),[])).1
 have hsum:B.length=(feedL 0 0 B).1.1+(feedL 0 0 B).1.2:=by simpa [feedL] using hsum
 rw [hf] at hsum
 dsimp only at hsum
 have hts:((headSum (B.take 16)).toNat:Int)=((sumOn 0 (B.take (min (B.take 16).length 16))).toNat:Int):=by
  have:B.take (min (B.take 16).length 16)=(B.take 16).take 16:=by
   rw [List.take_take,List.length_take]
   rcases Nat.le_total 16 B.length with z|z
   ·rw [Nat.min_eq_left z]
   ·rw [Nat.min_eq_right z,Nat.min_eq_left z]
    simp [List.take_of_length_le z]
  rw [this];rfl
 have hl16:min (B.take 16).length 16≤B.length:=by rw [List.length_take];omega
 rcases h with ⟨r1,r2,h⟩|⟨l',m,fds,hl0,hs0,n0,N,K,a1,a2,a3,a4,a5,a6,a7,a8,a9,a10,h⟩
 ·refine (poll_first h hb (by omega) hB hc hf (add_ok (f1:=[]) hok) (by omega) (by omega) (by simp;omega)).mono ?_
  rintro e w' ⟨e1,e2,F',e3,e4⟩
  exact ⟨e1,e2,F',.inr ⟨l1,n1,fT,_,_,_,_,_,hsum.symm,Nat.le_refl _,by rw [List.take_length];exact hf,Nat.min_le_right _ _,hl16,hts,by omega,by omega,by omega,by omega,e3⟩,e4⟩
 ·obtain ⟨f2,rfl,g2⟩:=fds_len a3 hf
  rw [List.length_append] at hfl
  have hlt:=hP a10
  subst a1
  refine (poll_more h hb (by omega) hB hc hlt a4 a5 a6 g2 (add_ok hok) (by omega) (by omega) (by simp;omega)).mono ?_
  rintro e w' ⟨e1,e2,F',e3,e4⟩
  rw [← List.map_append] at e3
  exact ⟨e1,e2,F',.inr ⟨l1,n1,fds++f2,_,_,_,_,_,hsum.symm,Nat.le_refl _,by rw [List.take_length];exact hf,Nat.min_le_right _ _,hl16,hts,by omega,by rw [List.length_append];omega,by rw [List.length_append];omega,by omega,e3⟩,e4⟩
end
end Go.Proofs.YthgnlfikneipiaaGreat
namespace Go.Proofs.YthgnlfikneipiaaGreat
open Go.RowKit
open Go.Eng (Asr UpdP TS AllF All engA plainV)
theorem updOld {w0 w w':World} {S:Nat→Prop} (h1:Upd [] w0 w) (hu:UpdP S w w') (hb:∀ x,S x→w0.heap.size≤x):Upd [] w0 w':=by
 refine ⟨hu.os.trans h1.os,hu.tape.trans h1.tape,hu.output.trans h1.output,Nat.le_trans h1.size hu.size,fun k hk hn=>?_⟩
 rw [hu.block k (Nat.lt_of_lt_of_le hk h1.size) (fun q=>by have:=hb k q;omega)]
 exact h1.block k hk hn
theorem nth_drop' {α} [Inhabited α] (l:List α) (m j:Nat):nth (l.drop m) j=nth l (m+j):=by simp [nth]
theorem nth_take' {α} [Inhabited α] (l:List α) (m j:Nat) (h:j < m):nth (l.take m) j=nth l j:=by simp [nth,List.getElem?_take,h]
theorem own_front {b:Nat} {w:World} {g n cap:Nat} {l:List UInt8} (h:Own bv b 5 w (.slice (some ⟨g,0,none⟩) n cap) l) (m c:Nat) (hm:m≤l.length) (hc:m≤c) (hc2:c≤1000000):Bytes w (.slice (some ⟨g,0,none⟩) m c) (l.take m):=by
 refine ⟨_,c,by rw [List.length_take,Nat.min_eq_left hm],by rw [List.length_take];omega,by unfold maxLen;omega,fun _=>⟨g,0,rfl,fun j hj=>?_⟩⟩
 rw [List.length_take,Nat.min_eq_left hm] at hj
 rw [Nat.zero_add,h.cell j (by omega),nth_take' l m j hj]
theorem own_back {b:Nat} {w:World} {g n cap:Nat} {l:List UInt8} (h:Own bv b 5 w (.slice (some ⟨g,0,none⟩) n cap) l) (m d c:Nat) (hm:m≤l.length) (hd:d=l.length-m) (hc:d≤c) (hc2:c≤1000000):Bytes w (.slice (some ⟨g,m,none⟩) d c) (l.drop m):=by
 refine ⟨_,c,by rw [List.length_drop,hd],by rw [List.length_drop];omega,by unfold maxLen;omega,fun _=>⟨g,m,rfl,fun j hj=>?_⟩⟩
 rw [List.length_drop] at hj
 rw [h.cell (m+j) (by omega),nth_drop' l m j]
def lines:List Nat→List UInt8
 | []=>[]
 | n::ns=>ln n++lines ns
theorem lines_app:∀ (a b:List Nat),lines (a++b)=lines a++lines b
 | [],b=>rfl
 | n::a,b=>by simp only [List.cons_append,lines,lines_app a b,List.append_assoc]
theorem lines_snoc (a:List Nat) (n:Nat):lines (a++[n])=lines a++ln n:=by rw [lines_app];simp [lines]
def wants (line:Nat):List Nat→List Fd
 | []=>[]
 | n::ns=>wantF line n::wants (line+n+1) ns
theorem wants_len:∀ (line:Nat) (ns:List Nat),(wants line ns).length=ns.length
 | _,[]=>rfl
 | line,n::ns=>by simp only [wants,List.length_cons,wants_len]
theorem feed_lines:∀ (ns:List Nat) (line:Nat),feedL line 0 (lines ns)=((line+(lines ns).length,0),wants line ns)
 | [],line=>rfl
 | n::ns,line=>by
  have:=feed_app _ _ (feed_ln line n) (feed_lines ns (line+n+1))
  rw [lines,this,List.length_append,ln_len]
  rw [show line+n+1+(lines ns).length=line+(n+1+(lines ns).length) by omega]
  rfl
theorem wants_snoc:∀ (ns:List Nat) (line n:Nat),wants line (ns++[n])=wants line ns++[wantF (line+(lines ns).length) n]
 | [],line,n=>rfl
 | m::ns,line,n=>by
  rw [List.cons_append,wants,wants,wants_snoc ns,lines,List.length_append,ln_len,List.cons_append]
  rw [show line+m+1+(lines ns).length=line+(m+1+(lines ns).length) by omega]
theorem ln_mem (n:Nat):∀ c∈ln n,c=121∨c=10:=by
 intro c hc
 rcases List.mem_append.1 hc with q|q
 ·exact .inl (List.eq_of_mem_replicate q)
 ·exact .inr (List.mem_singleton.1 q)
theorem lines_mem:∀ (ns:List Nat),∀ c∈lines ns,c=121∨c=10
 | [],c,h=>by cases h
 | n::ns,c,h=>by
  rcases List.mem_append.1 h with q|q
  ·exact ln_mem n c q
  ·exact lines_mem ns c q
theorem lines_bd:∀ (ns:List Nat),(∀ n∈ns,n≤450)→(lines ns).length≤451*ns.length
 | [],_=>by simp [lines]
 | n::ns,h=>by
  have:=lines_bd ns fun x hx=>h x (List.mem_cons_of_mem _ hx)
  have:=h n (List.mem_cons_self ..)
  rw [lines,List.length_append,ln_len,List.length_cons];omega
theorem feed_half (ns:List Nat) (n:Nat):∃ p f,feedL 0 0 (lines ns++(ln n).take (n / 2))=(p,f)∧f.length≤ns.length+1:=by
 have ht:(ln n).take (n / 2)=List.replicate (n / 2) 121:=by
  unfold ln
  rw [List.take_append_of_le_length (by simp;omega),List.take_replicate,Nat.min_eq_left (by omega)]
 have:=feed_app _ _ (feed_lines ns 0) (feed_ys (n / 2) (0+(lines ns).length) 0)
 rw [ht]
 refine ⟨_,_,this,?_⟩
 rw [List.length_append,wants_len]
 split<;>simp
def LI (w0:World) (vw:Value) (k:Nat) (wr:World) (vl:Value) (at_:Value):Prop :=
 ∃ ns q P F,ns.length=k∧(∀ n∈ns,n≤450)∧at_ = .int .i64 ((lines ns).length:Int)∧WS w0 vw q P (lines ns) wr F∧OwnN 15 recCells w0.heap.size 48 wr vl ((wants 0 ns).map (recF 1 1))∧(∀ x∈blk vl,¬ F x)∧q≤k∧(0 < q→P < (lines ns).length)∧Upd [] w0 wr
end Go.Proofs.YthgnlfikneipiaaGreat
