/- Texts of the proof, joined. -/
import Derived.Test.YthgnlfikneipiaaGreatMg1
import Derived.Test.YthgnlfikneipiaaGreatMg13
import Derived.Test.YthgnlfikneipiaaGreatMg10
import Derived.Test.YthgnlfikneipiaaGreatMg9
import Derived.Test.YthgnlfikneipiaaGreatMg11
import Derived.Test.YthgnlfikneipiaaGreatMg8
import Derived.Test.YthgnlfikneipiaaGreatMg4
import Derived.Test.YthgnlfikneipiaaGreatMg3
import Derived.Test.YthgnlfikneipiaaGreatMg6
import Derived.Deep.MidRow
import Derived.Test.YthgnlfikneipiaaGreatMg5
import Derived.ChangeKeysEq
import Derived.Laws.StructEq
import Derived.Deep.CutRange
import Derived.Deep.DeepCutAuto
set_option linter.unusedSimpArgs false
set_option linter.unusedVariables false
set_option linter.unusedSectionVars false
set_option maxRecDepth 100000
set_option maxHeartbeats 4000000
namespace Go.Proofs.YthgnlfikneipiaaGreat
open Go.RowKit
open Go.Eng (cR cJ TS dN cW)
section
variable {w0 w W : World} {F : Nat → Prop} {V : FV} {fl fl' : FL} {n0 N K : Nat} {B : List UInt8} {pat : List Bool} {l : List (cR w0.heap.size)} {gw : Nat}
theorem c6o (hb:w0.heap.size≤w.heap.size) (hK:K≤4000) (nm:ByteArray) (he:jN fl nm=(0,fl')) (h:Lf (cE w0 V fl n0 N K B pat::cM _ gw 67 [V.y,V.d,V.f]::l) w F W) :
  Calls Tryz.prog 8 #[.pointer (some ⟨gw,0,none⟩),d4j 1 0 nm ⟨#[]⟩ (.slice none 0 0) (.slice none 0 0) ⟨#[]⟩] W fun e w'=>e = .returned (a7l 0)∧Lf (cE w0 V fl' n0 N K B pat::cM _ gw 67 [V.y,V.d,V.f]::l) w F w':=by
 have Z:=bG hb;have z:Lf (cE w0 V fl n0 N K B pat::cM _ W.heap.size 35 [.int .i64 1,.int .i64 0,.string nm,.string ⟨#[]⟩,.slice none 0 0,.slice none 0 0,.string ⟨#[]⟩]::cM _ gw 67 [V.y,V.d,V.f]::l) w F (W.alloc (.cells #[.int .i64 1,.int .i64 0,.string nm,.string ⟨#[]⟩,.slice none 0 0,.slice none 0 0,.string ⟨#[]⟩] 35)):=eJ 35 [.int .i64 1,.int .i64 0,.string nm,.string ⟨#[]⟩,.slice none 0 0,.slice none 0 0,.string ⟨#[]⟩] hb h;have g:=eJ 41 [.int .i64 0,.int .i64 0,.slice none 0 0,.slice none 0 0] hb z;rw[show (W.alloc (.cells #[.int .i64 1,.int .i64 0,.string nm,.string ⟨#[]⟩,.slice none 0 0,.slice none 0 0,.string ⟨#[]⟩] 35)).heap.size=W.heap.size+1 by simp] at g;have A:Hid (Lf (cE w0 V fl n0 N K B pat::cM _ (W.heap.size+1) 41 [.int .i64 0,.int .i64 0,.slice none 0 0,.slice none 0 0]::cM _ W.heap.size 35 [.int .i64 1,.int .i64 0,.string nm,.string ⟨#[]⟩,.slice none 0 0,.slice none 0 0,.string ⟨#[]⟩]::cM _ gw 67 [V.y,V.d,V.f]::l) w F ((W.alloc (.cells #[.int .i64 1,.int .i64 0,.string nm,.string ⟨#[]⟩,.slice none 0 0,.slice none 0 0,.string ⟨#[]⟩] 35)).alloc (.cells #[.int .i64 0,.int .i64 0,.slice none 0 0,.slice none 0 0] 41))):=g;have b:=bG (dR A.out fun f u=>a9t hK u);have p:Hid (∀ v x,Lf (cE w0 V fl n0 N K B pat::x) w F v→Calls Tryz.prog 21 #[V.y,.string nm] v fun e w'=>e = .returned (.int .i64 0)∧Lf (cE w0 V fl' n0 N K B pat::x) w F w'):=fun v x Y=>by
  refine(dR Y fun f u=>e4m u fun n G hs=>c5w hs nm he).mono ?_;rintro e w' ⟨_,⟨rfl,rfl⟩,T⟩;exact⟨rfl,T⟩
 have C:=(bX (i:=3) g rfl).cell 1;dsimp only[List.getElem?_cons_zero,List.getElem?_cons_succ] at C;have r:gw < W.heap.size:=(bX (i:=1) h rfl).lt;clear h z g hb hK he;go_enter Tryz.func8,Tryz.ntmps8;go_wp2_with fail
 (with_reducible refine b.out.mono ?_)
 rintro e m ⟨_,⟨rfl,rfl⟩,L⟩;have j:Hid (Lf (cE w0 V fl n0 N K B pat::cM _ (W.heap.size+1) 41 [.int .i64 0,.int .i64 0,.slice none 0 0,.slice none 0 0]::cM _ W.heap.size 35 [.int .i64 1,.int .i64 0,.string nm,.string ⟨#[]⟩,.slice none 0 0,.slice none 0 0,.string ⟨#[]⟩]::cM _ gw 67 [V.y,V.d,V.f]::l) w F m):=L;clear L A b C;have s0:m.cell? ⟨W.heap.size,0,none⟩=some (.int .i64 1):=(bX (i:=2) j.out rfl).cell 0;have s2:m.cell? ⟨W.heap.size,2,none⟩=some (.string nm):=(bX (i:=2) j.out rfl).cell 2;have y0:m.cell? ⟨gw,0,none⟩=some V.y:=(bX (i:=3) j.out rfl).cell 0;generalize W.heap.size=gs at *
 have D:¬ gw=gs+1:=by omega
 have E:¬ gs+1=gw:=by omega
 clear r;go_wp2_with fail
 go_region_held3 (fun W=>W.cell? ⟨gw,0,none⟩=some V.y∧W.cell? ⟨gs,2,none⟩=some (.string nm)) (first|go_keep|exact⟨I,J⟩|((repeat' apply And.intro)<;>(first|go_keep|exact I|exact J|(simp only[World.cell?_setCell];go_keep)))) (first
  | (go_at_call 21;(with_reducible refine(p.out _ _ (jE j.out)).mono ?_);(rintro _ o ⟨rfl,a⟩;have s:=bG a;have I:o.cell? ⟨gw,0,none⟩=some V.y:=(bX (i:=3) a rfl).cell 0;have J:o.cell? ⟨gs,2,none⟩=some (.string nm):=(bX (i:=2) a rfl).cell 2;have O:=(bX (i:=1) a rfl).cell 0;have P:=(bX (i:=1) a rfl).cell 1;have Q:=(bX (i:=1) a rfl).cell 2;have R:=(bX (i:=1) a rfl).cell 3;have f0:=(bX (i:=1) a rfl).frozen 0;have f1:=(bX (i:=1) a rfl).frozen 1;have f2:=(bX (i:=1) a rfl).frozen 2;have f3:=(bX (i:=1) a rfl).frozen 3;(dsimp only[List.getElem?_cons_zero,List.getElem?_cons_succ] at O P Q R);clear a;dsimp only))
  | fail)
 all_goals
  go_wp2_with fail
  have t:=((((bX (i:=1) s.out rfl).set_ 0 (.int .i64 0)).set_ 1 (.int .i64 0)).set_ 2 (.slice none 0 0)).set_ 3 (.slice none 0 0);have c:=((((bR.refl [gs+1] o).setCell ⟨gs+1,0,none⟩ (.int .i64 0) (.inl (by simp))).setCell ⟨gs+1,1,none⟩ (.int .i64 0) (.inl (by simp))).setCell ⟨gs+1,2,none⟩ (.slice none 0 0) (.inl (by simp))).setCell ⟨gs+1,3,none⟩ (.slice none 0 0) (.inl (by simp));generalize (((o.setCell ⟨gs+1,0,none⟩ (.int .i64 0)).setCell ⟨gs+1,1,none⟩ (.int .i64 0)).setCell ⟨gs+1,2,none⟩ (.slice none 0 0)).setCell ⟨gs+1,3,none⟩ (.slice none 0 0)=w6 at *
  have S:=bG (xI (i:=1) s.out rfl (by exact bH (Nat.succ_pos _)) c);clear c s;obtain⟨M,U,X⟩:=vO a4a;refine bodyPost_ret (results_cell_row rfl _ _ (gs+1) 41 #[.int .i64 0,.int .i64 0,.slice none 0 0,.slice none 0 0] (0,0) M rfl t U (by cases M<;>first|rfl|cases X) xJ) rfl ?_;exact⟨rfl,eZ (eZ S.out)⟩
theorem c6p (hb:w0.heap.size≤w.heap.size) (hK:K≤4000) (nm:ByteArray) (he:fM fl nm=(0,fl')) (h:Lf (cE w0 V fl n0 N K B pat::cM _ gw 67 [V.y,V.d,V.f]::l) w F W) :
  Calls Tryz.prog 8 #[.pointer (some ⟨gw,0,none⟩),d4j 5 0 nm ⟨#[]⟩ (.slice none 0 0) (.slice none 0 0) ⟨#[]⟩] W fun e w'=>e = .returned (a7l 0)∧Lf (cE w0 V fl' n0 N K B pat::cM _ gw 67 [V.y,V.d,V.f]::l) w F w':=by
 have Z:=bG hb;have z:Lf (cE w0 V fl n0 N K B pat::cM _ W.heap.size 35 [.int .i64 5,.int .i64 0,.string nm,.string ⟨#[]⟩,.slice none 0 0,.slice none 0 0,.string ⟨#[]⟩]::cM _ gw 67 [V.y,V.d,V.f]::l) w F (W.alloc (.cells #[.int .i64 5,.int .i64 0,.string nm,.string ⟨#[]⟩,.slice none 0 0,.slice none 0 0,.string ⟨#[]⟩] 35)):=eJ 35 [.int .i64 5,.int .i64 0,.string nm,.string ⟨#[]⟩,.slice none 0 0,.slice none 0 0,.string ⟨#[]⟩] hb h;have g:=eJ 41 [.int .i64 0,.int .i64 0,.slice none 0 0,.slice none 0 0] hb z;rw[show (W.alloc (.cells #[.int .i64 5,.int .i64 0,.string nm,.string ⟨#[]⟩,.slice none 0 0,.slice none 0 0,.string ⟨#[]⟩] 35)).heap.size=W.heap.size+1 by simp] at g;have A:Hid (Lf (cE w0 V fl n0 N K B pat::cM _ (W.heap.size+1) 41 [.int .i64 0,.int .i64 0,.slice none 0 0,.slice none 0 0]::cM _ W.heap.size 35 [.int .i64 5,.int .i64 0,.string nm,.string ⟨#[]⟩,.slice none 0 0,.slice none 0 0,.string ⟨#[]⟩]::cM _ gw 67 [V.y,V.d,V.f]::l) w F ((W.alloc (.cells #[.int .i64 5,.int .i64 0,.string nm,.string ⟨#[]⟩,.slice none 0 0,.slice none 0 0,.string ⟨#[]⟩] 35)).alloc (.cells #[.int .i64 0,.int .i64 0,.slice none 0 0,.slice none 0 0] 41))):=g;have b:=bG (dR A.out fun f u=>a9t hK u);have p:Hid (∀ v x,Lf (cE w0 V fl n0 N K B pat::x) w F v→Calls Tryz.prog 25 #[V.y,.string nm] v fun e w'=>e = .returned (.int .i64 0)∧Lf (cE w0 V fl' n0 N K B pat::x) w F w'):=fun v x Y=>by
  refine(dR Y fun f u=>e4m u fun n G hs=>c5x hs nm he).mono ?_;rintro e w' ⟨_,⟨rfl,rfl⟩,T⟩;exact⟨rfl,T⟩
 have C:=(bX (i:=3) g rfl).cell 1;dsimp only[List.getElem?_cons_zero,List.getElem?_cons_succ] at C;have r:gw < W.heap.size:=(bX (i:=1) h rfl).lt;clear h z g hb hK he;go_enter Tryz.func8,Tryz.ntmps8;go_wp2_with fail
 (with_reducible refine b.out.mono ?_)
 rintro e m ⟨_,⟨rfl,rfl⟩,L⟩;have j:Hid (Lf (cE w0 V fl n0 N K B pat::cM _ (W.heap.size+1) 41 [.int .i64 0,.int .i64 0,.slice none 0 0,.slice none 0 0]::cM _ W.heap.size 35 [.int .i64 5,.int .i64 0,.string nm,.string ⟨#[]⟩,.slice none 0 0,.slice none 0 0,.string ⟨#[]⟩]::cM _ gw 67 [V.y,V.d,V.f]::l) w F m):=L;clear L A b C;have s0:m.cell? ⟨W.heap.size,0,none⟩=some (.int .i64 5):=(bX (i:=2) j.out rfl).cell 0;have s2:m.cell? ⟨W.heap.size,2,none⟩=some (.string nm):=(bX (i:=2) j.out rfl).cell 2;have y0:m.cell? ⟨gw,0,none⟩=some V.y:=(bX (i:=3) j.out rfl).cell 0;generalize W.heap.size=gs at *
 have D:¬ gw=gs+1:=by omega
 have E:¬ gs+1=gw:=by omega
 clear r;go_wp2_with fail
 go_region_held3 (fun W=>W.cell? ⟨gw,0,none⟩=some V.y∧W.cell? ⟨gs,2,none⟩=some (.string nm)) (first|go_keep|exact⟨I,J⟩|((repeat' apply And.intro)<;>(first|go_keep|exact I|exact J|(simp only[World.cell?_setCell];go_keep)))) (first
  | (go_at_call 25;(with_reducible refine(p.out _ _ (jE j.out)).mono ?_);(rintro _ o ⟨rfl,a⟩;have s:=bG a;have I:o.cell? ⟨gw,0,none⟩=some V.y:=(bX (i:=3) a rfl).cell 0;have J:o.cell? ⟨gs,2,none⟩=some (.string nm):=(bX (i:=2) a rfl).cell 2;have O:=(bX (i:=1) a rfl).cell 0;have P:=(bX (i:=1) a rfl).cell 1;have Q:=(bX (i:=1) a rfl).cell 2;have R:=(bX (i:=1) a rfl).cell 3;have f0:=(bX (i:=1) a rfl).frozen 0;have f1:=(bX (i:=1) a rfl).frozen 1;have f2:=(bX (i:=1) a rfl).frozen 2;have f3:=(bX (i:=1) a rfl).frozen 3;(dsimp only[List.getElem?_cons_zero,List.getElem?_cons_succ] at O P Q R);clear a;dsimp only))
  | fail)
 all_goals
  go_wp2_with fail
  have t:=((((bX (i:=1) s.out rfl).set_ 0 (.int .i64 0)).set_ 1 (.int .i64 0)).set_ 2 (.slice none 0 0)).set_ 3 (.slice none 0 0);have c:=((((bR.refl [gs+1] o).setCell ⟨gs+1,0,none⟩ (.int .i64 0) (.inl (by simp))).setCell ⟨gs+1,1,none⟩ (.int .i64 0) (.inl (by simp))).setCell ⟨gs+1,2,none⟩ (.slice none 0 0) (.inl (by simp))).setCell ⟨gs+1,3,none⟩ (.slice none 0 0) (.inl (by simp));generalize (((o.setCell ⟨gs+1,0,none⟩ (.int .i64 0)).setCell ⟨gs+1,1,none⟩ (.int .i64 0)).setCell ⟨gs+1,2,none⟩ (.slice none 0 0)).setCell ⟨gs+1,3,none⟩ (.slice none 0 0)=w6 at *
  have S:=bG (xI (i:=1) s.out rfl (by exact bH (Nat.succ_pos _)) c);clear c s;obtain⟨M,U,X⟩:=vO a4a;refine bodyPost_ret (results_cell_row rfl _ _ (gs+1) 41 #[.int .i64 0,.int .i64 0,.slice none 0 0,.slice none 0 0] (0,0) M rfl t U (by cases M<;>first|rfl|cases X) xJ) rfl ?_;exact⟨rfl,eZ (eZ S.out)⟩
theorem c6q (hb:w0.heap.size≤w.heap.size) (hK:K≤4000) (nm:ByteArray) {dv:Value} {p:List UInt8} (hd1:dv.oneCell'=true) (hp:∀ W',Lf (cM _ gw 67 [V.y,V.d,V.f]::l) w F W'→eQ W' dv p) (hpl:p.length≤100000) (he:kL fl nm p=(0,fl')) (h:Lf (cE w0 V fl n0 N K B pat::cM _ gw 67 [V.y,V.d,V.f]::l) w F W) :
  Calls Tryz.prog 8 #[.pointer (some ⟨gw,0,none⟩),d4j 2 0 nm ⟨#[]⟩ dv (.slice none 0 0) ⟨#[]⟩] W fun e w'=>e = .returned (a7l 0)∧Lf (cE w0 V fl' n0 N K B pat::cM _ gw 67 [V.y,V.d,V.f]::l) w F w':=by
 have HB:=bG hb;have C:Lf (cE w0 V fl n0 N K B pat::cM _ W.heap.size 35 [.int .i64 2,.int .i64 0,.string nm,.string ⟨#[]⟩,dv,.slice none 0 0,.string ⟨#[]⟩]::cM _ gw 67 [V.y,V.d,V.f]::l) w F (W.alloc (.cells #[.int .i64 2,.int .i64 0,.string nm,.string ⟨#[]⟩,dv,.slice none 0 0,.string ⟨#[]⟩] 35)):=eJ 35 [.int .i64 2,.int .i64 0,.string nm,.string ⟨#[]⟩,dv,.slice none 0 0,.string ⟨#[]⟩] hb h;have o:=eJ 41 [.int .i64 0,.int .i64 0,.slice none 0 0,.slice none 0 0] hb C;rw[show (W.alloc (.cells #[.int .i64 2,.int .i64 0,.string nm,.string ⟨#[]⟩,dv,.slice none 0 0,.string ⟨#[]⟩] 35)).heap.size=W.heap.size+1 by simp] at o;have D:Hid (Lf (cE w0 V fl n0 N K B pat::cM _ (W.heap.size+1) 41 [.int .i64 0,.int .i64 0,.slice none 0 0,.slice none 0 0]::cM _ W.heap.size 35 [.int .i64 2,.int .i64 0,.string nm,.string ⟨#[]⟩,dv,.slice none 0 0,.string ⟨#[]⟩]::cM _ gw 67 [V.y,V.d,V.f]::l) w F ((W.alloc (.cells #[.int .i64 2,.int .i64 0,.string nm,.string ⟨#[]⟩,dv,.slice none 0 0,.string ⟨#[]⟩] 35)).alloc (.cells #[.int .i64 0,.int .i64 0,.slice none 0 0,.slice none 0 0] 41))):=o;have c:=bG (dR D.out fun f x=>a9t hK x);have r:Hid (∀ W' z,Lf (cE w0 V fl n0 N K B pat::z) w F W'→eQ W' dv p→Calls Tryz.prog 22 #[V.y,.string nm,dv] W' fun e w'=>e = .returned (.int .i64 0)∧Lf (cE w0 V fl' n0 N K B pat::z) w F w'):=fun W' z h' A=>by
  refine(dR h' fun f x=>e4m x fun n G hs=>c5v hs nm A hpl he).mono ?_;rintro e w' ⟨_,⟨rfl,rfl⟩,Y⟩;exact⟨rfl,Y⟩
 have E:=(bX (i:=3) o rfl).cell 1;dsimp only[List.getElem?_cons_zero,List.getElem?_cons_succ] at E;have s:gw < W.heap.size:=(bX (i:=1) h rfl).lt;clear h C o hb hK he hpl;go_enter Tryz.func8,Tryz.ntmps8;go_wp2_with fail
 (with_reducible refine c.out.mono ?_)
 rintro e j ⟨_,⟨rfl,rfl⟩,O⟩;have b:Hid (Lf (cE w0 V fl n0 N K B pat::cM _ (W.heap.size+1) 41 [.int .i64 0,.int .i64 0,.slice none 0 0,.slice none 0 0]::cM _ W.heap.size 35 [.int .i64 2,.int .i64 0,.string nm,.string ⟨#[]⟩,dv,.slice none 0 0,.string ⟨#[]⟩]::cM _ gw 67 [V.y,V.d,V.f]::l) w F j):=O;clear O D c E;have s0:j.cell? ⟨W.heap.size,0,none⟩=some (.int .i64 2):=(bX (i:=2) b.out rfl).cell 0;have s2:j.cell? ⟨W.heap.size,2,none⟩=some (.string nm):=(bX (i:=2) b.out rfl).cell 2;have t:=bG (hp _ (d4i (jE b.out)));have s4:j.cell? ⟨W.heap.size,4,none⟩=some dv:=(bX (i:=2) b.out rfl).cell 4;have y0:j.cell? ⟨gw,0,none⟩=some V.y:=(bX (i:=3) b.out rfl).cell 0;generalize W.heap.size=gs at *
 have I:¬ gw=gs+1:=by omega
 have J:¬ gs+1=gw:=by omega
 clear s;go_wp2_with fail
 go_region_held3 (fun W=>W.cell? ⟨gw,0,none⟩=some V.y∧W.cell? ⟨gs,2,none⟩=some (.string nm)∧W.cell? ⟨gs,4,none⟩=some dv) (first|go_keep|exact⟨L,M,Q⟩|((repeat' apply And.intro)<;>(first|go_keep|exact L|exact M|(simp only[World.cell?_setCell];go_keep)))) (first
  | (go_at_call 22;(with_reducible refine(r.out _ _ (jE b.out) t.out).mono ?_);(rintro _ m ⟨rfl,a⟩;have u:=bG a;have L:m.cell? ⟨gw,0,none⟩=some V.y:=(bX (i:=3) a rfl).cell 0;have M:m.cell? ⟨gs,2,none⟩=some (.string nm):=(bX (i:=2) a rfl).cell 2;have Q:m.cell? ⟨gs,4,none⟩=some dv:=(bX (i:=2) a rfl).cell 4;have R:=(bX (i:=1) a rfl).cell 0;have S:=(bX (i:=1) a rfl).cell 1;have T:=(bX (i:=1) a rfl).cell 2;have U:=(bX (i:=1) a rfl).cell 3;have f0:=(bX (i:=1) a rfl).frozen 0;have f1:=(bX (i:=1) a rfl).frozen 1;have f2:=(bX (i:=1) a rfl).frozen 2;have f3:=(bX (i:=1) a rfl).frozen 3;(dsimp only[List.getElem?_cons_zero,List.getElem?_cons_succ] at R S T U);clear a;dsimp only))
  | fail)
 all_goals
  go_wp2_with fail
  have v:=((((bX (i:=1) u.out rfl).set_ 0 (.int .i64 0)).set_ 1 (.int .i64 0)).set_ 2 (.slice none 0 0)).set_ 3 (.slice none 0 0);have g:=((((bR.refl [gs+1] m).setCell ⟨gs+1,0,none⟩ (.int .i64 0) (.inl (by simp))).setCell ⟨gs+1,1,none⟩ (.int .i64 0) (.inl (by simp))).setCell ⟨gs+1,2,none⟩ (.slice none 0 0) (.inl (by simp))).setCell ⟨gs+1,3,none⟩ (.slice none 0 0) (.inl (by simp));generalize (((m.setCell ⟨gs+1,0,none⟩ (.int .i64 0)).setCell ⟨gs+1,1,none⟩ (.int .i64 0)).setCell ⟨gs+1,2,none⟩ (.slice none 0 0)).setCell ⟨gs+1,3,none⟩ (.slice none 0 0)=w6 at *
  have X:=bG (xI (i:=1) u.out rfl (by exact bH (Nat.succ_pos _)) g);clear g u;obtain⟨P,Z,e2⟩:=vO a4a;refine bodyPost_ret (results_cell_row rfl _ _ (gs+1) 41 #[.int .i64 0,.int .i64 0,.slice none 0 0,.slice none 0 0] (0,0) P rfl v Z (by cases P<;>first|rfl|cases e2) xJ) rfl ?_;exact⟨rfl,eZ (eZ X.out)⟩
end
theorem kR {w0 w W:World} {F:Nat→Prop} {A B C:cR w0.heap.size} {l:List (cR w0.heap.size)} (h:Lf (A::B::C::l) w F W):Lf (A::B::l) w F W:=by
 obtain⟨u,b,c,d⟩:=h;obtain⟨f,v,g,i,j,o⟩:=Eng.cW.split (l:=[A,B]) (m:=C::l) b;obtain⟨y,r,z,s,D,a⟩:=Eng.cW.split (l:=[C]) (m:=l) i;exact⟨fun x=>f x∨r x,Eng.cW.join (l:=[A,B]) (m:=l) g s (fun x p q=>j x p ((a x).2 (.inr q))) fun x=>Iff.rfl,c,fun x t=>d x ((o x).2 (t.imp id fun q=>(a x).2 (.inr q)))⟩
theorem b4z {w0 w W:World} {F:Nat→Prop} {A B D C:cR w0.heap.size} {l:List (cR w0.heap.size)} (h:Lf (A::B::D::C::l) w F W):Lf (A::B::D::l) w F W:=by
 obtain⟨u,b,c,d⟩:=h;obtain⟨f,v,g,i,j,o⟩:=Eng.cW.split (l:=[A,B,D]) (m:=C::l) b;obtain⟨y,r,z,s,E,a⟩:=Eng.cW.split (l:=[C]) (m:=l) i;exact⟨fun x=>f x∨r x,Eng.cW.join (l:=[A,B,D]) (m:=l) g s (fun x p q=>j x p ((a x).2 (.inr q))) fun x=>Iff.rfl,c,fun x t=>d x ((o x).2 (t.imp id fun q=>(a x).2 (.inr q)))⟩
theorem e4n {w0 w W:World} {F:Nat→Prop} {A B D C:cR w0.heap.size} {l:List (cR w0.heap.size)} (h:Lf (A::B::D::C::l) w F W):Lf (A::C::B::D::l) w F W:=by
 obtain⟨g,i,j,o⟩:=h;obtain⟨I,J,r,s,t,u⟩:=Eng.cW.split (l:=[A]) (m:=B::D::C::l) i;obtain⟨b,K,v,y,c,d⟩:=Eng.cW.split (l:=[B,D]) (m:=C::l) s;obtain⟨z,f,E,d2,G,a⟩:=Eng.cW.split (l:=[C]) (m:=l) y;refine⟨g,Eng.cW.join (l:=[A]) (m:=C::B::D::l) (F2:=fun x=>z x∨(b x∨f x)) r (Eng.cW.join (l:=[C]) (m:=B::D::l) (F2:=fun x=>b x∨f x) E (Eng.cW.join (l:=[B,D]) (m:=l) v d2 (fun x p q=>c x p ((a x).2 (.inr q))) fun x=>Iff.rfl) (fun x p q=>?_) fun x=>Iff.rfl) (fun x p q=>?_) (fun x=>?_),j,o⟩
 ·rcases q with q|q
  ·exact c x q ((a x).2 (.inl p))
  ·exact G x p q
 ·refine t x p ((d x).2 ?_);rcases q with q|q|q
  ·exact .inr ((a x).2 (.inl q))
  ·exact .inl q
  ·exact .inr ((a x).2 (.inr q))
 ·rw[u,d,a];constructor
  ·rintro(p|p|p|p)
   ·exact .inl p
   ·exact .inr (.inr (.inl p))
   ·exact .inr (.inl p)
   ·exact .inr (.inr (.inr p))
  ·rintro(p|p|p|p)
   ·exact .inl p
   ·exact .inr (.inr (.inl p))
   ·exact .inr (.inl p)
   ·exact .inr (.inr (.inr p))
section
variable {w0 w W : World} {F : Nat → Prop} {V : FV} {n0 N K : Nat} {B : List UInt8} {pat : List Bool} {nm : Nat → ByteArray} {l : List (cR w0.heap.size)} {gw : Nat}
theorem b9j {ms:List Nat} {s1:List Bool×Nat} (hs:ms.Pairwise (· < ·)) (h12:ms.length≤12) (hp:pat.length≤8) (hok:a9s (nP ms pat (lU 0 pat),0) ms=true) (hs1:ms.foldl stS (nP ms pat (lU 0 pat),0)=s1) (hb:w0.heap.size≤w.heap.size) (hBl:1≤B.length∧B.length≤110) (hn0:n0≤870) (hK:K+8+111*9≤3800+111*pat.length) (hN:N+938*8+23938*9≤238000+23938*pat.length) (h:Lf (cE w0 V (FM nm B ms) n0 N K B pat::cM _ gw 67 [V.y,V.d,V.f]::l) w F W) :
  Calls Tryz.prog 26 #[.pointer (some ⟨gw,0,none⟩),.agg #[.int .i64 6,.int .i64 0,.string ⟨#[]⟩,.string ⟨#[]⟩,.slice none 0 0,.slice none 0 0,.string ⟨#[]⟩]] W fun e w'=>∃ (pa:Option Addr) (pc:Nat) (tl:List (Int×Int)),e = .returned (.agg #[.int .i64 0,.int .i64 0,.slice pa tl.length pc,.slice none 0 0])∧tl.length=s1.2∧Lf (cE w0 V (FM nm B ms) (n0+2*ms.length) (N+938*8+23938*(s1.1.length-pat.length)) (K+8+111*(s1.1.length-pat.length)) B s1.1::cG _ 2 qT 182 (.slice pa tl.length pc) tl::cM _ gw 67 [V.y,V.d,V.f]::l) w F w':=by
 obtain⟨S,p⟩:=sG (i:=0) h rfl;obtain⟨U,r,-,-⟩:=sH p;clear p;have HB:=bG hb;have A:Lf (cE w0 V (FM nm B ms) n0 N K B pat::cM _ W.heap.size 35 [.int .i64 6,.int .i64 0,.string ⟨#[]⟩,.string ⟨#[]⟩,.slice none 0 0,.slice none 0 0,.string ⟨#[]⟩]::cM _ gw 67 [V.y,V.d,V.f]::l) w F (W.alloc (.cells #[.int .i64 6,.int .i64 0,.string ⟨#[]⟩,.string ⟨#[]⟩,.slice none 0 0,.slice none 0 0,.string ⟨#[]⟩] 35)):=eJ 35 [.int .i64 6,.int .i64 0,.string ⟨#[]⟩,.string ⟨#[]⟩,.slice none 0 0,.slice none 0 0,.string ⟨#[]⟩] hb h;have s:=eJ 41 [.int .i64 0,.int .i64 0,.slice none 0 0,.slice none 0 0] hb A;rw[show (W.alloc (.cells #[.int .i64 6,.int .i64 0,.string ⟨#[]⟩,.string ⟨#[]⟩,.slice none 0 0,.slice none 0 0,.string ⟨#[]⟩] 35)).heap.size=W.heap.size+1 by simp] at s;have C:Hid (Lf (cE w0 V (FM nm B ms) n0 N K B pat::cM _ (W.heap.size+1) 41 [.int .i64 0,.int .i64 0,.slice none 0 0,.slice none 0 0]::cM _ W.heap.size 35 [.int .i64 6,.int .i64 0,.string ⟨#[]⟩,.string ⟨#[]⟩,.slice none 0 0,.slice none 0 0,.string ⟨#[]⟩]::cM _ gw 67 [V.y,V.d,V.f]::l) w F ((W.alloc (.cells #[.int .i64 6,.int .i64 0,.string ⟨#[]⟩,.string ⟨#[]⟩,.slice none 0 0,.slice none 0 0,.string ⟨#[]⟩] 35)).alloc (.cells #[.int .i64 0,.int .i64 0,.slice none 0 0,.slice none 0 0] 41))):=s;have m:Hid (∀ x z,Lf (cE w0 V (FM nm B ms) n0 N K B pat::z) w F x→Calls Tryz.prog 42 #[.pointer (some ⟨U,0,none⟩)] x fun e w'=>∃ (pa:Option Addr) (pc:Nat) (tl:List (Int×Int)),e = .returned (.slice pa tl.length pc)∧tl.length=s1.2∧Lf (cE w0 V (FM nm B ms) (n0+2*ms.length) (N+938*8+23938*(s1.1.length-pat.length)) (K+8+111*(s1.1.length-pat.length)) B s1.1::cG _ 2 qT 182 (.slice pa tl.length pc) tl::z) w F w'):=fun x z J=>by
  rw[← r];refine(dR (R:=fun e Z=>∃ v tl,e = .returned v∧tl.length=s1.2∧Z=[cE w0 V (FM nm B ms) (n0+2*ms.length) (N+938*8+23938*(s1.1.length-pat.length)) (K+8+111*(s1.1.length-pat.length)) B s1.1,cG _ 2 qT 182 v tl]) J fun f hf=>?_).mono ?_
  ·refine(d8v hs h12 hp hok hs1 (aL hb (eO J)) hBl hn0 hK hN hf).mono ?_;rintro e w' ⟨v,tl,rfl,j,g⟩;exact⟨_,⟨v,tl,rfl,j,rfl⟩,g⟩
  ·rintro e w' ⟨_,⟨v,tl,rfl,j,rfl⟩,g⟩;obtain⟨a,c,rfl,-⟩:=(c2q (i:=1) g rfl).rd c2o;exact⟨a,c,tl,rfl,j,g⟩
 have d2:=(bX (i:=3) s rfl).cell 2;dsimp only[List.getElem?_cons_zero,List.getElem?_cons_succ] at d2;rw[r] at d2;have t:gw < W.heap.size:=(bX (i:=1) h rfl).lt;clear h A s hb hK hN hs h12 hp hok hs1 hBl hn0;go_enter Tryz.func26,Tryz.ntmps26;go_wp2_with fail
 (with_reducible refine(m.out _ _ C.out).mono ?_)
 rintro e G ⟨pa,pc,tl,rfl,j,g⟩;have b:=bG g;have L:=bG j;clear g j C m d2;generalize W.heap.size=gs at *
 have D:¬ gw=gs+1:=by omega
 have E:¬ gs+1=gw:=by omega
 have M:=(bX (i:=2) b.out rfl).cell 0;have O:=(bX (i:=2) b.out rfl).cell 1;have P:=(bX (i:=2) b.out rfl).cell 2;have Q:=(bX (i:=2) b.out rfl).cell 3;have S:=(bX (i:=2) b.out rfl).frozen 0;have f1:=(bX (i:=2) b.out rfl).frozen 1;have f2:=(bX (i:=2) b.out rfl).frozen 2;have f3:=(bX (i:=2) b.out rfl).frozen 3;dsimp only[List.getElem?_cons_zero,List.getElem?_cons_succ] at M O P Q;clear t;go_wp2_with fail
 have u:=(((((bX (i:=2) b.out rfl).set_ 0 (.int .i64 0)).set_ 1 (.int .i64 0)).set_ 2 (.slice pa tl.length pc)).set_ 3 (.slice none 0 0))
 have o:=(((((bR.refl [gs+1] G).setCell ⟨gs+1,0,none⟩ (.int .i64 0) (.inl (by simp))).setCell ⟨gs+1,1,none⟩ (.int .i64 0) (.inl (by simp))).setCell ⟨gs+1,2,none⟩ (.slice pa tl.length pc) (.inl (by simp))).setCell ⟨gs+1,3,none⟩ (.slice none 0 0) (.inl (by simp)))
 generalize ((((G.setCell ⟨gs+1,0,none⟩ (.int .i64 0)).setCell ⟨gs+1,1,none⟩ (.int .i64 0)).setCell ⟨gs+1,2,none⟩ (.slice pa tl.length pc)).setCell ⟨gs+1,3,none⟩ (.slice none 0 0))=w6 at *
 have T:=bG (xI (i:=2) b.out rfl (by exact bH (bH (Nat.succ_pos _))) o);clear o b;obtain⟨I,X,Y⟩:=vO a4a;refine bodyPost_ret (results_cell_row rfl _ _ (gs+1) 41 #[.int .i64 0,.int .i64 0,.slice pa tl.length pc,.slice none 0 0] (0,0) I rfl u X (by cases I<;>first|rfl|cases Y) xJ) rfl ?_;exact⟨pa,pc,tl,rfl,L.out,kR (kR T.out)⟩
theorem c2w {ms:List Nat} {s1:List Bool×Nat} (hs:ms.Pairwise (· < ·)) (h12:ms.length≤12) (hp:pat.length≤8) (hok:a9s (nP ms pat (lU 0 pat),0) ms=true) (hs1:ms.foldl stS (nP ms pat (lU 0 pat),0)=s1) (hb:w0.heap.size≤w.heap.size) (hBl:1≤B.length∧B.length≤110) (hn0:n0≤870) (hK:K+8+111*9≤3800+111*pat.length) (hN:N+938*8+23938*9≤238000+23938*pat.length) (h:Lf (cE w0 V (FM nm B ms) n0 N K B pat::cM _ gw 67 [V.y,V.d,V.f]::l) w F W) :
  Calls Tryz.prog 8 #[.pointer (some ⟨gw,0,none⟩),.agg #[.int .i64 6,.int .i64 0,.string ⟨#[]⟩,.string ⟨#[]⟩,.slice none 0 0,.slice none 0 0,.string ⟨#[]⟩]] W fun e w'=>∃ (pa:Option Addr) (pc:Nat) (tl:List (Int×Int)),e = .returned (.agg #[.int .i64 0,.int .i64 0,.slice pa tl.length pc,.slice none 0 0])∧tl.length=s1.2∧Lf (cE w0 V (FM nm B ms) (n0+2*ms.length) (N+938*8+23938*(s1.1.length-pat.length)) (K+8+111*(s1.1.length-pat.length)) B s1.1::cG _ 2 qT 182 (.slice pa tl.length pc) tl::cM _ gw 67 [V.y,V.d,V.f]::l) w F w':=by
 have Y:=bG hb;have u:Lf (cE w0 V (FM nm B ms) n0 N K B pat::cM _ W.heap.size 35 [.int .i64 6,.int .i64 0,.string ⟨#[]⟩,.string ⟨#[]⟩,.slice none 0 0,.slice none 0 0,.string ⟨#[]⟩]::cM _ gw 67 [V.y,V.d,V.f]::l) w F (W.alloc (.cells #[.int .i64 6,.int .i64 0,.string ⟨#[]⟩,.string ⟨#[]⟩,.slice none 0 0,.slice none 0 0,.string ⟨#[]⟩] 35)):=eJ 35 [.int .i64 6,.int .i64 0,.string ⟨#[]⟩,.string ⟨#[]⟩,.slice none 0 0,.slice none 0 0,.string ⟨#[]⟩] hb h;have o:=eJ 41 [.int .i64 0,.int .i64 0,.slice none 0 0,.slice none 0 0] hb u;rw[show (W.alloc (.cells #[.int .i64 6,.int .i64 0,.string ⟨#[]⟩,.string ⟨#[]⟩,.slice none 0 0,.slice none 0 0,.string ⟨#[]⟩] 35)).heap.size=W.heap.size+1 by simp] at o;have v:Hid (Lf (cE w0 V (FM nm B ms) n0 N K B pat::cM _ (W.heap.size+1) 41 [.int .i64 0,.int .i64 0,.slice none 0 0,.slice none 0 0]::cM _ W.heap.size 35 [.int .i64 6,.int .i64 0,.string ⟨#[]⟩,.string ⟨#[]⟩,.slice none 0 0,.slice none 0 0,.string ⟨#[]⟩]::cM _ gw 67 [V.y,V.d,V.f]::l) w F ((W.alloc (.cells #[.int .i64 6,.int .i64 0,.string ⟨#[]⟩,.string ⟨#[]⟩,.slice none 0 0,.slice none 0 0,.string ⟨#[]⟩] 35)).alloc (.cells #[.int .i64 0,.int .i64 0,.slice none 0 0,.slice none 0 0] 41))):=o;have g:=bG (dR v.out fun f U=>a9t (by omega) U);have j:Hid (∀ s t,Lf (cE w0 V (FM nm B ms) n0 N K B pat::cM _ gw 67 [V.y,V.d,V.f]::t) w F s→Calls Tryz.prog 26 #[.pointer (some ⟨gw,0,none⟩),.agg #[.int .i64 6,.int .i64 0,.string ⟨#[]⟩,.string ⟨#[]⟩,.slice none 0 0,.slice none 0 0,.string ⟨#[]⟩]] s fun e w'=>∃ (pa:Option Addr) (pc:Nat) (tl:List (Int×Int)),e = .returned (.agg #[.int .i64 0,.int .i64 0,.slice pa tl.length pc,.slice none 0 0])∧tl.length=s1.2∧Lf (cE w0 V (FM nm B ms) (n0+2*ms.length) (N+938*8+23938*(s1.1.length-pat.length)) (K+8+111*(s1.1.length-pat.length)) B s1.1::cG _ 2 qT 182 (.slice pa tl.length pc) tl::cM _ gw 67 [V.y,V.d,V.f]::t) w F w'):=fun s t X=>b9j hs h12 hp hok hs1 hb hBl hn0 hK hN X
 have x:=(bX (i:=3) o rfl).cell 1;dsimp only[List.getElem?_cons_zero,List.getElem?_cons_succ] at x;have p:gw < W.heap.size:=(bX (i:=1) h rfl).lt;clear h u o hb hK hN hs h12 hp hok hs1 hBl hn0;go_enter Tryz.func8,Tryz.ntmps8;go_wp2_with fail
 (with_reducible refine g.out.mono ?_)
 rintro e c ⟨_,⟨rfl,rfl⟩,D⟩;have b:Hid (Lf (cE w0 V (FM nm B ms) n0 N K B pat::cM _ (W.heap.size+1) 41 [.int .i64 0,.int .i64 0,.slice none 0 0,.slice none 0 0]::cM _ W.heap.size 35 [.int .i64 6,.int .i64 0,.string ⟨#[]⟩,.string ⟨#[]⟩,.slice none 0 0,.slice none 0 0,.string ⟨#[]⟩]::cM _ gw 67 [V.y,V.d,V.f]::l) w F c):=D;clear D v g x;have s0:c.cell? ⟨W.heap.size,0,none⟩=some (.int .i64 6):=(bX (i:=2) b.out rfl).cell 0;have s1:c.cell? ⟨W.heap.size,1,none⟩=some (.int .i64 0):=(bX (i:=2) b.out rfl).cell 1;have Z:c.cell? ⟨W.heap.size,2,none⟩=some (.string ⟨#[]⟩):=(bX (i:=2) b.out rfl).cell 2;have s3:c.cell? ⟨W.heap.size,3,none⟩=some (.string ⟨#[]⟩):=(bX (i:=2) b.out rfl).cell 3;have s4:c.cell? ⟨W.heap.size,4,none⟩=some (.slice none 0 0):=(bX (i:=2) b.out rfl).cell 4;have s5:c.cell? ⟨W.heap.size,5,none⟩=some (.slice none 0 0):=(bX (i:=2) b.out rfl).cell 5;have s6:c.cell? ⟨W.heap.size,6,none⟩=some (.string ⟨#[]⟩):=(bX (i:=2) b.out rfl).cell 6;generalize W.heap.size=gs at *
 have z:¬ gw=gs+1:=by omega
 have A:¬ gs+1=gw:=by omega
 clear p;have C:Hid (Lf (cE w0 V (FM nm B ms) n0 N K B pat::cM _ gw 67 [V.y,V.d,V.f]::cM _ (gs+1) 41 [.int .i64 0,.int .i64 0,.slice none 0 0,.slice none 0 0]::cM _ gs 35 [.int .i64 6,.int .i64 0,.string ⟨#[]⟩,.string ⟨#[]⟩,.slice none 0 0,.slice none 0 0,.string ⟨#[]⟩]::l) w F c):=e4n b.out;go_wp2_with fail
 (with_reducible refine(j.out _ _ C.out).mono ?_)
 rintro e E ⟨pa,pc,tl,rfl,G,I⟩;have a:=bG I;have L:=bG G;clear I G b C j;have M:=(bX (i:=3) a.out rfl).cell 0;have O:=(bX (i:=3) a.out rfl).cell 1;have P:=(bX (i:=3) a.out rfl).cell 2;have Q:=(bX (i:=3) a.out rfl).cell 3;have f0:=(bX (i:=3) a.out rfl).frozen 0;have f1:=(bX (i:=3) a.out rfl).frozen 1;have f2:=(bX (i:=3) a.out rfl).frozen 2;have f3:=(bX (i:=3) a.out rfl).frozen 3;dsimp only[List.getElem?_cons_zero,List.getElem?_cons_succ] at M O P Q;go_wp2_with fail
 have r:=(((((bX (i:=3) a.out rfl).set_ 0 (.int .i64 0)).set_ 1 (.int .i64 0)).set_ 2 (.slice pa tl.length pc)).set_ 3 (.slice none 0 0))
 have m:=(((((bR.refl [gs+1] E).setCell ⟨gs+1,0,none⟩ (.int .i64 0) (.inl (by simp))).setCell ⟨gs+1,1,none⟩ (.int .i64 0) (.inl (by simp))).setCell ⟨gs+1,2,none⟩ (.slice pa tl.length pc) (.inl (by simp))).setCell ⟨gs+1,3,none⟩ (.slice none 0 0) (.inl (by simp)))
 generalize ((((E.setCell ⟨gs+1,0,none⟩ (.int .i64 0)).setCell ⟨gs+1,1,none⟩ (.int .i64 0)).setCell ⟨gs+1,2,none⟩ (.slice pa tl.length pc)).setCell ⟨gs+1,3,none⟩ (.slice none 0 0))=w6 at *
 have R:=bG (xI (i:=3) a.out rfl (by exact bH (bH (bH (Nat.succ_pos _)))) m);clear m a;obtain⟨J,S,T⟩:=vO a4a;refine bodyPost_ret (results_cell_row rfl _ _ (gs+1) 41 #[.int .i64 0,.int .i64 0,.slice pa tl.length pc,.slice none 0 0] (0,0) J rfl r S (by cases J<;>first|rfl|cases T) xJ) rfl ?_;exact⟨pa,pc,tl,rfl,L.out,b4z (b4z R.out)⟩
end
structure Stp where
 k:Int
 n:Int
 nm:ByteArray
 tn:ByteArray
 da:Option Addr
 dn:Nat
 dc:Nat
 ra:Option Addr
 rn:Nat
 rc:Nat
 s:ByteArray
instance:Inhabited Stp:=⟨⟨0,0,⟨#[]⟩,⟨#[]⟩,none,0,0,none,0,0,⟨#[]⟩⟩⟩
abbrev spC (x:Stp):List Value:=[.int .i64 x.k,.int .i64 x.n,.string x.nm,.string x.tn,.slice x.da x.dn x.dc,.slice x.ra x.rn x.rc,.string x.s]
theorem c2x:∀ x,(spC x).length=7:=fun _=>rfl
abbrev OT:=Option Addr×Nat×Nat
abbrev ouC (p:OT):List Value:=[.int .i64 0,.int .i64 0,.slice p.1 p.2.1 p.2.2,.slice none 0 0]
theorem c2y:∀ x,(ouC x).length=4:=fun _=>rfl
theorem d8w:∀ p,∀ u∈ouC p,u.oneCell'=true:=fun p u a=>by
 simp only[aG,bF,or_false] at a;rcases a with rfl|rfl|rfl|rfl<;>rfl
theorem d8x:(Tryz.prog.info? 41).map (fun i=>(i.zero,i.size,i.bytes))=some (some (.agg #[.int .i64 0,.int .i64 0,.slice none 0 0,.slice none 0 0]),4,64):=by kernel_rfl
theorem f0f:Tryz.prog.underlying 26=some (.slice 41):=by kernel_rfl
theorem d8y (W:World) (p:OT) (t:TypeId):qW 4 ouC (W.alloc (.cells #[.int .i64 0,.int .i64 0,.slice p.1 p.2.1 p.2.2,.slice none 0 0] t)) (.slice (some ⟨W.heap.size,0,none⟩) 1 1) [p]:=by
 have b:=cU.new W t (ouC p);refine⟨_,1,rfl,by simp,by simp[maxLen],fun _=>⟨W.heap.size,0,rfl,fun j a i c=>?_⟩⟩;simp at a;subst a;have:=b.cell i;rw[cP,show 0+(0*4+i)=i by omega];exact this
section
variable {w0 w W : World} {F : Nat → Prop} {l l1 : List (cR w0.heap.size)}
theorem e4o (h:Lf (l1++l) w F W):Lf l w F W:=by
 obtain⟨j,a,b,c⟩:=h;obtain⟨o,d,p,f,r,g⟩:=Eng.cW.split (l:=l1) (m:=l) a;exact⟨d,f,b,fun x i=>c x ((g x).2 (.inr i))⟩
theorem kS {A B D:cR w0.heap.size} (h:Lf (A::B::D::l) w F W):Lf (A::D::B::l) w F W:=by
 obtain⟨o,r,s,t⟩:=h;obtain⟨O,b,u,c,v,y⟩:=Eng.cW.split (l:=[A]) (m:=B::D::l) r;have j:Lf (B::D::l) W b W:=tM c;obtain⟨z,C,E,G⟩:=a9p j;have N:Lf (w0:=w0) (D::B::l) W b W:=⟨z,C,E,G⟩
 obtain⟨d,P,I,J,f,g⟩:=Eng.cW.split (l:=[B]) (m:=D::l) c;obtain⟨K,i,L,d2,M,a⟩:=Eng.cW.split (l:=[D]) (m:=l) J;refine⟨o,Eng.cW.join (l:=[A]) (m:=D::B::l) (F2:=fun x=>K x∨(d x∨i x)) u (Eng.cW.join (l:=[D]) (m:=B::l) (F2:=fun x=>d x∨i x) L (Eng.cW.join (l:=[B]) (m:=l) I d2 (fun x p q=>f x p ((a x).2 (.inr q))) fun x=>Iff.rfl) (fun x p q=>?_) fun x=>Iff.rfl) (fun x p q=>?_) (fun x=>?_),s,t⟩
 ·rcases q with q|q
  ·exact f x q ((a x).2 (.inl p))
  ·exact M x p q
 ·refine v x p ((g x).2 ?_);rcases q with q|q|q
  ·exact .inr ((a x).2 (.inl q))
  ·exact .inl q
  ·exact .inr ((a x).2 (.inr q))
 ·rw[y,g,a];constructor
  ·rintro(p|p|p|p)
   ·exact .inl p
   ·exact .inr (.inr (.inl p))
   ·exact .inr (.inl p)
   ·exact .inr (.inr (.inr p))
  ·rintro(p|p|p|p)
   ·exact .inl p
   ·exact .inr (.inr (.inl p))
   ·exact .inr (.inl p)
   ·exact .inr (.inr (.inr p))
theorem a4b {α:Type} [Inhabited α] {sz:Nat} {c:α→List Value} {e:TypeId} {v:Value} {xs:List α} {i:Nat} (hsz:∀ x,(c x).length=sz) (h:Lf l w F W) (hi:Eng.bT l i=some (cG _ sz c e v xs)):cF sz c w0.heap.size e W v xs:=by
 obtain⟨f,a,b⟩:=sG h hi;exact a
end
section
variable {w0 w W : World} {F : Nat → Prop} {G : cR w0.heap.size} {l : List (cR w0.heap.size)} {gw : Nat} {sa : Option Addr} {cs : Nat} {steps : List Stp}
theorem c2z (A:Nat→cR w0.heap.size) (hb:w0.heap.size≤w.heap.size) (hst:steps.length≤9) (h:Lf (A 0::G::cG _ 7 spC 35 (.slice sa steps.length cs) steps::l) w F W)
  (hdo:∀ k,k < steps.length→∀ own W',Lf (A k::G::(own++(cG _ 7 spC 35 (.slice sa steps.length cs) steps::l))) w F W'→Calls Tryz.prog 8 #[.pointer (some ⟨gw,0,none⟩),.agg (spC (bT steps k)).toArray] W' fun e w'=>∃ o:OT,e = .returned (.agg (ouC o).toArray)∧Lf (A (k+1)::G::(own++(cG _ 7 spC 35 (.slice sa steps.length cs) steps::l))) w F w') :
  Calls Tryz.prog 6 #[.pointer (some ⟨gw,0,none⟩),.slice sa steps.length cs] W fun e w'=>∃ v,e = .returned v∧Lf (A steps.length::G::cG _ 7 spC 35 (.slice sa steps.length cs) steps::l) w F w':=by
 have Y:=bG hb;have Z:=bG hst;have L:=bG hdo;have a1:(steps.length:Int)≤9:=by omega
 have H0:Hid (Lf (A 0::G::([cG _ 4 ouC 41 (.slice none 0 0) ([]:List OT)]++(cG _ 7 spC 35 (.slice sa steps.length cs) steps::l))) w F W):=kS (oV h (bR.refl [] W) (A':=cG _ 4 ouC 41 (.slice none 0 0) []) (f:=fun x=>False) ⟨cF.nil _ _ _,fun x=>by simp[blk]⟩ (fun x q=>q.elim));clear hb hst hdo h;go_enter Tryz.func6,Tryz.ntmps6;go_wp2_with fail
 go_loopw [5,10] (fun v3 i wr=>∃ (k:Nat) (os:List OT),k≤steps.length∧i = .int .i64 k∧os.length=k∧Hid (Lf (A k::G::([cG _ 4 ouC 41 v3 os]++(cG _ 7 spC 35 (.slice sa steps.length cs) steps::l))) w F wr)) (fun _ i _=>steps.length-(intOf i).toNat)
 case atStart=>exact⟨0,[],aS _,rfl,rfl,H0⟩
 case round =>
  clear H0;obtain⟨k,os,hk,rfl,Q,X⟩:=hrel;by_cases b:k < steps.length
  ·have q0:(0:Int)≤k:=by omega
   have q1:(k:Int) < steps.length:=by omega
   obtain⟨a',c',he,-,-,R⟩:=(a4b (i:=3) c2x X.out rfl).rd c2x;injection he with e1 e2 e3;subst e1;clear e2 e3;obtain⟨z,a,rfl,d⟩:=R (by intro h;simp[h] at b);have HD:=bG (L.out k b);have d0:wr.cell? ⟨z,a+k*7,none⟩=some (.int .i64 (bT steps k).k):=d k b 0 (by omega);have d1:wr.cell? ⟨z,a+k*7+1,none⟩=some (.int .i64 (bT steps k).n):=d k b 1 (by omega);have d2:wr.cell? ⟨z,a+k*7+2,none⟩=some (.string (bT steps k).nm):=d k b 2 (by omega);have d3:wr.cell? ⟨z,a+k*7+3,none⟩=some (.string (bT steps k).tn):=d k b 3 (by omega);have d4:wr.cell? ⟨z,a+k*7+4,none⟩=some (.slice (bT steps k).da (bT steps k).dn (bT steps k).dc):=d k b 4 (by omega);have d5:wr.cell? ⟨z,a+k*7+5,none⟩=some (.slice (bT steps k).ra (bT steps k).rn (bT steps k).rc):=d k b 5 (by omega);have d6:wr.cell? ⟨z,a+k*7+6,none⟩=some (.string (bT steps k).s):=d k b 6 (by omega);have D:=bG Q;have M:Hid (k < 9):=by have:=Z.out;unfold Hid;omega
   clear d R Q L;generalize bT steps k=x at *
   obtain⟨E,I,g,j,m,p,r,t,u,y,J⟩:=x;dsimp only at d0 d1 d2 d3 d4 d5 d6;have H5:Hid (Lf (A k::G::([cM _ wr.heap.size 35 (spC ⟨E,I,g,j,m,p,r,t,u,y,J⟩),cG _ 4 ouC 41 u5 os]++(cG _ 7 spC 35 (.slice (some ⟨z,a,none⟩) steps.length cs) steps::l))) w F (wr.alloc (.cells #[.int .i64 E,.int .i64 I,.string g,.string j,.slice m p r,.slice t u y,.string J] 35))):=kS (eJ 35 (spC ⟨E,I,g,j,m,p,r,t,u,y,J⟩) Y.out X.out);have N:Hid ((os.length+1)*64≤140737488355328):=by have h1:=D.out;have h2:=M.out;unfold Hid;omega
   have O:Hid (os.length+1≤maxLen):=by have h1:=D.out;have h2:=M.out;unfold Hid maxLen;omega
   clear X;go_wp2_with fail
   (with_reducible refine(HD.out _ _ H5.out).mono ?_)
   rintro e K ⟨⟨B,on,C⟩,rfl,h6⟩;have H6:Hid (Lf (A (k+1)::G::([cM _ wr.heap.size 35 (spC ⟨E,I,g,j,m,p,r,t,u,y,J⟩),cG _ 4 ouC 41 u5 os]++(cG _ 7 spC 35 (.slice (some ⟨z,a,none⟩) steps.length cs) steps::l))) w F K):=h6;clear h6 H5 HD d0 d1 d2 d3 d4 d5 d6
   go_wp2_with (first
    | (at_builtin;go_must ((have V:Hid (Lf (A (k+1)::G::([cM _ K.heap.size 41 (ouC (B,on,C)),cM _ wr.heap.size 35 (spC ⟨E,I,g,j,m,p,r,t,u,y,J⟩),cG _ 4 ouC 41 u5 os]++(cG _ 7 spC 35 (.slice (some ⟨z,a,none⟩) steps.length cs) steps::l))) w F (K.alloc (.cells #[.int .i64 0,.int .i64 0,.slice B on C,.slice none 0 0] 41))):=kS (eJ 41 (ouC (B,on,C)) Y.out H6.out));refine cQ rfl _ _ rfl u5 (.slice (some ⟨K.heap.size,0,none⟩) 1 1) rfl rfl (fR (c:=ouC) (sz:=4) c2y (by decide) d8w f0f d8x rfl _ _ os [(B,on,C)] (a4b (i:=4) c2y V.out rfl) (d8y K (B,on,C) _) N.out O.out (aL Y.out (eO V.out))) ?_;rintro v5 w8 ⟨S,T,U⟩;have H9:=bG (a9n (i:=4) V.out rfl (by exact bH (bH (bH (bH (Nat.succ_pos _))))) S T U);clear S T U V))
    | fail)
   have P:Lf (A (k+1)::G::cM _ K.heap.size 41 (ouC (B,on,C))::cM _ wr.heap.size 35 (spC ⟨E,I,g,j,m,p,r,t,u,y,J⟩)::([cG _ 4 ouC 41 v5 (os++[(B,on,C)])]++(cG _ 7 spC 35 (.slice (some ⟨z,a,none⟩) steps.length cs) steps::l))) w F w8:=H9.out;have a0:=bG (kR (kR P));clear P H9;go_roundw
   case rel=>exact⟨k+1,os++[(B,on,C)],by omega,by go_num,by rw[aE,D.out];rfl,a0⟩
   case measure=>simp[intOf];omega
  ·obtain rfl:k=steps.length:=by omega
   go_wp2_with fail
   go_ret;exact⟨_,rfl,kR X.out⟩
end
end Go.Proofs.YthgnlfikneipiaaGreat
namespace Go.Proofs.YthgnlfikneipiaaGreat
open Go.RowKit
def dE:DS:=⟨[],[],[]⟩
theorem d4k (w:World) (a:Option Addr) (cap:Nat) (hc:cap≤maxLen) :
  Calls Tryz.prog 87 #[.slice a 0 cap,.int .i64 0] w fun e w'=>e = .returned (.tuple #[.slice none 0 0,.int .i64 0,.int .i64 3])∧w'=w:=by
 have b:(0:Int)≤cap:=by omega
 have hcut:=a0w (P:=Tryz.prog) Tryz.underlying33 c9m a 0 cap 0 (aF _);simp only[Nat.mul_one,Nat.sub_zero,Nat.sub_self] at hcut;generalize (if cap=0 then a else a.map (·.add 0))=ak at *
 go_enter Tryz.func87,Tryz.ntmps87;go_wp2_with fail
 go_ret3
 exact⟨rfl,rfl⟩
section
variable {w0 w : World} {gd : Nat} {G : List Nat}
theorem a9u (h:DD w0 w gd G dE) :
  Calls Tryz.prog 49 #[.pointer (some ⟨gd,0,none⟩)] w fun e w'=>∃ gl,e = .returned (.tuple #[.pointer (some ⟨gl,0,none⟩),.int .i64 0])∧b3t w0 w gd gl G [] dE w':=by
 have p:∀ x∈G,x < w.heap.size:=fun x B=>(h.ge x B).2
 have v:=bG p;have j:=bG h;have b:=bG (LC.new w gd);have l:=@run_makeMap Tryz.prog;clear h p;go_enter Tryz.func49,Tryz.ntmps49;go_wp2_with fail
 have d:=b;generalize (w.alloc (.map #[] 0)).alloc (.cells #[.pointer (some ⟨gd,0,none⟩),.slice none 0 0,.map (some w.heap.size)] 216)=w2 at *
 (with_reducible refine(qH nmL (j.out.upd0 b.out.old) (by decide)).mono ?_)
 rintro e z ⟨D,rfl,c,g⟩;have y:(dI dE.now nmL).1=[]:=rfl;have m:(dI dE.now nmL).2=false:=rfl;rw[y] at c;have f:=bG (b.out.upd0 g);obtain⟨A,t,rfl,u,a,-⟩:=c.rd;have s:t≤9223372036854775807:=by unfold maxLen at a;omega
 have o:=bG a;generalize w.heap.size+1=gl at *
 clear c g a b d l
 try rw[m]
 go_wp2_with fail
 go_loopw [7] (fun i wr=>i = .int .i64 0∧wr=z) (fun i wr=>0)
 case atStart=>exact⟨rfl,rfl⟩
 case round =>
  obtain⟨rfl,rfl⟩:=hrel;go_wp2_with fail
  (with_reducible refine(d4k _ A t o.out).mono ?_)
  rintro e E ⟨rfl,rfl⟩;go_wp2_with fail
  go_ret2
  exact⟨gl,rfl,b8p j.out f.out (fun r C=>by cases C) ((j.out.upd0 f.out.old).out0 (bR.refl [] _)) v.out⟩
theorem b9k (h:DD w0 w gd G dE) :
  Calls Tryz.prog 50 #[.pointer (some ⟨gd,0,none⟩)] w fun e w'=>∃ gj,e = .returned (.tuple #[.pointer (some ⟨gj,0,none⟩),.int .i64 0])∧yQ w0 w gd gj G [] dE w':=by
 have Q:Hid (∀ x∈G,x < w.heap.size):=fun x a=>(h.ge x a).2
 have F:=bG h;clear h;go_enter Tryz.func50,Tryz.ntmps50;go_wp2_with fail
 (with_reducible refine(qH xL F.out (by decide)).mono ?_)
 rw[show (dI dE.now xL).2=false from rfl];rintro e J ⟨S,rfl,-,j⟩;have v:=bG (F.out.upd0 j);have r:Hid (bR G w J):=j.mono (by simp);have y:Hid (∀ x∈G,x∈G∨w.heap.size≤x):=fun x a => .inl a
 clear j;go_wp2_with fail
 (with_reducible refine(d1k w0 J v.out.old).mono ?_)
 rintro e b ⟨p,D,rfl,l,c,m⟩;have f:bR [] b (b.alloc (.cells #[.pointer (some ⟨gd,0,none⟩),.pointer (some ⟨p,0,none⟩)] 226)):=(bR.refl [] b).alloc _;have g:Hid (JD w0 (b.alloc (.cells #[.pointer (some ⟨gd,0,none⟩),.pointer (some ⟨p,0,none⟩)] 226)) gd b.heap.size (b.heap.size::D) G [] dE):=by
  have N:=(v.out.ge)
  have z:=c.size;refine⟨⟨p,D,⟨cU.new b _ [.pointer (some ⟨gd,0,none⟩),.pointer (some ⟨p,0,none⟩)],l.upd0 f,aL v.out.old.size z,fun a=>by have:=(l.ge _ a).2;omega,JT.nil⟩,rfl⟩,v.out.upd0 (c.seq f),fun x a E=>?_⟩;have O:=(N x E).2;rcases aG.1 a with q|q
  ·omega
  ·have:=m x q;omega
 have s:Hid (bR G w (b.alloc (.cells #[.pointer (some ⟨gd,0,none⟩),.pointer (some ⟨p,0,none⟩)] 226))):=r.out.trans (c.seq f) (fun x a=>a) (by simp);have A:Hid (∀ x∈b.heap.size::D,w.heap.size≤x):=fun x a=>by
  have O:=r.out.size;have R:=c.size;rcases aG.1 a with q|q
  ·omega
  ·have:=m x q;omega
 clear l c m f;go_wp2_with fail
 generalize b.alloc (.cells #[.pointer (some ⟨gd,0,none⟩),.pointer (some ⟨p,0,none⟩)] 226)=w4 at *
 generalize b.heap.size=gj at *
 (with_reducible refine(qH kP g.out.dd (by decide)).mono ?_)
 rw[show (dI dE.now kP).2=false from rfl,show (dI dE.now kP).1=[] from rfl];rintro e K ⟨T,rfl,u,o⟩;have t:=bG (g.out.upd0 o);have B:Hid (bR G w K):=s.out.trans o (fun x a=>a) (by simp);obtain⟨P,L,rfl,M,d,-⟩:=u.rd;have C:=bG d;have I:L≤9223372036854775807:=by unfold maxLen at d;omega
 clear u o d g s;go_wp2_with fail
 go_loopw [9] (fun i wr=>i = .int .i64 0∧wr=K) (fun i wr=>0)
 case atStart=>exact⟨rfl,rfl⟩
 case round =>
  obtain⟨rfl,rfl⟩:=hrel;go_wp2_with fail
  (with_reducible refine(d4k _ P L C.out).mono ?_)
  rintro e U ⟨rfl,rfl⟩;go_wp2_with fail
  go_ret2
  exact⟨gj,rfl,b8n t.out B.out A.out y.out (t.out.dd.out0 (bR.refl [] _))⟩
end
open Go.Eng (cR cJ TS dN cW cY bQ)
def c6r (w0:World):cR w0.heap.size where
 P w F:=bR [] w0 w∧∀ x,¬ F x
 up:=by
  rintro w w' F S ⟨h1,h4⟩ hu hs hb;refine⟨⟨hu.os.trans h1.os,hu.tape.trans h1.tape,hu.output.trans h1.output,aL h1.size hu.size,fun k hk hn=>?_⟩,h4⟩;rw[hu.block k (aX hk h1.size) (fun q=>by have:=hb k q;omega)];exact h1.block k hk hn
 lt:=by
  rintro w F ⟨h1,h4⟩ x hx;exact absurd hx (h4 x)
def DkQ (w0:World) (v:Value) (w:World) (G:List Nat):Prop:=∃ gd,v = .pointer (some ⟨gd,0,none⟩)∧DD w0 w gd G dE
def DkA (w0:World) (v:Value):cR w0.heap.size:=lA w0 (DkQ w0 v)
 (by rintro w w' G L ⟨gy,h1,h2⟩ hu hs hb;exact⟨gy,h1,h2.upd hu hs hb⟩)
 (by rintro w G ⟨gy,h1,h2⟩ x hx;exact h2.ge x hx)
def LeQ (w0:World) (vd vl:Value) (w:World) (G:List Nat):Prop :=
 ∃ gd gl F D,vd = .pointer (some ⟨gd,0,none⟩)∧vl = .pointer (some ⟨gl,0,none⟩)∧LD w0 w gd gl F D [] dE∧G=F++D
def LeA (w0:World) (vd vl:Value):cR w0.heap.size:=lA w0 (LeQ w0 vd vl)
 (by
  rintro w w' G L ⟨gd,gl,F,D,h1,h2,h4,rfl⟩ hu hs hb;exact⟨gd,gl,F,D,h1,h2,h4.upd hu (fun x hx=>hs x (by simp[hx])) (fun x hx=>hs x (by simp[hx])) hb,rfl⟩)
 (by
  rintro w G ⟨gd,gl,F,D,h1,h2,h4,rfl⟩ x hx;rcases aI.1 hx with q|q
  ·exact h4.geF x q
  ·exact h4.dd.ge x q)
def S0Q (w0:World) (vd vl vj:Value) (w:World) (G:List Nat):Prop :=
 ∃ gd gl gj F D K,vd = .pointer (some ⟨gd,0,none⟩)∧vl = .pointer (some ⟨gl,0,none⟩)∧vj = .pointer (some ⟨gj,0,none⟩)∧LD w0 w gd gl F D [] dE∧JD w0 w gd gj K D [] dE∧Ap F K∧G=F++D++K
def S0A (w0:World) (vd vl vj:Value):cR w0.heap.size:=lA w0 (S0Q w0 vd vl vj)
 (by
  rintro w w' G L ⟨gd,gl,gj,F,D,K,h1,h2,h3,h4,h5,h6,rfl⟩ hu hs hb;have hF:∀ x∈F,x∉L:=fun x hx=>hs x (by simp[hx])
  have hD:∀ x∈D,x∉L:=fun x hx=>hs x (by simp[hx])
  have hK:∀ x∈K,x∉L:=fun x hx=>hs x (by simp[hx])
  exact⟨gd,gl,gj,F,D,K,h1,h2,h3,h4.upd hu hF hD hb,h5.upd hu hK hD hb,h6,rfl⟩)
 (by
  rintro w G ⟨gd,gl,gj,F,D,K,h1,h2,h3,h4,h5,h6,rfl⟩ x hx;rcases aI.1 hx with q|q
  ·rcases aI.1 q with q|q
   ·exact h4.geF x q
   ·exact h4.dd.ge x q
  ·exact h5.geF x q)
theorem f0g:zU dE:=⟨fun i j a b=>absurd b (Nat.not_lt_zero _),fun i j a b=>absurd b (Nat.not_lt_zero _),rfl,trivial,by decide,by decide⟩
theorem f0h {w0 w:World} {vd vl vj:Value} {F:Nat→Prop} (h:(S0A w0 vd vl vj).P w F):(StA w0 vd vl vj [] 0 0).P w F:=by
 obtain⟨G,⟨a,b,c,F,D,K,d,f,g,i,j,l,rfl⟩,m⟩:=h;exact⟨_,⟨a,b,c,F,D,K,dE,[],d,f,g,i,j,l,⟨f0g,by decide,by decide,by decide⟩,rfl⟩,m⟩
def uP (w0:World):Nat→List Value→List (cR w0.heap.size)
 | 0,gs=>[Eng.dQ (gs.length=0),Eng.dZ,Eng.dZ,c6r w0]
 | 1,gs=>[Eng.dQ (gs.length=1),kY w0 (gv gs 0) [] 0,Eng.dZ,c6r w0]
 | 2,gs=>[Eng.dQ (gs.length=2),kY w0 (gv gs 0) [] 0,DkA w0 (gv gs 1),c6r w0]
 | 3,gs=>[Eng.dQ (gs.length=3),kY w0 (gv gs 0) [] 0,LeA w0 (gv gs 1) (gv gs 2),c6r w0]
 | _+4,gs=>[Eng.dQ (gs.length=4),kY w0 (gv gs 0) [] 0,S0A w0 (gv gs 1) (gv gs 2) (gv gs 3),c6r w0]
section
variable {w0 : World} {ν : Nat → Int}
theorem e4p:Eng.e6j.Ok Tryz.prog ν (uP w0):=by
 intro w g m o F a c r E;have c:dN (uP w0 0 g) w o:=c;have d:=(c.at_ 0 _ rfl).1;have j:=(c.at_ 3 _ rfl).1
 match m,a with
 | [],_ =>
  refine(d0q w0 w j).mono ?_;rintro e s ⟨b,rfl,⟨G,t,u⟩,v⟩;obtain⟨i,y,z,B⟩:=c.step1 r 1 (by simp[uP]) (A:=kY w0 (.pointer (some ⟨b,0,none⟩)) [] 0) (f:=fun x=>x∈G) ⟨G,⟨b,[],rfl,t,aF _,fun p C=>by cases C⟩,fun _=>Iff.rfl⟩ (jP (uL v) fun _ q=>q.elim) (fun x D => .inr (u x D));refine⟨_,[.pointer (some ⟨b,0,none⟩)],g++[.pointer (some ⟨b,0,none⟩)],i,rfl,⟨⟨b,rfl⟩,trivial⟩,dY d [_] 0,?_,?_,z,B⟩
  ·exact @qJ (Eng.cA _ ν (uP w0)) _ 1 (by rw[aE,d];rfl)
  ·show cW (uP w0 1 (g++[_])) s i;have l:gv (g++[.pointer (some ⟨b,0,none⟩)]) 0 = .pointer (some ⟨b,0,none⟩):=a9g d [_] 0 rfl;simp only[uP,l];exact tD y (by simp[d])
 | _::_,h=>exact h.elim
theorem e4q:Eng.e6k.Ok Tryz.prog ν (uP w0):=by
 intro w gs m o F b c p C;have c:dN (uP w0 1 gs) w o:=c;have d:=(c.at_ 0 _ rfl).1;have j:=(c.at_ 3 _ rfl).1
 match m,b with
 | [],_ =>
  refine(d2c w0 w j).mono ?_;rintro e r ⟨a,G,rfl,s,t,u⟩;obtain⟨g,v,y,z⟩:=c.step1 p 2 (by simp[uP]) (A:=DkA w0 (.pointer (some ⟨a,0,none⟩))) (f:=fun x=>x∈G) ⟨G,⟨a,rfl,s⟩,fun _=>Iff.rfl⟩ (jP (uL t) fun _ q=>q.elim) (fun x B => .inr (u x B));refine⟨_,[.pointer (some ⟨a,0,none⟩)],gs++[.pointer (some ⟨a,0,none⟩)],g,rfl,⟨⟨a,rfl⟩,trivial⟩,dY d [_] 0,?_,?_,y,z⟩
  ·exact @qJ (Eng.cA _ ν (uP w0)) _ 2 (by rw[aE,d];rfl)
  ·show cW (uP w0 2 (gs++[_])) r g;have e:=fun i (hi:i < 1)=>b8s (gs:=gs) [.pointer (some ⟨a,0,none⟩)] (i:=i) (by rw[d];exact hi)
   have l:gv (gs++[.pointer (some ⟨a,0,none⟩)]) 1 = .pointer (some ⟨a,0,none⟩):=a9g d [_] 0 rfl;simp only[uP,l,e 0 (by omega)];exact tD v (by simp[d])
 | _::_,h=>exact h.elim
theorem d8z:Eng.e1t.Ok Tryz.prog ν (uP w0):=by
 intro w gs r s F c d t L;have d:dN (uP w0 2 gs) w s:=d;have g:=(d.at_ 0 _ rfl).1;obtain⟨G,⟨u,hd,v⟩,j⟩:=d.at_ 2 _ rfl
 match r,c with
 | [u0],⟨a,_⟩ =>
  have a:=eD (show Eng.bT gs 1=some u0 from a);rw[hd] at a;subst a;refine(a9u v).mono ?_;rintro e y ⟨b,rfl,k⟩;obtain⟨l,m,z,B,C,D⟩:=k;obtain⟨o,E,I,J⟩:=d.step1 t 2 (by simp[uP]) (A:=LeA w0 (gv gs 1) (.pointer (some ⟨b,0,none⟩))) (f:=fun x=>x∈l++m) ⟨_,⟨u,b,l,m,hd,rfl,z,rfl⟩,fun _=>Iff.rfl⟩ (a4p B j) (fun x K=>by
   rcases aI.1 K with q|q
   ·exact(C x q).imp (j x).2 id
   ·exact(D x q).imp (j x).2 id)
  refine⟨_,[.pointer (some ⟨b,0,none⟩)],gs++[.pointer (some ⟨b,0,none⟩)],o,rfl,⟨⟨b,rfl⟩,trivial⟩,⟨[.pointer (some ⟨b,0,none⟩),.int .i64 0],rfl,dY g [_] 0,rfl,trivial⟩,?_,?_,I,J⟩
  ·exact @qJ (Eng.cA _ ν (uP w0)) _ 3 (by rw[aE,g];rfl)
  ·show cW (uP w0 3 (gs++[_])) y o;have e:=fun i (hi:i < 2)=>b8s (gs:=gs) [.pointer (some ⟨b,0,none⟩)] (i:=i) (by rw[g];exact hi)
   have p:gv (gs++[.pointer (some ⟨b,0,none⟩)]) 2 = .pointer (some ⟨b,0,none⟩):=a9g g [_] 0 rfl;simp only[uP,p,e 0 (by omega),e 1 (by omega)];exact tD E (by simp[g])
 | [],h=>exact h.elim
 | _::_::_,h=>exact h.2.elim
theorem d9a:Eng.e1u.Ok Tryz.prog ν (uP w0):=by
 intro w gs L M F j l N X;have l:dN (uP w0 3 gs) w M:=l;have g:=(l.at_ 0 _ rfl).1;obtain⟨G,⟨O,P,o,D,hd,Q,c,rfl⟩,p⟩:=l.at_ 2 _ rfl
 match L,j with
 | [u0],⟨a,_⟩ =>
  have a:=eD (show Eng.bT gs 1=some u0 from a);rw[hd] at a;subst a;refine(b9k c.dd).mono ?_;rintro e R ⟨d,rfl,k⟩;obtain⟨s,t,v,y,B,C⟩:=k;obtain⟨S,T,u,m⟩:=c.lc;have r:=u.upd y (by
   rw[← m];intro x b g;exact c.ap x b g) (fun x b=>(c.dd.ge x b).1)
  have I:Ap o t:=fun x b hd=>by
   rcases C x hd with q|q
   ·exact c.ap x b q
   ·have:=(c.geF x b).2;omega
  have J:Ap o s:=fun x b hd=>by
   rcases B x hd with q|q
   ·exact c.ap x b q
   ·have:=(c.geF x b).2;omega
  obtain⟨E,U,V,W⟩:=l.step1 N 2 (by simp[uP]) (A:=S0A w0 (gv gs 1) (gv gs 2) (.pointer (some ⟨d,0,none⟩))) (f:=fun x=>x∈o++t++s) ⟨_,⟨O,P,d,o,t,s,hd,Q,rfl,⟨⟨S,T,r,m⟩,v.dd,I,c.ok⟩,v,J,rfl⟩,fun _=>Iff.rfl⟩ (a4p (y.mono fun x b => .inl (by simp[b])) p) (fun x b=>by
   rcases aI.1 b with q|q
   ·rcases aI.1 q with q|q
    ·exact .inl ((p x).2 (by simp[q]))
    ·exact(C x q).imp (fun z=>(p x).2 (by simp[z])) id
   ·exact(B x q).imp (fun z=>(p x).2 (by simp[z])) id)
  refine⟨_,[.pointer (some ⟨d,0,none⟩)],gs++[.pointer (some ⟨d,0,none⟩)],E,rfl,⟨⟨d,rfl⟩,trivial⟩,⟨[.pointer (some ⟨d,0,none⟩),.int .i64 0],rfl,dY g [_] 0,rfl,trivial⟩,?_,?_,V,W⟩
  ·exact @qJ (Eng.cA _ ν (uP w0)) _ 4 (by rw[aE,g];rfl)
  ·show cW (uP w0 4 (gs++[_])) R E;have e:=fun i (hi:i < 3)=>b8s (gs:=gs) [.pointer (some ⟨d,0,none⟩)] (i:=i) (by rw[g];exact hi)
   have K:gv (gs++[.pointer (some ⟨d,0,none⟩)]) 3 = .pointer (some ⟨d,0,none⟩):=a9g g [_] 0 rfl;simp only[uP,K,e 0 (by omega),e 1 (by omega),e 2 (by omega)];exact tD U (by simp[g])
 | [],h=>exact h.elim
 | _::_::_,h=>exact h.2.elim
theorem e4r:Eng.e6l.Ok Tryz.prog ν (uP w0):=by
 intro w d i j F b c l x;have c:dN (uP w0 4 d) w j:=c;have g:=(c.at_ 0 _ rfl).1;obtain⟨G,⟨y,z,A,B,D,K,hd,C,o,E,p,I,rfl⟩,J⟩:=c.at_ 2 _ rfl
 match i,b with
 | [u0,u1],⟨a,⟨m,f,b2,b3⟩,_⟩ =>
  have f:u1 = .int .i64 m:=f;subst f;have a:=eD (show Eng.bT d 3=some u0 from a);rw[o] at a;subst a;refine(d2g m ⟨by omega,by omega⟩ p).mono ?_;rintro e L ⟨rfl,r⟩;obtain⟨s,t,u,v⟩:=c.step0 l (uL r);refine⟨_,[],d,s,rfl,trivial,?_,?_,t,u,v⟩
  ·show some (Value.string ⟨#[]⟩)=_;rfl
  ·rw[bA];exact @qJ (Eng.cA _ ν (uP w0)) d 4 g
 | [],h=>exact h.elim
 | [_],h=>exact h.2.elim
 | _::_::_::_,h=>exact h.2.2.elim
theorem e4s:∀ T∈Eng.c1j,T.Ok Tryz.prog ν (uP w0):=by
 intro T hT;simp only[Eng.c1j,aG,bF,or_false] at hT;rcases hT with rfl|rfl|rfl|rfl|rfl
 ·exact e4p
 ·exact e4q
 ·exact d8z
 ·exact d9a
 ·exact e4r
end
def e4t (b:Nat):Nat→List (cR b)
 | 0=>[]
 | n+1=>Eng.dZ::e4t b n
theorem d4l (b n:Nat) (w:World):cW (e4t b n) w fun _=>False:=by
 refine⟨fun _ _=>False,⟨fun i A a=>?_,fun i j x h=>h.elim,fun i _ x h=>h⟩,fun x=>⟨fun h=>h.elim,fun ⟨_,h⟩=>h⟩⟩;have:A=Eng.dZ:=by
  induction n generalizing i with
  | zero=>cases i<;>cases a
  | succ n ih =>
   cases i with
   | zero=>cases a;rfl
   | succ i=>exact ih i a
 subst this;exact fun x h=>h
theorem cW.up_ {b:Nat} {l:List (cR b)} {w w':World} {F S:Nat→Prop} (h:cW l w F) (hu:cJ S w w') (hs:∀ x,F x→¬ S x) (hb:∀ x,S x→b≤x):cW l w' F:=by
 obtain⟨c,d,a⟩:=h;exact⟨c,d.up hu (fun i x f=>hs x ((a x).2 ⟨i,f⟩)) hb,a⟩
theorem cW.lt_ {b:Nat} {l:List (cR b)} {w:World} {F:Nat→Prop} (h:cW l w F):∀ x,F x→b≤x∧x < w.heap.size:=fun x f=>by
 obtain⟨g,a,c⟩:=h;obtain⟨i,d⟩:=(c x).1 f;exact a.lt i x d
def stR (w0:World):Nat→List Value→List (cR w0.heap.size)
 | 0,gs=>[Eng.dQ (gs.length=4),kY w0 (gv gs 0) [] 0,StA w0 (gv gs 1) (gv gs 2) (gv gs 3) [] 0 0,Eng.dZ,Eng.dZ,Eng.dZ,Eng.dZ,Eng.dZ,Eng.dZ]
 | 1,gs=>[Eng.dQ (gs.length=4),kY w0 (gv gs 0) [] 0,StA w0 (gv gs 1) (gv gs 2) (gv gs 3) [] 0 0,Eng.dZ,Eng.dZ,Eng.dZ,Eng.dZ,Eng.dZ,Eng.dZ]
 | 2,gs=>[Eng.dQ (gs.length=4),kY w0 (gv gs 0) [] 0,StA w0 (gv gs 1) (gv gs 2) (gv gs 3) [] 938 1,Eng.dZ,Eng.dZ,Eng.dZ,Eng.dZ,Eng.dZ,Eng.dZ]
 | 3,gs=>[Eng.dQ (gs.length=4),kY w0 (gv gs 0) [] 0,StA w0 (gv gs 1) (gv gs 2) (gv gs 3) [] 938 1,Eng.dZ,Eng.dZ,Eng.dZ,Eng.dZ,Eng.dZ,Eng.dZ]
 | _+4,gs=>[Eng.dQ (gs.length=4),kY w0 (gv gs 0) (flL []) 0,StA w0 (gv gs 1) (gv gs 2) (gv gs 3) [] 938 1,Eng.dZ,Eng.dZ,Eng.dZ,Eng.dZ,Eng.dZ,Eng.dZ]
def WN (w0:World) (vw:Value) (w:World) (F:Nat→Prop):Prop :=
 (∃ g,vw = .pointer (some ⟨g,0,none⟩))∧∃ gs,cW (stR w0 0 gs++[cY w0.heap.size fQ Eng.hN 9 (Eng.as4++[.ptr 5 0]) (gs++[vw])]) w F
theorem c6s {b:Nat} (w:World) (l:List (cR b)) {v:List Value} (h:cW l w fun _=>False):cW (l++[cY b fQ [] 1 [] []]) w fun _=>False:=by
 letI:Eng.fP:=bQ b fQ
 refine h.join (F2:=fun _=>False) (Eng.cW.one.2 ⟨fun _=>none,⟨fun i c a=>(by cases a),fun i j c e x y a=>(by cases a)⟩,fun i _=>rfl,rfl,fun x d=>d.elim⟩) (fun x h=>h.elim) fun x=>by simp
theorem e4u {w0 w:World} (hu:bR [] w0 w):Calls Tryz.prog 5 #[] w fun e w'=>∃ vw,e = .returned vw∧cJ (fun _=>False) w w'∧∃ F',WN w0 vw w' F'∧∀ x,F' x→w.heap.size≤x:=by
 have c:@Eng.BD (bQ w0.heap.size fQ) []:=b9a;have r:@Eng.sL (Eng.cA w0.heap.size fQ (uP w0)) Tryz.prog (Eng.oL [] (Eng.hks [] Eng.c1j)):=@Eng.kE (Eng.cA w0.heap.size fQ (uP w0)) [] c _ (Eng.lG c e4s);have s:cW (uP w0 0 []) w fun _=>False:=by
  refine⟨fun _ _=>False,⟨fun i A d=>?_,fun i j x h=>h.elim,fun i _ x h=>h⟩,fun x=>⟨fun h=>h.elim,fun ⟨_,h⟩=>h⟩⟩
  match i with
  | 0=>cases d;exact⟨rfl,fun x h=>h⟩
  | 1=>cases d;exact fun x h=>h
  | 2=>cases d;exact fun x h=>h
  | 3=>cases d;exact⟨hu,fun x h=>h⟩
  | _+4=>cases d
 refine(Eng.iT (us:=[]) (gs:=[]) r Eng.e7k (by omega) rfl hu.size (c6s (v:=[]) w _ s) (fun G U=>⟨rfl,trivial⟩)).mono ?_;rintro e w' ⟨vw,a,G,rfl,b,y,⟨O,P⟩,z,B,-⟩;have b:(G 3).map (fun x=>Value.pointer (some ⟨x.g,0,none⟩))=some vw:=b;have f:@Eng.dn (bQ w0.heap.size fQ) G (.ptr 3 0)=some vw:=b;obtain⟨F',C,D⟩:=z [a++[vw]] ⟨a0z y f,trivial⟩;refine⟨vw,rfl,B,F',⟨?_,a,?_⟩,fun x N=>(D x N).elim (fun q=>q.elim) id⟩
 ·cases p:G 3 with
  | none=>rw[p] at b;cases b
  | some x=>rw[p] at b;exact⟨x.g,(aK b).symm⟩
 ·obtain⟨E,Q,I,J,K,L⟩:=cW.split (l:=uP w0 4 a) C;obtain⟨R,S,p1,o,T,M⟩:=cW.split (l:=[Eng.dQ (a.length=4),kY w0 (gv a 0) [] 0,S0A w0 (gv a 1) (gv a 2) (gv a 3)]) (m:=[c6r w0]) I;have o:=(Eng.cW.one.1 o).2;have t:=d3j (l:=[Eng.dQ (a.length=4),kY w0 (gv a 0) [] 0]) (A':=StA w0 (gv a 1) (gv a 2) (gv a 3) [] 0 0) p1 (fun F q=>f0h q);have u:cW ([Eng.dQ (a.length=4),kY w0 (gv a 0) [] 0,StA w0 (gv a 1) (gv a 2) (gv a 3) [] 0 0]++e4t _ 6) w' E:=Eng.cW.join t (d4l _ 6 w') (fun x _ h=>h) fun x=>by rw[M];simp[o x]
  exact Eng.cW.join u J K L
section
variable {w0 : World} {ν : Nat → Int} {st : Nat → List Value → List (cR w0.heap.size)} {k n : Nat} {p0 p1 : List Value → Prop} {a1 a2 a3 a4 a5 a6 a7 a8 : List Value → cR w0.heap.size}
theorem e4v {N K:Nat} {rl:List kC} (h0:∀ gs,st k gs=[Eng.dQ (p0 gs),a1 gs,StA w0 (gv gs 1) (gv gs 2) (gv gs 3) rl N K,a3 gs,a4 gs,a5 gs,a6 gs,a7 gs,a8 gs]) (h1:∀ gs,p0 gs→st (k+1) gs=[Eng.dQ (p0 gs),a1 gs,StA w0 (gv gs 1) (gv gs 2) (gv gs 3) rl (N+938) (K+1),a3 gs,a4 gs,a5 gs,a6 gs,a7 gs,a8 gs])
  (hp:∀ gs,p0 gs→gs.length=n) (hK:K≤4000) (hN:N+938≤262144):(Eng.e0c k n).Ok Tryz.prog ν st:=by
 intro w gs z B F b c u P;have c:dN (st k gs) w B:=c;rw[h0] at c;have l:=(c.at_ 0 _ rfl).1;obtain⟨G,d,t⟩:=c.at_ 2 _ rfl
 match z,b with
 | [u0,u1],⟨a,⟨g,vs,hu1,hvs,hkn⟩,_⟩ =>
  match vs,hvs with
  | [x0,x1],⟨c0,p,_⟩ =>
   have c0:some (Value.int .i64 0)=some x0:=c0;cases c0;have p:some (Value.string Eng.rlX)=some x1:=p;cases p;subst hu1;have a:=eD (show Eng.bT gs 3=some u0 from a);rw[a] at d;have r:qW 2 jB w (.slice (some ⟨g,0,none⟩) 1 1) [((0:Int),Eng.rlX)]:=by
    refine⟨_,1,rfl,by simp,by simp[maxLen],fun _=>⟨g,0,rfl,fun j M i O=>?_⟩⟩;have s:j=0:=by simpa using M
    subst s;rw[Nat.zero_mul,aM,aM,cell_of_row w g i _ _ (0,0) hkn.1]
    match i,O with
    | 0,_=>rfl
    | 1,_=>rfl
   refine(d2o d ((0:Int),Eng.rlX) r (fun x o l=>?_) (by simp) (by decide) hK (by
    have:Eng.rlX.size=9:=rfl;dsimp only;omega)).mono ?_
   ·simp[blk] at o;subst o;exact hkn.2.1 ((u x).2 ⟨2,(t x).2 l⟩)
   ·rintro e C ⟨rfl,v,m,D,E⟩;have:Eng.rlX.size=9:=rfl;have m:=a9f m (show N+Eng.rlX.size+38≤N+938 by omega) (aF _);rw[← a] at m;obtain⟨y,I,J,L⟩:=c.step1 u 2 (by simp) (A:=StA w0 (gv gs 1) (gv gs 2) (gv gs 3) rl (N+938) (K+1)) (f:=fun x=>x∈v) ⟨v,m,fun _=>Iff.rfl⟩ (a4p D t) (fun x o=>(E x o).imp (t x).2 id);refine⟨_,[],gs,y,rfl,trivial,rfl,?_,?_,J,L⟩
    ·rw[bA];exact @qJ (Eng.cA _ ν st) gs n (hp gs l)
    ·show cW (st (k+1) gs) C y;rw[h1 gs l];exact I
  | [],h=>exact h.elim
  | [_],h=>exact h.2.elim
  | _::_::_::_,h=>exact h.2.2.elim
 | [],h=>exact h.elim
 | [_],h=>exact h.2.elim
 | _::_::_::_,h=>exact h.2.2.elim
end
theorem d9b {w0:World}:∀ T∈Eng.a8o,T.Ok Tryz.prog fQ (stR w0):=by
 intro T hT;simp only[Eng.a8o,aG,bF,or_false] at hT;rcases hT with rfl|rfl
 ·exact e3m (p0:=fun a=>a.length=4) (fun a=>rfl) (fun a _=>rfl) (fun a h=>h) (by omega)
 ·exact e4v (p0:=fun a=>a.length=4) (fun a=>rfl) (fun a _=>rfl) (fun a h=>h) (by omega) (by omega)
def e4w:List Value:=[.string ⟨#[97]⟩,.string ⟨#[120]⟩]
theorem f0i {b g:Nat} {w:World} (h:cU w g 29 e4w) (hb:b≤g):(cY b fQ Eng.e2o 1 [.slk 0 0 1 1] [.slice (some ⟨g,0,none⟩) 1 1]).P w fun x=>x=g:=by
 letI:Eng.fP:=bQ b fQ
 let G:Eng.GM:=fun i=>match i with
  | 0=>some ⟨g,0,0,0,.pointer none⟩
  | _=>none
 refine⟨G,⟨fun i c a m=>?_,fun i j c e x y a o f he d p l=>?_⟩,fun i a=>?_,rfl,fun x d=>?_⟩
 ·match i with
  | 0=>cases a;exact⟨_,rfl,rfl,h.lt,_,rfl,h⟩
  | _+1=>cases a
 ·match i,j with
  | 0,0=>rfl
  | _+1,_=>cases a
  | _,_+1=>cases f
 ·match i,a with
  | _+1,_=>rfl
 ·rw[d];exact⟨hb,h.lt⟩
theorem d9c {b g:Nat} {w:World} (h:cU w g 142 [.slice none 0 0]) (hb:b≤g):(eU b (.pointer (some ⟨g,0,none⟩)) []).P w fun x=>x=g:=by
 letI:Eng.fP:=bQ b fQ
 let G:Eng.GM:=fun i=>match i with
  | 1=>some ⟨g,0,0,0,.pointer none⟩
  | _=>none
 refine⟨G,⟨fun i c a m=>?_,fun i j c e x y a o d he f p l=>?_⟩,fun i a=>?_,rfl,fun x f=>?_⟩
 ·match i with
  | 1=>cases a;exact⟨_,rfl,rfl,h.lt,_,rfl,h⟩
  | 0=>cases a
  | _+2=>cases a
 ·match i,j with
  | 1,1=>rfl
  | 0,_=>cases a
  | _+2,_=>cases a
  | _,0=>cases d
  | _,_+2=>cases d
 ·match i,a with
  | _+3,_=>rfl
 ·rw[f];exact⟨hb,h.lt⟩
theorem d9d {b:Nat} {w:World} {F:Nat→Prop} {y d l j r vw:Value} (h:(cY b fQ Eng.hW0 10 (Eng.as5++[.ptr 6 0]) [y,d,l,j,r,vw]).P w F):∃ gw gf gt ga,vw = .pointer (some ⟨gw,0,none⟩)∧cU w gw 67 [y,d,.pointer (some ⟨gf,0,none⟩)]∧cU w gf 98 [y,r,l,j,.pointer (some ⟨gt,0,none⟩),.pointer (some ⟨ga,0,none⟩)]∧cU w gt 142 [.slice none 0 0]∧F gw∧F gf∧F gt∧gw≠gf∧gw≠gt∧gf≠gt:=by
 letI:Eng.fP:=bQ b fQ
 obtain⟨G,c,h2,a,h4⟩:=h;obtain⟨A,B,k2,k3,u6,k4,k5⟩:=c.bs 6 _ rfl trivial;obtain⟨C,D,m2,m3,u7,m4,m5⟩:=c.bs 7 _ rfl trivial;obtain⟨E,I,n2,n3,u8,n4,n5⟩:=c.bs 8 _ rfl trivial;obtain⟨y1,r1,a1,a,e⟩:=Eng.bS.1 a;cases e;obtain⟨y2,r2,a2,a,e⟩:=Eng.bS.1 a;cases e;obtain⟨y3,r3,a3,a,e⟩:=Eng.bS.1 a;cases e;obtain⟨y4,r4,a4,a,e⟩:=Eng.bS.1 a;cases e;obtain⟨y5,r5,a5,a,e⟩:=Eng.bS.1 a;cases e;obtain⟨y6,r6,a6,a,e⟩:=Eng.bS.1 a;cases e;obtain⟨p0,a8,J,f,K⟩:=Eng.bS.1 k4;subst K;obtain⟨p1,a9,L,i,M⟩:=Eng.bS.1 f;subst M;obtain⟨p2,b0,N,m,O⟩:=Eng.bS.1 i;subst O;obtain⟨q0,b1,Q,o,R⟩:=Eng.bS.1 m4;subst R;obtain⟨q1,b2,S,p,eq1⟩:=Eng.bS.1 o;subst eq1;obtain⟨q2,b3,T,s,eq2⟩:=Eng.bS.1 p;subst eq2;obtain⟨q3,b4,U,t,V⟩:=Eng.bS.1 s;subst V;obtain⟨q4,b5,W,u,X⟩:=Eng.bS.1 t;subst X;obtain⟨q5,b6,Y,v,Z⟩:=Eng.bS.1 u;subst Z;obtain⟨s0,b7,a0,x,a7⟩:=Eng.bS.1 n4;subst a7;have nil:∀ {l:List Value},Eng.dG G []=some l→l=[]:=fun h=>(aK h).symm
 have:=nil m;subst this;have:=nil v;subst this;have:=nil x;subst this;have c1:=aK (a1.symm.trans J);subst c1;have c2:=aK (a2.symm.trans L);subst c2;have c3:=aK (a1.symm.trans Q);subst c3;have c4:=aK (a5.symm.trans S);subst c4;have c5:=aK (a3.symm.trans T);subst c5;have c6:=aK (a4.symm.trans U);subst c6;have d6:(G 6).map _=some vw:=a6;rw[B] at d6;have d7:(G 7).map _=some p2:=N;rw[D] at d7;have d8:(G 8).map _=some q4:=W;rw[I] at d8;have z:(G 9).map _=some q5:=Y;have ds:some (Value.slice none 0 0)=some s0:=a0;cases hg:G 9 with
 | none=>rw[hg] at z;cases z
 | some x9 =>
  rw[hg] at z;have e6:=aK d6;have e7:=aK d7;have e8:=aK d8;have e9:=aK z;have es:=aK ds;subst e6 e7 e8 e9 es;refine⟨A.g,C.g,E.g,x9.g,rfl,k5,m5,n5,k2,m2,n2,fun q=>?_,fun q=>?_,fun q=>?_⟩
  ·exact absurd (c.inj 6 7 _ _ A C rfl trivial rfl trivial B D q) (by decide)
  ·exact absurd (c.inj 6 8 _ _ A E rfl trivial rfl trivial B I q) (by decide)
  ·exact absurd (c.inj 7 8 _ _ C E rfl trivial rfl trivial D I q) (by decide)
theorem d4m {w0 w:World} {vw:Value} {F:Nat→Prop} {g2:Nat} (h:WN w0 vw w F) (hb:w0.heap.size≤w.heap.size) (h2:cU w g2 29 e4w) (b2:w0.heap.size≤g2) (n2:¬ F g2) :
  Calls Tryz.prog 8 #[vw,.agg #[.int .i64 7,.int .i64 0,.string ⟨#[]⟩,.string ⟨#[]⟩,.slice none 0 0,.slice (some ⟨g2,0,none⟩) 1 1,.string ⟨#[]⟩]] w fun e w'=>e = .returned (a7l 0)∧cJ (fun x=>F x∨x=g2) w w'∧∃ gs vr F',cW (stR w0 2 gs++[cD w0.heap.size vr,cY w0.heap.size fQ Eng.hW0 10 (Eng.as5++[.ptr 6 0]) (gs++[vr]++[vw])]) w' F'∧∀ x,F' x→(F x∨x=g2)∨w.heap.size≤x:=by
 obtain⟨-,gs,s⟩:=h;have a:@Eng.BD (bQ w0.heap.size fQ) []:=b9a;have o:@Eng.sL (Eng.cA w0.heap.size fQ (stR w0)) Tryz.prog (Eng.oL [] (Eng.hks [] Eng.a8o)):=@Eng.kE (Eng.cA w0.heap.size fQ (stR w0)) [] a _ (Eng.lG a d9b);obtain⟨O,P,p1,t,u,j⟩:=s.split;have p:=Eng.yI (Eng.cW.one.1 t) (f0i h2 b2) (fun x c l=>by
  have:=(j x).2 (.inr c);rw[l] at this;exact n2 this) rfl rfl rfl hb
 have d:cW (stR w0 0 gs++[cY w0.heap.size fQ (Eng.hN++Eng.shH 9 Eng.e2o) 10 (Eng.as4++[.ptr 5 0]++[.slk 9 0 1 1]) (gs++[vw]++[.slice (some ⟨g2,0,none⟩) 1 1])]) w fun x=>F x∨x=g2:=by
  refine p1.join (Eng.cW.one.2 p) (fun x c l=>?_) fun x=>?_
  ·rcases l with q|rfl
   ·exact u x c q
   ·exact n2 ((j _).2 (.inl c))
  ·rw[j,or_assoc]
 refine(Eng.yN (us:=[vw,.agg #[.int .i64 7,.int .i64 0,.string ⟨#[]⟩,.string ⟨#[]⟩,.slice none 0 0,.slice (some ⟨g2,0,none⟩) 1 1,.string ⟨#[]⟩]]) o Eng.e2q (by omega) rfl hb d (fun G N=>?_)).mono ?_
 ·letI:Eng.fP:=bQ w0.heap.size fQ
  obtain⟨v,z⟩:=wY N;obtain⟨A,B⟩:=wY v;refine⟨A,@Eng.cZ (bQ w0.heap.size fQ) _ _ _ B,?_,trivial⟩;show (Eng.dG G [Eng.i6 7,Eng.i6 0,.str ⟨#[]⟩,.str ⟨#[]⟩,.nils,.slk 9 0 1 1,.str ⟨#[]⟩]).map _=_;simp only[Eng.dG,z];rfl
 ·rintro e w' ⟨x,b,G,rfl,f,C,⟨Q,R⟩,D,E,I,G0,J,K⟩;have f:some (a7l 0)=some x:=f;cases f;have r:=@Eng.vR (bQ w0.heap.size fQ) _ _ J _ _ (wY (wY K).1).2;obtain⟨y,i⟩:=E _ (aR ..) 1 _ rfl trivial;have i:G 80=some y:=i;have m:@Eng.dn (bQ w0.heap.size fQ) G (.ptr 80 0)=some (.pointer (some ⟨y.g,0,none⟩)):=by
   show (G 80).map _=_;rw[i];rfl
  obtain⟨F',L,M⟩:=D [[.pointer (some ⟨y.g,0,none⟩)],b++[.pointer (some ⟨y.g,0,none⟩)]++[vw]] ⟨gN m,a0z (a0z C m) r,trivial⟩;exact⟨rfl,I,b,.pointer (some ⟨y.g,0,none⟩),F',L,M⟩
theorem e4x {w0 w:World} {vw vr:Value} {F:Nat→Prop} {gs:List Value} (B:List UInt8) (h:cW (stR w0 2 gs++[cD w0.heap.size vr,cY w0.heap.size fQ Eng.hW0 10 (Eng.as5++[.ptr 6 0]) (gs++[vr]++[vw])]) w F):∃ V gw,vw = .pointer (some ⟨gw,0,none⟩)∧(∃ gf,V.f = .pointer (some ⟨gf,0,none⟩))∧∃ F',cW [cE w0 V [] 0 938 1 B [],cM _ gw 67 [V.y,V.d,V.f]] w F'∧∀ x,F' x→F x:=by
 obtain⟨a,o,S⟩:=h;have D:=(o.at_ 0 _ rfl).1;have E:=o.at_ 1 _ rfl;have G:=o.at_ 2 _ rfl;have I:=o.at_ 9 _ rfl;have b:=o.at_ 10 _ rfl
 match gs,D with
 | [y,d,l,j],_ =>
  have b:(cY w0.heap.size fQ Eng.hW0 10 (Eng.as5++[.ptr 6 0]) [y,d,l,j,vr,vw]).P w (a 10):=b;have c:=fun x v=>((cY w0.heap.size fQ Eng.hW0 10 (Eng.as5++[.ptr 6 0]) [y,d,l,j,vr,vw]).lt b x v).1
  obtain⟨gw,gf,m,C,rfl,T,U,W,s,t,u,X,Y,Z⟩:=d9d b;refine⟨⟨y,d,l,j,vr,.pointer (some ⟨m,0,none⟩),.pointer (some ⟨gf,0,none⟩),.pointer (some ⟨C,0,none⟩)⟩,gw,rfl,⟨gf,rfl⟩,?_⟩;have p1:cW [kY w0 y [] 0] w (a 1):=cC.2 E;have J:cW [lO w0 d l j 0 938 1] w (a 2):=(cC (A:=lO w0 d l j 0 938 1)).2 ⟨[],⟨(fun r hr=>absurd hr (bF)),aS _⟩,G⟩;have K:cW [cD w0.heap.size vr] w (a 9):=cC.2 I;have pt:cW [eU w0.heap.size (.pointer (some ⟨m,0,none⟩)) []] w (fun x=>x=m):=cC.2 (d9c W (c _ u));have L:cW [yV w0.heap.size ⟨y,d,l,j,vr,.pointer (some ⟨m,0,none⟩),.pointer (some ⟨gf,0,none⟩),.pointer (some ⟨C,0,none⟩)⟩] w (fun x=>x=gf):=(cC (A:=yV w0.heap.size _)).2 ⟨gf,rfl,U,rfl,c _ t,fun x=>Iff.rfl⟩;have M:cW [cM w0.heap.size gw 67 [y,d,.pointer (some ⟨gf,0,none⟩)]] w (fun x=>x=gw):=(cC (A:=cM w0.heap.size gw 67 _)).2 ⟨T,c _ s,fun x=>Iff.rfl⟩;have ne:∀ i k x,i≠k→a i x→¬ a k x:=fun i k x z p q=>z (o.ap i k x p q)
  have N:=Eng.cW.join p1 J (fun x p q=>ne 1 2 x (by decide) p q) (F:=fun x=>a 1 x∨a 2 x) fun x=>Iff.rfl
  have O:=Eng.cW.join N K (fun x p q=>p.elim (fun p=>ne 1 9 x (by decide) p q) fun p=>ne 2 9 x (by decide) p q) (F:=fun x=>(a 1 x∨a 2 x)∨a 9 x) fun x=>Iff.rfl
  have g:∀ x,a 10 x→¬ ((a 1 x∨a 2 x)∨a 9 x):=fun x p q=>q.elim (fun q=>q.elim (fun q=>ne 10 1 x (by decide) p q) fun q=>ne 10 2 x (by decide) p q) fun q=>ne 10 9 x (by decide) p q
  have Q:=Eng.cW.join O pt (fun x p q=>g x (by rw[q];exact u) p) (F:=fun x=>((a 1 x∨a 2 x)∨a 9 x)∨x=m) fun x=>Iff.rfl
  have R:=Eng.cW.join Q L (fun x p q=>p.elim (fun p=>g x (by rw[q];exact t) p) fun p=>Z (q.symm.trans p)) (F:=fun x=>(((a 1 x∨a 2 x)∨a 9 x)∨x=m)∨x=gf) fun x=>Iff.rfl
  refine⟨fun x=>((((a 1 x∨a 2 x)∨a 9 x)∨x=m)∨x=gf)∨x=gw,eY (A:=cE w0 _ [] 0 938 1 B []) (B:=cM _ gw 67 _) ⟨[],0,938,1,rfl,aF _,aF _,aF _,R⟩ (cC.1 M) (fun x p q=>?_) (fun x=>Iff.rfl),fun x v=>(S x).2 ?_⟩
  ·rcases p with(p|p)|p
   ·exact g x (by rw[q];exact s) p
   ·exact Y (q.symm.trans p)
   ·exact X (q.symm.trans p)
  ·rcases v with((((p|p)|p)|p)|p)|p
   ·exact⟨1,p⟩
   ·exact⟨2,p⟩
   ·exact⟨9,p⟩
   ·exact⟨10,by rw[p];exact u⟩
   ·exact⟨10,by rw[p];exact t⟩
   ·exact⟨10,by rw[p];exact s⟩
end Go.Proofs.YthgnlfikneipiaaGreat
namespace Go.Proofs.YthgnlfikneipiaaGreat
open Go.RowKit
open Go.Eng (cR cJ TS dN cW)
abbrev T3:=Int×Int×Int
abbrev plC (p:T3):List Value:=[.int .i64 p.1,.int .i64 p.2.1,.int .i64 p.2.2]
theorem qQ:∀ p,(plC p).length=3:=fun _=>rfl
theorem d9e:∀ p,∀ u∈plC p,u.oneCell'=true:=fun p u a=>by
 simp only[aG,bF,or_false] at a;rcases a with rfl|rfl|rfl<;>rfl
theorem e4y (W:World) (p:T3) (t:TypeId):qW 3 plC (W.alloc (.cells #[.int .i64 p.1,.int .i64 p.2.1,.int .i64 p.2.2] t)) (.slice (some ⟨W.heap.size,0,none⟩) 1 1) [p]:=by
 have b:=cU.new W t (plC p);refine⟨_,1,rfl,by simp,by simp[maxLen],fun _=>⟨W.heap.size,0,rfl,fun j a i c=>?_⟩⟩;simp at a;subst a;have:=b.cell i;rw[cP,show 0+(0*3+i)=i by omega];exact this
theorem e4z:(Tryz.prog.info? 57).map (fun i=>(i.zero,i.size,i.bytes))=some (some (.agg #[.int .i64 0,.int .i64 0,.int .i64 0]),3,24):=by kernel_rfl
theorem f0j:Tryz.prog.underlying 54=some (.slice 57):=by kernel_rfl
section
variable {w0 w W : World} {F : Nat → Prop} {V : FV} {fl : FL} {n0 N K : Nat} {B : List UInt8} {pat : List Bool} {l : List (cR w0.heap.size)} {gw : Nat}
theorem xK (h:Lf (cE w0 V fl n0 N K B pat::cM _ gw 67 [V.y,V.d,V.f]::l) w F W) :
  Calls Tryz.prog 14 #[.pointer (some ⟨gw,0,none⟩)] W fun e w'=>e = .returned V.f∧Lf (cE w0 V fl n0 N K B pat::cM _ gw 67 [V.y,V.d,V.f]::l) w F w':=by
 have d2:=(bX (i:=1) h rfl).cell 2;dsimp only[List.getElem?_cons_zero,List.getElem?_cons_succ] at d2;have H:=bG h;clear h;go_enter Tryz.func14,Tryz.ntmps14;go_wp2_with fail
 go_ret;exact⟨rfl,H.out⟩
theorem a4c (hp:pat.length≤9) (hb:w0.heap.size≤w.heap.size) (hBl:B.length≤110) (h:Lf (cE w0 V fl n0 N K B pat::cM _ gw 67 [V.y,V.d,V.f]::l) w F W) :
  Calls Tryz.prog 13 #[.pointer (some ⟨gw,0,none⟩)] W fun e w'=>∃ (a:Option Addr) (c:Nat) (ps:List T3),e = .returned (.tuple #[.slice a ps.length c,.bool true])∧ps=(dV 0 pat).map (fun i=>(i,1,(B.length:Int)))∧Lf (cE w0 V fl n0 N K B pat::cG _ 3 plC 57 (.slice a ps.length c) ps::cM _ gw 67 [V.y,V.d,V.f]::l) w F w':=by
 have HB:=bG hb;obtain⟨f0,Y⟩:=sG (i:=0) h rfl;obtain⟨G,I,-,-⟩:=sH Y;clear Y;have D:=bG (xK h);rw[I] at D;have P:Hid (∀ C l',Lf (cE w0 V fl n0 N K B pat::l') w F C→Calls Tryz.prog 28 #[.pointer (some ⟨G,0,none⟩)] C fun e w'=>∃ (a:Option Addr) (c:Nat) (g:List (Nat×Q1)),e = .returned (.slice a g.length c)∧g.map (fun p:Nat×Q1=>((p.1+1:Nat):Int))=dV 0 pat∧Lf (cE w0 V fl n0 N K B pat::cG _ 20 (uC B) 88 (.slice a g.length c) g::l') w F w'):=fun C l' h'=>by
  rw[← I];refine(dR h' fun f hf=>c6n hp (aL hb (eO h')) hBl hf).mono ?_;rintro e w' ⟨_,⟨v,g,rfl,h7,rfl⟩,M⟩;obtain⟨a,c,rfl,-⟩:=(c2t (i:=1) M rfl).rd (tW B);exact⟨a,c,g,rfl,h7,M⟩
 have a2:Hid ((dV 0 pat).length≤9):=aL (tU _ _) hp;clear h hb hp hBl;go_enter Tryz.func13,Tryz.ntmps13;go_wp2_with fail
 (with_reducible refine D.out.mono ?_)
 rintro e w1 ⟨rfl,h1⟩;have H1:Hid (Lf (cE w0 V fl n0 N K B pat::(cM _ gw 67 [V.y,V.d,.pointer (some ⟨G,0,none⟩)]::l)) w F w1):=h1;clear h1 D;go_wp2_with fail
 (with_reducible refine(P.out _ _ H1.out).mono ?_)
 rintro e w2 ⟨ea,Z,g,rfl,J,h2⟩;have H2:=bG h2;have a3:=bG J;have b2:(g.length:Int)≤9:=by
  have:=congrArg List.length J;have Q:=a2.out;simp at this;omega
 have R:Hid (g.length≤9):=by unfold Hid;omega
 clear h2 J H1 P;have H3:Hid (Lf (cE w0 V fl n0 N K B pat::[cG _ 3 plC 57 (.slice none 0 0) ([]:List T3)]++(cG _ 20 (uC B) 88 (.slice ea g.length Z) g::cM _ gw 67 [V.y,V.d,.pointer (some ⟨G,0,none⟩)]::l)) w F w2):=oV H2.out (bR.refl [] w2) (A':=cG _ 3 plC 57 (.slice none 0 0) []) (f:=fun x=>False) ⟨cF.nil _ _ _,fun x=>by simp[blk]⟩ (fun x q=>q.elim);clear H2;go_wp2_with fail
 go_loopw [6,7] (fun v i wr=>∃ (k:Nat) (ps:List T3),k≤g.length∧i = .int .i64 k∧ps=(g.take k).map (fun p=>(((p.1+1:Nat):Int),1,(B.length:Int)))∧Hid (Lf (cE w0 V fl n0 N K B pat::[cG _ 3 plC 57 v ps]++(cG _ 20 (uC B) 88 (.slice ea g.length Z) g::cM _ gw 67 [V.y,V.d,.pointer (some ⟨G,0,none⟩)]::l)) w F wr)) (fun _ i _=>g.length-(intOf i).toNat)
 case atStart=>exact⟨0,[],aS _,rfl,rfl,H3⟩
 case round =>
  clear H3;obtain⟨k,ps,hk,rfl,o,ho⟩:=hrel;by_cases j:k < g.length
  ·have q0:(0:Int)≤k:=by omega
   have q1:(k:Int) < g.length:=by omega
   obtain⟨a',c',he,-,-,a0⟩:=(c2t (i:=2) ho.out rfl).rd (tW B);injection he with e1 e2 e3;subst e1;clear e2 e3;obtain⟨m,b,rfl,s⟩:=a0 (by intro h;simp[h] at j);have d0:wr.cell? ⟨m,b+k*20,none⟩=some (.int .i64 (((bT g k).1+1:Nat):Int)):=s k j 0 (by omega);have d1:wr.cell? ⟨m,b+k*20+1,none⟩=some (.int .i64 1):=s k j 1 (by omega);have d4:wr.cell? ⟨m,b+k*20+4,none⟩=some (.int .i64 (B.length:Int)):=s k j 4 (by omega);have a4:Hid (ps++[((((bT g k).1+1:Nat):Int),1,(B.length:Int))]=(g.take (k+1)).map (fun p=>(((p.1+1:Nat):Int),1,(B.length:Int)))):=by
    rw[Hid,bC j,List.map_append,← o,cO _ _ j];rfl
   have E:Hid (ps.length=k):=by rw[Hid,o];simp;omega
   have r:=bG j;have a5:Hid (g≠[]):=by intro q;simp[q] at j
   generalize A:(((bT g k).1+1:Nat):Int)=ino at *
   have T:=bG A;clear A;have HO:=bG ho.out;have H5:Hid (∀ C,Lf (cE w0 V fl n0 N K B pat::([cG _ 3 plC 57 u6 ps,cG _ 20 (uC B) 88 (.slice (some ⟨m,b,none⟩) g.length Z) g]++(cM _ gw 67 [V.y,V.d,.pointer (some ⟨G,0,none⟩)]::l))) w F C→Lf (cE w0 V fl n0 N K B pat::cM _ C.heap.size 57 (plC (ino,1,(B.length:Int)))::([cG _ 3 plC 57 u6 ps,cG _ 20 (uC B) 88 (.slice (some ⟨m,b,none⟩) g.length Z) g]++(cM _ gw 67 [V.y,V.d,.pointer (some ⟨G,0,none⟩)]::l))) w F (C.alloc (.cells #[.int .i64 ino,.int .i64 1,.int .i64 (B.length:Int)] 57))):=fun C h'=>eJ 57 (plC (ino,1,(B.length:Int))) HB.out h'
   have u:Hid ((ps.length+1)*24≤140737488355328):=by have h1:=E.out;have h2:=R.out;unfold Hid;omega
   have z:Hid (ps.length+1≤maxLen):=by have h1:=E.out;have h2:=R.out;unfold Hid maxLen;omega
   have U:Hid (∀ W,bR [] (wr.alloc (.cells #[.int .i64 ino,.int .i64 1,.int .i64 (B.length:Int)] 57)) W→∀ ty,∃ v' w',(Builtin.append_ #[54,54] ty #[u6,.slice (some ⟨wr.heap.size,0,none⟩) 1 1]).run Tryz.prog W = .ok v' w'∧Lf (cE w0 V fl n0 N K B pat::cG _ 3 plC 57 v' (ps++[(ino,1,(B.length:Int))])::cG _ 20 (uC B) 88 (.slice (some ⟨m,b,none⟩) g.length Z) g::cM _ gw 67 [V.y,V.d,.pointer (some ⟨G,0,none⟩)]::l) w F w'):=fun W hW ty=>by
    have M:=oU (H5.out _ HO.out) hW;obtain⟨v5,O,Q,a7,a8,b0⟩:=fR (c:=plC) (sz:=3) (ty:=ty) qQ (by decide) d9e f0j e4z rfl _ _ ps [(ino,1,(B.length:Int))] (a4b (i:=2) qQ M rfl) ((e4y wr (ino,1,(B.length:Int)) 57).upd (S:=[]) qQ hW (by simp)) u.out z.out (aL HB.out (eO M));have a6:=a9n (i:=2) M rfl (by exact bH (bH (Nat.succ_pos _))) a7 a8 b0;exact⟨v5,O,Q,eZ (show Lf (cE w0 V fl n0 N K B pat::cM _ _ 57 _::_) w F O from a6)⟩
   clear s a0 ho o H5 HO u z;go_wp2_with fail
   go_region_held3 (fun W=>W.cell? ⟨m,b+k*20,none⟩=some (.int .i64 ino)∧W.cell? ⟨m,b+k*20+1,none⟩=some (.int .i64 1)∧W.cell? ⟨m,b+k*20+4,none⟩=some (.int .i64 (B.length:Int))) (first|go_keep|exact⟨g0,g1,g4⟩) (first
    | ((with_reducible refine jS rfl (.tmp 20) (.tmp 38) rfl u6 (.slice (some ⟨wr.heap.size,0,none⟩) 1 1) rfl rfl (U.out _ (by repeat (first|with_reducible exact bR.refl _ _|with_reducible apply bR.drew)) _) ?_);(rintro v5 O Q;have H9:=bG Q;clear Q;obtain⟨a9,c9,b1,-,-,a1⟩:=(c2t (i:=2) H9.out rfl).rd (tW B);injection b1 with L e8 e7;subst L;obtain⟨b9,o9,L,t⟩:=a1 a5.out;injection L with L;injection L with L e8;subst L;subst e8;have g0:O.cell? ⟨m,b+k*20,none⟩=some (.int .i64 ino):=(by rw[← T.out];exact t k r.out 0 (by omega));have g1:O.cell? ⟨m,b+k*20+1,none⟩=some (.int .i64 1):=(t k r.out 1 (by omega));have g4:O.cell? ⟨m,b+k*20+4,none⟩=some (.int .i64 (B.length:Int)):=(t k r.out 4 (by omega));clear t a1 e7;dsimp only))
    | fail)
   all_goals
    go_wp2_with fail
    go_roundw
    case rel =>
     refine⟨k+1,ps++[(ino,1,(B.length:Int))],r.out,by go_num,a4.out,?_⟩;have e7:(ps++[(ino,1,(B.length:Int))]).length=k+1:=by rw[aE,E.out];rfl
     exact H9.out
    case measure=>simp[intOf];omega
  ·obtain rfl:k=g.length:=by omega
   rw[aV] at o;go_wp2_with fail
   go_ret2
   have X:ps=(dV 0 pat).map (fun i=>(i,1,(B.length:Int))):=by rw[← a3.out,o,List.map_map];rfl
   obtain⟨a,c,rfl,-⟩:=(a4b (i:=1) qQ ho.out rfl).rd qQ;refine⟨a,c,ps,rfl,X,?_⟩;rw[I];exact kR ho.out
end
end Go.Proofs.YthgnlfikneipiaaGreat
namespace Go.Proofs.YthgnlfikneipiaaGreat
open Go.RowKit
def iA (m:Nat):ByteArray:=⟨#[UInt8.ofNat (97+m)]⟩
def FC (B:List UInt8) (n:Nat):FL:=FM iA B (List.range n)++[(((n+1:Nat):Int),(iA n,[]))]
theorem c6t (B:List UInt8):∀ n,n < 12→jN (FM iA B (List.range n)) (iA n)=(0,FC B n)
 | 0,_=>by kernel_rfl
 | 1,_=>by kernel_rfl
 | 2,_=>by kernel_rfl
 | 3,_=>by kernel_rfl
 | 4,_=>by kernel_rfl
 | 5,_=>by kernel_rfl
 | 6,_=>by kernel_rfl
 | 7,_=>by kernel_rfl
 | 8,_=>by kernel_rfl
 | 9,_=>by kernel_rfl
 | 10,_=>by kernel_rfl
 | 11,_=>by kernel_rfl
theorem d9f (B:List UInt8):∀ n,n < 12→wL (FC B n) (iA n)=true
 | 0,_=>by kernel_rfl
 | 1,_=>by kernel_rfl
 | 2,_=>by kernel_rfl
 | 3,_=>by kernel_rfl
 | 4,_=>by kernel_rfl
 | 5,_=>by kernel_rfl
 | 6,_=>by kernel_rfl
 | 7,_=>by kernel_rfl
 | 8,_=>by kernel_rfl
 | 9,_=>by kernel_rfl
 | 10,_=>by kernel_rfl
 | 11,_=>by kernel_rfl
theorem c6u (B:List UInt8):∀ n,n < 12→qC (FC B n) (iA n)=[]
 | 0,_=>by kernel_rfl
 | 1,_=>by kernel_rfl
 | 2,_=>by kernel_rfl
 | 3,_=>by kernel_rfl
 | 4,_=>by kernel_rfl
 | 5,_=>by kernel_rfl
 | 6,_=>by kernel_rfl
 | 7,_=>by kernel_rfl
 | 8,_=>by kernel_rfl
 | 9,_=>by kernel_rfl
 | 10,_=>by kernel_rfl
 | 11,_=>by kernel_rfl
theorem d9g (B:List UInt8):∀ n,n < 12→dD fA (FC B n) (a8g (FC B n) (iA n)) (iA n,B)=FM iA B (List.range (n+1))
 | 0,_=>by kernel_rfl
 | 1,_=>by kernel_rfl
 | 2,_=>by kernel_rfl
 | 3,_=>by kernel_rfl
 | 4,_=>by kernel_rfl
 | 5,_=>by kernel_rfl
 | 6,_=>by kernel_rfl
 | 7,_=>by kernel_rfl
 | 8,_=>by kernel_rfl
 | 9,_=>by kernel_rfl
 | 10,_=>by kernel_rfl
 | 11,_=>by kernel_rfl
theorem c6v (B:List UInt8) (hB:B.length≤110) (n:Nat) (hn:n < 12):kL (FC B n) (iA n) B=(0,FM iA B (List.range (n+1))):=by
 unfold kL;rw[d9f B n hn,c6u B n hn,if_pos rfl,if_neg (by simp;omega),List.nil_append,d9g B n hn]
theorem f0k (B:List UInt8):∀ k,k < 1→fM (FM iA B (List.range 1)) (iA k)=(0,FM iA B (ms2 1 k))
 | 0,_=>by kernel_rfl
 | k+1,h=>absurd h (by omega)
theorem f0l (B:List UInt8):∀ k,k < 2→fM (FM iA B (List.range 2)) (iA k)=(0,FM iA B (ms2 2 k))
 | 0,_=>by kernel_rfl
 | 1,_=>by kernel_rfl
 | k+2,h=>absurd h (by omega)
theorem f0m (B:List UInt8):∀ k,k < 3→fM (FM iA B (List.range 3)) (iA k)=(0,FM iA B (ms2 3 k))
 | 0,_=>by kernel_rfl
 | 1,_=>by kernel_rfl
 | 2,_=>by kernel_rfl
 | k+3,h=>absurd h (by omega)
theorem f0n (B:List UInt8):∀ k,k < 4→fM (FM iA B (List.range 4)) (iA k)=(0,FM iA B (ms2 4 k))
 | 0,_=>by kernel_rfl
 | 1,_=>by kernel_rfl
 | 2,_=>by kernel_rfl
 | 3,_=>by kernel_rfl
 | k+4,h=>absurd h (by omega)
theorem f0o (B:List UInt8):∀ k,k < 5→fM (FM iA B (List.range 5)) (iA k)=(0,FM iA B (ms2 5 k))
 | 0,_=>by kernel_rfl
 | 1,_=>by kernel_rfl
 | 2,_=>by kernel_rfl
 | 3,_=>by kernel_rfl
 | 4,_=>by kernel_rfl
 | k+5,h=>absurd h (by omega)
theorem f0p (B:List UInt8):∀ k,k < 6→fM (FM iA B (List.range 6)) (iA k)=(0,FM iA B (ms2 6 k))
 | 0,_=>by kernel_rfl
 | 1,_=>by kernel_rfl
 | 2,_=>by kernel_rfl
 | 3,_=>by kernel_rfl
 | 4,_=>by kernel_rfl
 | 5,_=>by kernel_rfl
 | k+6,h=>absurd h (by omega)
theorem f0q (B:List UInt8):∀ k,k < 7→fM (FM iA B (List.range 7)) (iA k)=(0,FM iA B (ms2 7 k))
 | 0,_=>by kernel_rfl
 | 1,_=>by kernel_rfl
 | 2,_=>by kernel_rfl
 | 3,_=>by kernel_rfl
 | 4,_=>by kernel_rfl
 | 5,_=>by kernel_rfl
 | 6,_=>by kernel_rfl
 | k+7,h=>absurd h (by omega)
theorem f0r (B:List UInt8):∀ k,k < 8→fM (FM iA B (List.range 8)) (iA k)=(0,FM iA B (ms2 8 k))
 | 0,_=>by kernel_rfl
 | 1,_=>by kernel_rfl
 | 2,_=>by kernel_rfl
 | 3,_=>by kernel_rfl
 | 4,_=>by kernel_rfl
 | 5,_=>by kernel_rfl
 | 6,_=>by kernel_rfl
 | 7,_=>by kernel_rfl
 | k+8,h=>absurd h (by omega)
theorem f0s (B:List UInt8):∀ k,k < 9→fM (FM iA B (List.range 9)) (iA k)=(0,FM iA B (ms2 9 k))
 | 0,_=>by kernel_rfl
 | 1,_=>by kernel_rfl
 | 2,_=>by kernel_rfl
 | 3,_=>by kernel_rfl
 | 4,_=>by kernel_rfl
 | 5,_=>by kernel_rfl
 | 6,_=>by kernel_rfl
 | 7,_=>by kernel_rfl
 | 8,_=>by kernel_rfl
 | k+9,h=>absurd h (by omega)
theorem e5a (B:List UInt8):∀ k,k < 10→fM (FM iA B (List.range 10)) (iA k)=(0,FM iA B (ms2 10 k))
 | 0,_=>by kernel_rfl
 | 1,_=>by kernel_rfl
 | 2,_=>by kernel_rfl
 | 3,_=>by kernel_rfl
 | 4,_=>by kernel_rfl
 | 5,_=>by kernel_rfl
 | 6,_=>by kernel_rfl
 | 7,_=>by kernel_rfl
 | 8,_=>by kernel_rfl
 | 9,_=>by kernel_rfl
 | k+10,h=>absurd h (by omega)
theorem e5b (B:List UInt8):∀ k,k < 11→fM (FM iA B (List.range 11)) (iA k)=(0,FM iA B (ms2 11 k))
 | 0,_=>by kernel_rfl
 | 1,_=>by kernel_rfl
 | 2,_=>by kernel_rfl
 | 3,_=>by kernel_rfl
 | 4,_=>by kernel_rfl
 | 5,_=>by kernel_rfl
 | 6,_=>by kernel_rfl
 | 7,_=>by kernel_rfl
 | 8,_=>by kernel_rfl
 | 9,_=>by kernel_rfl
 | 10,_=>by kernel_rfl
 | k+11,h=>absurd h (by omega)
theorem e5c (B:List UInt8):∀ k,k < 12→fM (FM iA B (List.range 12)) (iA k)=(0,FM iA B (ms2 12 k))
 | 0,_=>by kernel_rfl
 | 1,_=>by kernel_rfl
 | 2,_=>by kernel_rfl
 | 3,_=>by kernel_rfl
 | 4,_=>by kernel_rfl
 | 5,_=>by kernel_rfl
 | 6,_=>by kernel_rfl
 | 7,_=>by kernel_rfl
 | 8,_=>by kernel_rfl
 | 9,_=>by kernel_rfl
 | 10,_=>by kernel_rfl
 | 11,_=>by kernel_rfl
 | k+12,h=>absurd h (by omega)
theorem e5d (B:List UInt8):∀ n k,k < n→n≤12→fM (FM iA B (List.range n)) (iA k)=(0,FM iA B (ms2 n k))
 | 0,k,h,_=>absurd h (by omega)
 | 1,k,h,_=>f0k B k h
 | 2,k,h,_=>f0l B k h
 | 3,k,h,_=>f0m B k h
 | 4,k,h,_=>f0n B k h
 | 5,k,h,_=>f0o B k h
 | 6,k,h,_=>f0p B k h
 | 7,k,h,_=>f0q B k h
 | 8,k,h,_=>f0r B k h
 | 9,k,h,_=>f0s B k h
 | 10,k,h,_=>e5a B k h
 | 11,k,h,_=>e5b B k h
 | 12,k,h,_=>e5c B k h
 | n+13,k,_,h=>absurd h (by omega)
def ln (n:Nat):List UInt8:=List.replicate n 121++[10]
def f0t (line n:Nat):Fd:=if n≤200 then ⟨1,line,0,e5z n⟩ else ⟨2,line,0,c4c⟩
open Go.Eng (cR cJ TS dN cW cY bQ)
theorem d4n {w0 w w':World} {S:Nat→Prop} (h1:bR [] w0 w) (hu:cJ S w w') (hb:∀ x,S x→w0.heap.size≤x):bR [] w0 w':=by
 refine⟨hu.os.trans h1.os,hu.tape.trans h1.tape,hu.output.trans h1.output,aL h1.size hu.size,fun k a b=>?_⟩;rw[hu.block k (aX a h1.size) (fun q=>by have:=hb k q;omega)];exact h1.block k a b
def f0u:List Nat→List UInt8
 | []=>[]
 | n::ns=>ln n++f0u ns
def f0v (line:Nat):List Nat→List Fd
 | []=>[]
 | n::ns=>f0t line n::f0v (line+n+1) ns
end Go.Proofs.YthgnlfikneipiaaGreat
namespace Go.Eng
end Go.Eng
namespace Go.Proofs.YthgnlfikneipiaaGreat
open Go.RowKit
open Go.Eng (cJ bQ)
theorem d4o (w:World):@Eng.gP (bQ w.heap.size fQ) w (fun _=>none) (fun _=>False) [] 1:=by
 letI:Eng.fP:=bQ w.heap.size fQ
 have d:Eng.Sat0 w (fun _=>none) (fun _=>False) []:=⟨fun i c a=>(by cases a),fun i j c e x y a=>(by cases a)⟩
 exact @Eng.gP.mk (bQ w.heap.size fQ) _ _ _ _ _ d (fun i _=>rfl) (fun x b=>False.elim b) (fun k l f=>(by cases f)) (fun x b=>False.elim b) (aF _)
abbrev noC:Value := .agg #[.int .i64 (-1),.int .i64 (-1),.int .i64 (-1),.int .i64 (-1),.int .i64 (-1),.int .i64 (-1),.int .i64 (-1),.int .i64 (-1),.int .i64 (-1),.int .i64 (-1)]
end Go.Proofs.YthgnlfikneipiaaGreat
namespace Go.Proofs.YthgnlfikneipiaaGreat
open Go.RowKit
open Go.Eng (cR cJ TS dN cW cY bQ)
section
variable {w0 w : World} {vw u vl dv : Value} {n q P : Nat} {rs : List kC} {B p : List UInt8}
theorem b5a {w w':World} (h:cJ (fun _=>False) w w'):bR [] w w':=⟨h.os,h.tape,h.output,h.size,fun k a b=>h.block k a fun q=>q⟩
end
end Go.Proofs.YthgnlfikneipiaaGreat
namespace Go.Proofs.YthgnlfikneipiaaGreat
open Go.RowKit
open Go.Eng (cR cJ TS dN cW)
def d4p (b:Nat) (v:Value) (xs:List UInt8):cR b where
 P w F:=eQ w v xs∧(∀ x∈blk v,b≤x∧x < w.heap.size)∧∀ x,F x↔x∈blk v
 up:=by
  rintro w w' F S ⟨h1,h3,h2⟩ hu hs hb;obtain⟨L,l1,l2⟩:=rY hu;exact⟨h1.upd l1 (fun x hx hl=>hs x ((h2 x).2 hx) (l2 x hl)),fun x hx=>⟨(h3 x hx).1,aX (h3 x hx).2 hu.size⟩,h2⟩
 lt:=by
  rintro w F ⟨h1,h3,h2⟩ x hx;exact h3 x ((h2 x).1 hx)
section
variable {w0 w W : World} {F : Nat → Prop} {V : FV} {n0 N K : Nat} {B : List UInt8} {pat : List Bool} {l : List (cR w0.heap.size)} {gw : Nat} {v : Value}
theorem c3a (h:Lf l w0 (fun _=>False) W):bR [] w0 W:=by
 obtain⟨b,c,a,d⟩:=h;exact b5a a
theorem e5e {i:Nat} {xs:List UInt8} (h:Lf l w F W) (hi:Eng.bT l i=some (d4p _ v xs)):eQ W v xs:=by
 obtain⟨f,a,b⟩:=sG h hi;exact a
theorem b5b {A:cR w0.heap.size} (x y:Stp) (hb:w0.heap.size≤W.heap.size) (h:Lf (A::l) w F W):Lf (A::cG _ 7 spC 35 (.slice (some ⟨W.heap.size,0,none⟩) [x,y].length 2) [x,y]::l) w F (W.alloc (.cells (spC x++spC y).toArray 35)) :=
 oV h ((bR.refl [] W).alloc _) (A':=cG _ 7 spC 35 (.slice (some ⟨W.heap.size,0,none⟩) 2 2) [x,y]) (f:=fun x=>x=W.heap.size) ⟨by
  refine⟨by simp,.inr ⟨W.heap.size,2,(spC x++spC y).toArray,rfl,hb,heap_alloc_new _ _,aF _,by unfold maxLen;omega,by rfl,by simp⟩⟩,fun x=>by simp[blk]⟩ fun x a=>Nat.le_of_eq a.symm
abbrev d9h (n:Nat):Stp:=⟨1,0,iA n,⟨#[]⟩,none,0,0,none,0,0,⟨#[]⟩⟩
abbrev d9i (n:Nat) (da:Option Addr) (dn dc:Nat):Stp:=⟨2,0,iA n,⟨#[]⟩,da,dn,dc,none,0,0,⟨#[]⟩⟩
abbrev d9j (n:Nat):Stp:=⟨5,0,iA n,⟨#[]⟩,none,0,0,none,0,0,⟨#[]⟩⟩
abbrev d9k:Stp:=⟨6,0,⟨#[]⟩,⟨#[]⟩,none,0,0,none,0,0,⟨#[]⟩⟩
theorem run_make {n:Nat} {da sa:Option Addr} {dn dc cs:Nat} (hn:n < 12) (hBl:B.length≤110) (hK:K≤4000) (hb:w0.heap.size≤w.heap.size)
  (h:Lf (cE w0 V (FM iA B (List.range n)) n0 N K B pat::cM _ gw 67 [V.y,V.d,V.f]::cG _ 7 spC 35 (.slice sa [d9h n,d9i n da dn dc].length cs) [d9h n,d9i n da dn dc]::[d4p _ (.slice da dn dc) B]) w F W) :
  Calls Tryz.prog 6 #[.pointer (some ⟨gw,0,none⟩),.slice sa 2 cs] W fun e w'=>∃ v,e = .returned v∧Lf [cE w0 V (FM iA B (List.range (n+1))) n0 N K B pat,cM _ gw 67 [V.y,V.d,V.f]] w F w':=by
 refine(c2z (G:=cM _ gw 67 [V.y,V.d,V.f]) (steps:=[d9h n,d9i n da dn dc]) (fun k=>match k with|0=>cE w0 V (FM iA B (List.range n)) n0 N K B pat|1=>cE w0 V (FC B n) n0 N K B pat|_=>cE w0 V (FM iA B (List.range (n+1))) n0 N K B pat) hb (by simp) h ?_).mono ?_
 ·intro k c own g b
  match k,c with
  | 0,_ =>
   refine(c6o hb hK (iA n) (c6t B n hn) b).mono ?_;rintro e w' ⟨rfl,a⟩;exact⟨(none,0,0),rfl,a⟩
  | 1,_ =>
   refine(c6q hb hK (iA n) (dv := .slice da dn dc) (p:=B) rfl (fun j a=>(e5e (i:=1) (e4o (l1:=cM _ gw 67 [V.y,V.d,V.f]::own) a) rfl)) (by omega) (c6v B hBl n hn) b).mono ?_;rintro e w' ⟨rfl,a⟩;exact⟨(none,0,0),rfl,a⟩
 ·rintro e w' ⟨v,rfl,a⟩;exact⟨v,rfl,kR (kR a)⟩
theorem f0w (n k:Nat):(ms2 n k).Pairwise (· < ·):=(List.pairwise_lt_range).sublist (List.erase_sublist ..)
theorem e5f (n k:Nat):(ms2 n k).length≤n:=by
 have:=(List.erase_sublist (a:=k) (l:=List.range n)).length_le;show ((List.range n).erase k).length≤n;simpa using this
theorem e5g {n k:Nat} {sa:Option Addr} {cs:Nat} (hn:n≤12) (hk:k < min n 8) (hBl:1≤B.length∧B.length≤110) (hn0:n0≤870) (hK:K+8+111*9≤3800+111*(vP n).length) (hK4:K≤4000) (hN:N+938*8+23938*9≤238000+23938*(vP n).length) (hb:w0.heap.size≤w.heap.size)
  (h:Lf (cE w0 V (FM iA B (List.range n)) n0 N K B (vP n)::cM _ gw 67 [V.y,V.d,V.f]::cG _ 7 spC 35 (.slice sa [d9j k,d9k].length cs) [d9j k,d9k]::l) w F W) :
  Calls Tryz.prog 6 #[.pointer (some ⟨gw,0,none⟩),.slice sa 2 cs] W fun e w'=>∃ v,e = .returned v∧∃ n1 N1 K1,Lf (cE w0 V (FM iA B (ms2 n k)) n1 N1 K1 B (st2 n k).1::cM _ gw 67 [V.y,V.d,V.f]::l) w F w':=by
 have c:=a3z n hn k hk;refine(c2z (G:=cM _ gw 67 [V.y,V.d,V.f]) (steps:=[d9j k,d9k]) (fun j=>match j with|0=>cE w0 V (FM iA B (List.range n)) n0 N K B (vP n)|1=>cE w0 V (FM iA B (ms2 n k)) n0 N K B (vP n)|_=>cE w0 V (FM iA B (ms2 n k)) (n0+2*(ms2 n k).length) (N+938*8+23938*((st2 n k).1.length-(vP n).length)) (K+8+111*((st2 n k).1.length-(vP n).length)) B (st2 n k).1) hb (by simp) h ?_).mono ?_
 ·intro j g own o b
  match j,g with
  | 0,_ =>
   refine(c6p hb hK4 (iA k) (e5d B n k (by omega) hn) b).mono ?_;rintro e w' ⟨rfl,a⟩;exact⟨(none,0,0),rfl,a⟩
  | 1,_ =>
   refine(c2w (f0w n k) (aL (e5f n k) hn) (by unfold vP;simp;omega) c.1 rfl hb hBl hn0 hK hN b).mono ?_;rintro e w' ⟨i,m,tl,rfl,-,a⟩;exact⟨(i,tl.length,m),rfl,eZ a⟩
 ·rintro e w' ⟨v,rfl,a⟩;exact⟨v,rfl,_,_,_,kR a⟩
end
end Go.Proofs.YthgnlfikneipiaaGreat
namespace Go.Proofs.YthgnlfikneipiaaGreat
open Go.RowKit
open Go.Eng (cR cJ TS dN cW cY bQ)
theorem b9l {w w1:World} {gw:Nat} {F1:Nat→Prop} (B:List UInt8) (ho:bR [] w w1) (hn:WN w (.pointer (some ⟨gw,0,none⟩)) w1 F1) (hF:∀ x,F1 x→w.heap.size≤x) :
  Calls Tryz.prog 8 #[.pointer (some ⟨gw,0,none⟩),.agg #[.int .i64 7,.int .i64 0,.string ⟨#[]⟩,.string ⟨#[]⟩,.slice none 0 0,.slice (some ⟨w1.heap.size,0,none⟩) 1 1,.string ⟨#[]⟩]] (w1.alloc (.cells #[.string ⟨#[97]⟩,.string ⟨#[120]⟩] 29)) fun e w'=>e = .returned (a7l 0)∧∃ V:FV,(∃ gf,V.f = .pointer (some ⟨gf,0,none⟩))∧Lf [cE w V (FM iA B (List.range 0)) 0 938 1 B [],cM _ gw 67 [V.y,V.d,V.f]] w (fun _=>False) w':=by
 have g:∀ x,F1 x→x < w1.heap.size:=fun x b=>by
  obtain⟨-,l,h⟩:=hn;exact(cW.lt_ h x b).2
 have u1:bR [] w1 (w1.alloc (.cells #[.string ⟨#[97]⟩,.string ⟨#[120]⟩] 29)):=(bR.refl [] w1).alloc _;have i:=cU.new w1 29 e4w;have hs:=ho.size;have j:WN w (.pointer (some ⟨gw,0,none⟩)) (w1.alloc (.cells #[.string ⟨#[97]⟩,.string ⟨#[120]⟩] 29)) F1:=by
  obtain⟨p,l,h⟩:=hn;exact⟨p,l,cW.up_ h (a3m u1) (fun x _=>by simp) (fun x b=>by simp at b)⟩
 refine(d4m j (aL hs u1.size) i hs (fun q=>by have:=g _ q;omega)).mono ?_;rintro e w' ⟨rfl,r,l,C,D,s,t⟩;have c:∀ x,F1 x∨x=w1.heap.size→w.heap.size≤x:=fun x b=>by
  rcases b with q|rfl
  ·exact hF x q
  ·exact hs
 have o:=d4n (ho.seq u1) r c;obtain⟨V,u,a,v,m,z,A⟩:=e4x B s;injection a with a;injection a with a;injection a with a E;subst a;refine⟨rfl,V,v,m,z,uL o,fun x b => .inr ?_⟩;rcases t x (A x b) with q|q
 ·exact c x q
 ·exact aL (aL hs u1.size) q
theorem b9m {w:World} {a:Option Addr} {c:Nat} {l:List UInt8} (h:eQ w (.slice a l.length c) l) (k:Nat) (hk:k≤l.length):eQ w (.slice a (l.take k).length c) (l.take k):=by
 obtain⟨u,m,e,v,o,p⟩:=h;injection e with s x t;subst s t;have g:(l.take k).length=k:=by simp;omega
 refine⟨a,c,rfl,by omega,o,fun f=>?_⟩;obtain⟨b,d,e,r⟩:=p (fun q=>f (by rw[q];simp));refine⟨b,d,e,fun j i=>?_⟩;rw[g] at i;rw[r j (by omega)];congr 2;rw[cO _ _ (by omega),cO _ _ (by rw[g];exact i)];simp
theorem e5h:∃ i,Tryz.prog.info? 3=some i:=by
 have:(Tryz.prog.info? 3).isSome=true:=by kernel_rfl
 exact Option.isSome_iff_exists.1 this
theorem d9l:Tryz.prog.cellsOf 3=1:=by kernel_rfl
theorem f0x (w:World) (a b c:Int):(Op.equalIn 10000 57 (.agg #[.int .i64 a,.int .i64 b,.int .i64 c]) (.agg #[.int .i64 a,.int .i64 b,.int .i64 c])).run Tryz.prog w = .ok true w:=by
 obtain⟨i,d⟩:=e5h;rw[run_equalIn_array w 9999 _ _ Tryz.underlying57 d,d9l];simp[Op.eqItems,List.range_succ,part,go_sem,run_equalIn_int w 9998 3 .i64 .i64 _ _ Tryz.underlying3]
theorem d9m (k:Nat) (hk:k < 12):bv (UInt8.ofNat (97+k)) = .int .u8 (97+(k:Int)):=by
 rcases (show k=0∨k=1∨k=2∨k=3∨k=4∨k=5∨k=6∨k=7∨k=8∨k=9∨k=10∨k=11 by omega) with rfl|rfl|rfl|rfl|rfl|rfl|rfl|rfl|rfl|rfl|rfl|rfl<;>rfl
theorem c3b (k:Nat) (hk:k < 12) (w:World):(convert 33 9 (.slice (some ⟨w.heap.size,0,none⟩) 1 1)).run Tryz.prog (w.alloc (.cells #[.int .u8 (97+(k:Int))] 5)) = .ok (.string (iA k)) (w.alloc (.cells #[.int .u8 (97+(k:Int))] 5)):=by
 have a:=(fB.lit (c:=bv) (w:=w) [UInt8.ofNat (97+k)] (C:=#[bv (UInt8.ofNat (97+k))]) (e:=5) (base:=0) (g:=w.heap.size) (n:=1) (k:=1) (aS _) rfl rfl rfl rfl (by unfold maxLen;omega)).rd;rw[d9m k hk] at a;exact yC Tryz.underlying33 Tryz.underlying5 Tryz.underlying9 _ _ _ a
theorem e5i:(Tryz.prog.info? 5).map (fun i=>(i.zero,i.size,i.bytes))=some (some (.int .u8 0),1,1):=by kernel_rfl
section
variable {w0 wa : World} {V : FV} {A G : cR w0.heap.size} {B d : List UInt8} {a : Option Addr} {c : Nat}
theorem d4q (hd:eQ w0 (.slice a d.length c) d) (hl:d.length≤100) (hB:B=[120,10]++d) (h:Lf [A,G] w0 (fun _=>False) wa) (ty:TypeId) :
  ∃ v' w',(Builtin.append_ #[33,33] ty #[.slice (some ⟨wa.heap.size,0,none⟩) 2 2,.slice a d.length c]).run Tryz.prog (wa.alloc (.cells #[.int .u8 120,.int .u8 10] 5 (2,3))) = .ok v' w'∧∃ g k,v' = .slice (some ⟨g,0,none⟩) B.length k∧Lf [A,G,d4p _ (.slice (some ⟨g,0,none⟩) B.length k) B] w0 (fun _=>False) w':=by
 have hs:=eO h;have p:bR [] wa (wa.alloc (.cells #[.int .u8 120,.int .u8 10] 5 (2,3))):=(bR.refl [] wa).alloc _;have v:∀ j u,([120,10].map bv)[j]?=some u→(wa.alloc (.cells #[.int .u8 120,.int .u8 10] 5 (2,3))).cell? ((⟨wa.heap.size,0,none⟩:Addr).add j)=some u:=fun j u l=>by
  rw[dB,cell_of_row _ _ _ _ _ _ (heap_alloc_new _ _)];rcases (show j=0∨j=1∨2≤j by omega) with rfl|rfl|Q
  ·exact l
  ·exact l
  ·rw[List.getElem?_eq_none (by simpa using Q)] at l;cases l
 by_cases m:d=[]
 ·subst m;rw[bA] at hB;subst hB;refine⟨_,_,lW Tryz.underlying33 (size:=1) (by kernel_rfl) _ a 2 2 c (aF _),wa.heap.size,2,rfl,?_⟩;refine kS (oV h p (A':=d4p _ (.slice (some ⟨wa.heap.size,0,none⟩) 2 2) [120,10]) (f:=fun x=>x=wa.heap.size) ⟨⟨_,2,rfl,aF _,by unfold maxLen;omega,fun _=>⟨_,0,rfl,fun j l=>?_⟩⟩,fun x b=>?_,fun x=>by simp[blk]⟩ fun x b=>Nat.le_of_eq b.symm)
  ·have l:j < 2:=l;have:=v j (bv (bT [120,10] j)) (by rcases (show j=0∨j=1 by omega) with rfl|rfl<;>rfl);rw[dB] at this;exact this
  ·have b:x=wa.heap.size:=by simpa [blk] using b
   subst b;exact⟨hs,by simp⟩
 ·obtain⟨T,U,e,z,C,D⟩:=hd;injection e with R V S;subst R S;obtain⟨E,o,rfl,F⟩:=D m;obtain⟨i,i1,I,J,K⟩:=info_parts e5i;have w:0 < d.length:=List.length_pos_iff.2 m;have u0:=(c3a h).seq p;obtain⟨v',w',L,M,N⟩:=run_append_arg_grows (P:=Tryz.prog) (wa.alloc (.cells #[.int .u8 120,.int .u8 10] 5 (2,3))) 33 ty 5 i _ 1 1 Tryz.underlying33 i1 I J K rfl (by decide) ⟨wa.heap.size,0,none⟩ 2 2 ([120,10].map bv) (by simp) v ⟨E,o,none⟩ d.length c (d.map bv) (by simp) (fun j u l=>by
   rw[List.getElem?_map] at l;obtain⟨x,b,rfl⟩:=aB.1 l;have r:=(aU.1 b).1;rw[dB,u0.cell (F j r) (by simp),xM d j x b]) (by omega) (by simp[maxLen];omega) (by omega)
  have s:fB bv (wa.alloc (.cells #[.int .u8 120,.int .u8 10] 5 (2,3))).heap.size 5 w' v' B:=by
   rw[hB];unfold fB;rw[aE,List.map_append];exact M
  have u1:=bR.of_grown N;obtain⟨g,k,rfl,O,-,-⟩:=s.form0 (by rw[hB];simp);have t:=(s.ge g (by simp[blk])).2;have y:(wa.alloc (.cells #[.int .u8 120,.int .u8 10] 5 (2,3))).heap.size=wa.heap.size+1:=by simp
  rw[y] at O;exact⟨_,w',L,g,k,rfl,kS (oV h (p.seq u1) (A':=d4p _ (.slice (some ⟨g,0,none⟩) B.length k) B) (f:=fun x=>x=g) ⟨s.rd,fun x b=>by
   have b:x=g:=by simpa [blk] using b
   subst b;exact⟨by omega,t⟩,fun x=>by simp[blk]⟩ fun x b=>by omega)⟩
end
theorem d4r:∀ (j i:Nat),(dV i (List.replicate j true)).map (fun x=>(x,(1:Int),(0:Int)))=(List.range' i j).map fun m=>(((m+1:Nat):Int),(1:Int),(0:Int))
 | 0,i=>rfl
 | j+1,i=>by
  rw[List.replicate_succ,List.range'_succ];show _::_=_::_;rw[d4r j (i+1)]
theorem zG:∀ (j i:Nat),dV i (List.replicate j true)=(List.range' i j).map fun m=>((m+1:Nat):Int)
 | 0,i=>rfl
 | j+1,i=>by
  rw[List.replicate_succ,List.range'_succ];show _::_=_::_;rw[zG j (i+1)]
theorem d4s {m:Nat} {L:Int} {ps:List T3} (h:ps=(dV 0 (vP m)).map (fun i=>(i,1,L))):ps.length=min m 8:=by
 rw[h,vP,zG];simp
theorem e5j {m k:Nat} {L:Int} {ps:List T3} (h:ps=(dV 0 (vP m)).map (fun i=>(i,1,L))) (hk:k < min m 8):bT ps k=((k:Int)+1,1,L):=by
 rw[cO _ _ (by rw[d4s h];exact hk)];subst h;simp[vP,zG]
theorem e5k {m k:Nat} {L:Int} {ps:List T3} (hm:m≤12) (hk:k < min m 8) (h:ps=(dV 0 (st2 m k).1).map (fun i=>(i,1,L))):ps.length=min (m-1) 8:=by
 rw[h,aP,a1d,aP];exact(a3z m hm k hk).2.2.2.1
theorem a9v (haw:∀ w,Calls Tryz.prog 12 #[] w fun e w'=>e = .returned (.bool true)∧cJ (fun _=>False) w w') (w:World) (n g:Int) (hn:gR n) (hg:gR g) (v2:Value) (data:List UInt8) (hd:eQ w v2 data) :
  Calls Tryz.prog 4 #[.int .i64 n,.int .i64 g,v2] w fun e w'=>e = .returned (.bool true)∧bR [] w w':=by
 have d9:=bG haw;have HN:=bG hn;have HG:=bG hg;have HD:=bG hd;obtain⟨a2,c2,rfl,c4,c5,e9⟩:=hd;have a6:=bG c4;have e0:=bG c5;clear haw hn hg c4 c5 e9;go_enter Tryz.func4,Tryz.ntmps4;go_wp2_with fail
 (with_reducible refine(e4u (bR.refl [] w)).mono ?_)
 rintro e w1 ⟨vw,rfl,u1,F1,C,c6⟩;have a7:Hid (bR [] w w1):=d4n (bR.refl [] w) u1 (fun x h=>h.elim);have J:=bG C;have a8:=bG c6;obtain⟨⟨r,rfl⟩,-⟩:=C;clear c6 u1;go_wp2_with fail
 (with_reducible refine(a2e n 1 12 w1 (by have:=HN.out;unfold gR at this;omega) (by omega) (by omega) (by omega)).mono ?_)
 rintro e w9 ⟨rfl,rfl⟩;obtain⟨m,hm,f7,c7⟩:∃ m:Nat,mA n 1 12=(m:Int)∧1≤m∧m≤12:=by
  have:=a5p n 1 12 (by omega);exact⟨(mA n 1 12).toNat,by omega,by omega,by omega⟩
 rw[hm];clear hm;go_upto_if 24 with fail
 go_cut [2] (fun s2 wx=>∃ (d:List UInt8) (a:Option Addr) (c:Nat),s2 = .slice a d.length c∧d.length≤100∧wx=w1∧Hid (eQ w (.slice a d.length c) d))
 case first =>
  by_cases d8:data.length≤100
  ·have q:¬ (100:Int) < (data.length:Int):=by omega
   go_wp2_with fail
   go_meet;exact⟨data,a2,c2,rfl,d8,rfl,HD.out⟩
  ·have q:(100:Int) < (data.length:Int):=by omega
   have hcut:∀ W,(Instr.slice 33 (.slice a2 data.length c2) none (some (.int .i64 100)) none).run Tryz.prog W = .ok (.slice a2 100 c2) W:=fun W=>sP (P:=Tryz.prog) (size:=1) Tryz.underlying33 (by kernel_rfl) a2 data.length c2 100 (by have:=a6.out;omega) W
   go_wp2_with fail
   go_meet;exact⟨data.take 100,a2,c2,by simp;omega,by simp;omega,rfl,b9m HD.out 100 (by omega)⟩
 case rest =>
 obtain⟨d,a,c,rfl,D,E,f0⟩:=hcut;rw[E];clear E HD a6 e0 HN;obtain⟨B,hB⟩:∃ B:List UInt8,Hid (B=[120,10]++d):=⟨[120,10]++d,bG rfl⟩
 have b:Hid (1≤B.length∧B.length≤110∧B.length=d.length+2):=by
  have:B.length=d.length+2:=by rw[hB.out];simp
  unfold Hid;omega
 have a9:Hid (d.length≤100):=D;clear D;go_wp2_with fail
 (with_reducible refine(b9l B a7.out J.out a8.out).mono ?_)
 rintro e w2 ⟨rfl,V,⟨gf,c8⟩,h2⟩;have H2:=bG h2;have b0:=bG c8;clear h2 c8 J a8 a7;go_wp2_with fail
 go_loopw [8,9] (fun i _ wr=>∃ k:Nat,k≤m∧i = .int .i64 (k:Int)∧Hid (Lf [cE w V (FM iA B (List.range k)) 0 938 1 B [],cM _ r 67 [V.y,V.d,V.f]] w (fun _=>False) wr)) (fun i _ _=>m-(intOf i).toNat)
 case atStart=>exact⟨0,aS _,rfl,H2⟩
 case round =>
  obtain⟨k,hk,rfl,ho⟩:=hrel;clear H2;by_cases f2:k < m
  ·have q1:(k:Int) < (m:Int):=by omega
   have HK:Hid (k < 12):=by unfold Hid;omega
   have Z:=c3b k HK.out wr;have b1:Hid (Lf [cE w V (FM iA B (List.range k)) 0 938 1 B [],cM _ r 67 [V.y,V.d,V.f]] w (fun _=>False) (wr.alloc (.cells #[.int .u8 (97+(k:Int))] 5))):=oU ho.out ((bR.refl [] wr).alloc _);clear ho;go_upto_region 12 with fail
   clear Z;generalize wr.alloc (.cells #[.int .u8 (97+(k:Int))] 5)=wa at *
   have T:=bG (d4q f0.out a9.out hB.out b1.out);clear b1;have e4:∀ u:World,(convert 33 33 (.slice (some ⟨u.heap.size,0,none⟩) 2 2)).run Tryz.prog (u.alloc (.cells #[.int .u8 120,.int .u8 10] 5)) = .ok (.slice (some ⟨u.heap.size,0,none⟩) 2 2) (u.alloc (.cells #[.int .u8 120,.int .u8 10] 5 (2,3))):=fun u=>c6x Tryz.underlying33 Tryz.underlying5 u #[.int .u8 120,.int .u8 10] _ 2 2 rfl
   go_wp2_with (first
    | (at_builtin;go_must ((refine cQ rfl _ _ rfl (.slice (some ⟨wa.heap.size,0,none⟩) 2 2) (.slice a d.length c) rfl rfl (T.out _) ?_);(rintro _ w5 ⟨gb,cb,rfl,h5⟩;have H5:=bG h5;clear h5)))
    | fail)
   clear e4 T;have h6:=kS (b5b (d9h k) (d9i k (some ⟨gb,0,none⟩) B.length cb) (eO H5.out) H5.out);have HR:Hid (Calls Tryz.prog 6 #[.pointer (some ⟨r,0,none⟩),.slice (some ⟨w5.heap.size,0,none⟩) 2 2] (w5.alloc (.cells #[.int .i64 1,.int .i64 0,.string (iA k),.string ⟨#[]⟩,.slice none 0 0,.slice none 0 0,.string ⟨#[]⟩,.int .i64 2,.int .i64 0,.string (iA k),.string ⟨#[]⟩,.slice (some ⟨gb,0,none⟩) B.length cb,.slice none 0 0,.string ⟨#[]⟩] 35)) fun e w'=>∃ v,e = .returned v∧Lf [cE w V (FM iA B (List.range (k+1))) 0 938 1 B [],cM _ r 67 [V.y,V.d,V.f]] w (fun _=>False) w'):=run_make HK.out b.out.2.1 (by omega) (aF _) h6;clear h6 H5
   (with_reducible refine HR.out.mono ?_)
   rintro e w6 ⟨v6,rfl,h7⟩;have H7:=bG h7;clear h7 HR;go_wp2_with fail
   go_roundw
   case rel=>exact⟨k+1,f2,by go_num,H7⟩
   case measure=>simp[intOf];omega
  ·obtain rfl:k=m:=by omega
   have p:Hid (k≤12):=c7;have b2:Hid (∀ W,Lf [cE w V (FM iA B (List.range k)) 0 938 1 B [],cM _ r 67 [V.y,V.d,V.f]] w (fun _=>False) W→Calls Tryz.prog 8 #[.pointer (some ⟨r,0,none⟩),.agg #[.int .i64 6,.int .i64 0,.string ⟨#[]⟩,.string ⟨#[]⟩,.slice none 0 0,.slice none 0 0,.string ⟨#[]⟩]] W fun e w'=>∃ (s:Option Addr) (t tl X Y Q:Nat),e = .returned (.agg #[.int .i64 0,.int .i64 0,.slice s tl t,.slice none 0 0])∧tl=k-8∧X≤24∧(Q+8+111*9≤3800+111*(vP k).length∧Q≤4000)∧Y+938*8+23938*9≤238000+23938*(vP k).length∧Lf [cE w V (FM iA B (List.range k)) X Y Q B (vP k),cM _ r 67 [V.y,V.d,V.f]] w (fun _=>False) w'):=fun W h=>by
    have hl:(List.range k).length≤12:=by simpa using p.out
    have a0:(vP k).length≤8:=by unfold vP;simp;omega
    refine(c2w (s1:=st1 k) List.pairwise_lt_range hl (by simp) (b4y k p.out).1 (b4y k p.out).2 (aF _) ⟨b.out.1,b.out.2.1⟩ (by omega) (by simp) (by simp) h).mono ?_;rintro e w' ⟨s,t,tl,rfl,O,h2⟩;refine⟨s,t,_,_,_,_,rfl,O,?_,⟨?_,?_⟩,?_,eZ h2⟩
    ·omega
    ·show 1+8+111*((vP k).length-0)+8+111*9≤_;omega
    ·show 1+8+111*((vP k).length-0)≤_;omega
    ·show 938+938*8+23938*((vP k).length-0)+938*8+23938*9≤_;omega
   go_wp2_with fail
   (with_reducible refine(b2.out _ ho.out).mono ?_)
   rintro e w3 ⟨s,t,tl,X,Y,Q,rfl,O,C,c9,d3,h3⟩;have H3:=bG h3;have HT:=bG O;have J:=bG C;have b3:=bG c9;have e5:=bG d3;clear h3 O C c9 d3 b2 ho;have H4:Hid (Lf [cE w V (FM iA B (List.range k)) X Y Q B (vP k),cM _ r 67 [V.y,V.d,V.f],cM _ w3.heap.size 41 [.int .i64 0,.int .i64 0,.slice s tl t,.slice none 0 0]] w (fun _=>False) (w3.alloc (.cells #[.int .i64 0,.int .i64 0,.slice s tl t,.slice none 0 0] 41))):=kS (eJ 41 [.int .i64 0,.int .i64 0,.slice s tl t,.slice none 0 0] (aF _) H3.out);clear H3;go_wp2_with fail
   have a0:(vP k).length≤9:=by unfold vP;simp;omega
   have b4:=bG (a4c a0 (aF _) b.out.2.1 H4.out);clear a0 H4;generalize w3.heap.size=go at *
   generalize w3.alloc (.cells #[.int .i64 0,.int .i64 0,.slice s tl t,.slice none 0 0] 41)=wo at *
   (with_reducible refine b4.out.mono ?_)
   rintro e o ⟨qa,qc,l,rfl,a4,h5⟩;have e6:=bG a4;have H5:Hid (Lf [cE w V (FM iA B (List.range k)) X Y Q B (vP k),cG _ 3 plC 57 (.slice qa l.length qc) l,cM _ r 67 [V.y,V.d,V.f],cM _ go 41 [.int .i64 0,.int .i64 0,.slice s tl t,.slice none 0 0]] w (fun _=>False) o):=h5;have b5:=d4s a4;have b6:max (0:Int) ((k:Int)-8)=(tl:Int):=by have:=HT.out;omega
   have b7:min (k:Int) 8=(l.length:Int):=by omega
   have z:Hid (l.length=min k 8):=b5;have o2:o.cell? ⟨go,2,none⟩=some (.slice s tl t):=(bX (i:=3) h5 rfl).cell 2;clear h5 a4 b5 b4;go_upto_region 15 with fail
   go_cut [79] (fun s79 wx=>s79 = .bool false∧wx=o)
   case first =>
    go_wp2_with fail
    all_goals
     go_meet;refine⟨?_,rfl⟩;have b8:=z.out
     first|rfl|(simp only[Value.bool.injEq,bne_eq_false_iff_eq];omega)
   case rest =>
   obtain⟨rfl,E⟩:=hcut;rw[E];clear E b6 b7 o2;have A:=bG ((a4b (i:=1) qQ H5.out rfl).rd qQ);go_wp2_with fail
   go_loopw [13] (fun i wr=>∃ j:Nat,j≤l.length∧i = .int .i64 (j:Int)∧wr=o) (fun i _=>l.length-(intOf i).toNat)
   case atStart=>exact⟨0,aS _,rfl,rfl⟩
   case round =>
    obtain⟨j,hj,rfl,d4⟩:=hrel;rw[d4];clear d4;by_cases I:j < l.length
    ·have q0:(j:Int) < (l.length:Int):=by omega
     have L:=e5j e6.out (show j < min k 8 by have:=z.out;omega);obtain⟨a',c',he,-,-,d5⟩:=A.out;injection he with e1 e2 e3;subst e1;clear e2 e3;obtain⟨lb,F,rfl,R⟩:=d5 (by intro h;simp[h] at I);have d0:o.cell? ⟨lb,F+j*3,none⟩=some (.int .i64 ((j:Int)+1)):=by have:=R j I 0 (by omega);rw[L] at this;exact this
     have d1:o.cell? ⟨lb,F+j*3+1,none⟩=some (.int .i64 1):=by have:=R j I 1 (by omega);rw[L] at this;exact this
     have d2:o.cell? ⟨lb,F+j*3+2,none⟩=some (.int .i64 (2+(d.length:Int))):=by
      have:=R j I 2 (by omega);rw[L,show ((B.length:Nat):Int)=2+(d.length:Int) by have:=b.out.2.2;omega] at this;exact this
     have f3:∀ W,(Op.equalIn 10000 57 (.agg #[.int .i64 ((j:Int)+1),.int .i64 1,.int .i64 (2+(d.length:Int))]) (.agg #[.int .i64 ((j:Int)+1),.int .i64 1,.int .i64 (2+(d.length:Int))])).run Tryz.prog W = .ok true W:=fun W=>f0x W _ _ _
     have f4:(j:Int) < 8:=by have:=z.out;omega
     have f5:(d.length:Int)≤100:=by have:=a9.out;omega
     clear L d5 R A;go_wp2_with fail
     go_roundw
     case rel=>exact⟨j+1,I,by go_num,trivial⟩
     case measure=>simp[intOf];omega
    ·have q0:¬ (j:Int) < (l.length:Int):=by omega
     clear A;have b8:=z.out;have M:Hid (0≤(l.length:Int)-1∧(l.length:Int)-1≤7):=by unfold Hid;omega
     have b9:=HG.out;have e7:(l.length:Int)≤8:=by omega
     clear b8;go_wp2_with fail
     (with_reducible refine(a2e g 0 ((l.length:Int)-1) o (by unfold gR at b9;omega) M.out.1 (by omega) (by have:=M.out;omega)).mono ?_)
     rintro e w9 ⟨rfl,rfl⟩;obtain⟨K,hK,G⟩:∃ K:Nat,mA g 0 ((l.length:Int)-1)=(K:Int)∧Hid (K < min k 8):=by
      have:=a5p g 0 ((l.length:Int)-1) M.out.1;have:=z.out;exact⟨(mA g 0 ((l.length:Int)-1)).toNat,by omega,by unfold Hid;omega⟩
     rw[hK];clear hK b9 M e7;have f6:(K:Int) < 8:=by have:=G.out;omega
     have Z:=c3b K (by have:=G.out;omega) o;have h6:Lf [cE w V (FM iA B (List.range k)) X Y Q B (vP k),cM _ r 67 [V.y,V.d,V.f],cM _ go 41 [.int .i64 0,.int .i64 0,.slice s tl t,.slice none 0 0]] w (fun _=>False) (o.alloc (.cells #[.int .u8 (97+(K:Int))] 5)):=oU (eZ H5.out) ((bR.refl [] o).alloc _);have h7:=kS (b5b (d9j K) d9k (eO h6) h6);rw[show (o.alloc (.cells #[.int .u8 (97+(K:Int))] 5)).heap.size=o.heap.size+1 by simp] at h7;have HR:Hid (Calls Tryz.prog 6 #[.pointer (some ⟨r,0,none⟩),.slice (some ⟨o.heap.size+1,0,none⟩) 2 2] ((o.alloc (.cells #[.int .u8 (97+(K:Int))] 5)).alloc (.cells #[.int .i64 5,.int .i64 0,.string (iA K),.string ⟨#[]⟩,.slice none 0 0,.slice none 0 0,.string ⟨#[]⟩,.int .i64 6,.int .i64 0,.string ⟨#[]⟩,.string ⟨#[]⟩,.slice none 0 0,.slice none 0 0,.string ⟨#[]⟩] 35)) fun e w'=>∃ v,e = .returned v∧∃ X Y Q,Lf [cE w V (FM iA B (ms2 k K)) X Y Q B (st2 k K).1,cM _ r 67 [V.y,V.d,V.f],cM _ go 41 [.int .i64 0,.int .i64 0,.slice s tl t,.slice none 0 0]] w (fun _=>False) w'):=e5g p.out G.out ⟨b.out.1,b.out.2.1⟩ (by have:=J.out;omega) b3.out.1 b3.out.2 e5.out (aF _) h7;clear h6 h7 H5;go_wp2_with fail
     clear Z
     (with_reducible refine HR.out.mono ?_)
     rintro e w5 ⟨v5,rfl,n2,N2,K2,h8⟩;have H8:=bG h8;have N:=bG (a3z k p.out K G.out);have U:=bG (a4c N.out.2.2.1 (aF _) b.out.2.1 H8.out);clear h8 HR H8;go_wp2_with fail
     (with_reducible refine U.out.mono ?_)
     rintro e w6 ⟨ra,rc,qs,rfl,d6,h9⟩;have c1:=bG (e5k p.out G.out d6);have h9:=kS h9;have a1:=bG (xK h9);rw[b0.out] at a1;clear h9 d6 U;go_wp2_with fail
     (with_reducible refine a1.out.mono ?_)
     rintro e w7 ⟨rfl,a5⟩;have e8:Hid (Calls Tryz.prog 15 #[.pointer (some ⟨gf,0,none⟩),.int .i64 ((K:Int)+1)] w7 fun e w'=>e = .returned (.int .i64 1)∧bR [] w w'):=by
      have:=dR a5 fun f hf=>e0p N.out.2.2.2.2 N.out.2.2.1 (eO a5) hf
      rw[b0.out] at this;refine Calls.mono this ?_;rintro e w' ⟨_,⟨rfl,rfl⟩,S⟩;exact⟨rfl,c3a S⟩
     have a3:(8 < (k:Int)-1∧(qs.length:Int)=8)∨(¬ 8 < (k:Int)-1∧(qs.length:Int)=(k:Int)-1):=by have:=c1.out;omega
     clear a5 a1 N c1;rcases a3 with⟨hz,f1⟩|⟨hz,f1⟩
     all_goals
      go_wp2_with fail
      (with_reducible refine e8.out.mono ?_)
      rintro e w8 ⟨rfl,S⟩;go_wp2_with fail
      (refine(d9.out w8).mono ?_)
      rintro e f8 ⟨rfl,d7⟩;have c3:=bG (S.seq (b5a d7));clear d7 S;go_wp2_with fail
      go_ret;exact⟨rfl,c3.out⟩
end Go.Proofs.YthgnlfikneipiaaGreat
namespace Go.Proofs.YthgnlfikneipiaaGreat
open Go.RowKit
open Go.Eng (cJ bQ)
theorem c6w (w:World):Calls Tryz.prog 12 #[] w fun e w'=>e = .returned (.bool true)∧cJ (fun _=>False) w w':=by
 have a:@Eng.BD (bQ w.heap.size fQ) []:=b9a;have f:=d4o w;have b:=@Eng.a2a (bQ w.heap.size fQ) [] a;have g:=@Eng.kE (bQ w.heap.size fQ) [] a _ (@Eng.yO (bQ w.heap.size fQ) Tryz.prog [Eng.e3d,Eng.b7p,Eng.d0x,Eng.d0y,Eng.d0z] (fun m c=>by
  simp only[aG,bF,or_false] at c;rcases c with rfl|rfl|rfl|rfl|rfl
  ·exact⟨_,_,b,Eng.e3e⟩
  ·exact⟨_,_,b,Eng.d1a⟩
  ·exact⟨_,_,b,Eng.d6y⟩
  ·exact⟨_,_,b,Eng.d6z⟩
  ·exact⟨_,_,b,Eng.d7a⟩))
 have h:=@Eng.kE (bQ w.heap.size fQ) [] a _ (@Eng.yO (bQ w.heap.size fQ) Tryz.prog [Eng.b7q,Eng.b7r] (fun m c=>by
  simp only[aG,bF,or_false] at c;rcases c with rfl|rfl
  ·exact⟨_,_,b,Eng.d1b⟩
  ·exact⟨_,_,g,Eng.d1c⟩))
 refine(Eng.a2c (us:=[]) h Eng.d7b trivial f).mono ?_;rintro e w' ⟨u,G,O,H,j,rfl,d,-,-,-,-,i,-⟩;have d:some (Value.bool true)=some u:=d;cases d;exact⟨rfl,i⟩
end Go.Proofs.YthgnlfikneipiaaGreat
namespace Go.Proofs.YthgnlfikneipiaaGreat
open Go.RowKit
theorem d4t (w:World) (a0:Int) (w0:gR a0) (a1:Int) (w1:gR a1) (v2:Value) (l2:List UInt8) (w2:eQ w v2 l2) (_:l2.length≤140737488351232) :
  Calls Tryz.prog 4 #[.int .i64 a0,.int .i64 a1,v2] w fun e w'=>e = .returned (.bool true)∧bR [] w w' :=
 a9v c6w w a0 a1 w0 w1 v2 l2 w2
end Go.Proofs.YthgnlfikneipiaaGreat
