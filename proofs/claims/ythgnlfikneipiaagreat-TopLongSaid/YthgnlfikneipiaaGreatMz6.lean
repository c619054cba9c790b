/- Texts of the proof, joined. -/
import Derived.Test.YthgnlfikneipiaaGreatMz5
import Derived.Test.YthgnlfikneipiaaGreatMz4
import Derived.Deep.RegionHeld3
import Derived.Test.YthgnlfikneipiaaGreatMz1
import Derived.Test.YthgnlfikneipiaaGreatRows
import Derived.Lib.AppendZerosOnto
import Derived.Lib.Overlaps
import Derived.Deep.RegionLaw
import Derived.ArgAppend
set_option linter.unusedSimpArgs false
set_option linter.unusedVariables false
set_option linter.unusedSectionVars false
namespace Go.Proofs.YthgnlfikneipiaaGreat
open Go.RowKit
open Go.Eng (Asr UpdP Ck engA plainV EB)
structure Fd where
 kind:Int
 at_:Int
 rule:Int
 caps:C10
instance:Inhabited Fd:=⟨⟨0,0,0,c10z⟩⟩
abbrev fdCells (f:Fd):List Value := .int .i64 f.kind :: .int .i64 f.at_ :: .int .i64 f.rule::f.caps.1.map iv
theorem fdCells_len (f:Fd):(fdCells f).length=13:=by
 have:=f.caps.2
 simp [this]
theorem fdCells_one:∀ x,∀ u∈fdCells x,u.oneCell'=true:=by
 intro x u hu
 simp only [List.mem_cons,List.mem_map] at hu
 rcases hu with rfl|rfl|rfl|⟨c,_,rfl⟩<;>rfl
def capsY (n:Nat):C10:=⟨[0,n,-1,-1,-1,-1,-1,-1,-1,-1],rfl⟩
def stepL (line n:Nat) (c:UInt8):(Nat×Nat)×List Fd :=
 if c=10 then ((line+n+1,0),if n≤200 then [⟨1,line,0,capsY n⟩] else [])
 else ((line,n+1),if n=200 then [⟨2,line,0,c10z⟩] else [])
def nuL (line n:Nat):Nat→Int
 | 0=>line
 | 1=>n
 | _=>0
theorem bd_nu {b line n:Nat} {lo hi:Int} (h1:line≤1073741824) (h2:lo≤n) (h3:(n:Int)≤hi):@Eng.BD (plainV b (nuL line n)) [(0,1073741824),(lo,hi)]:=by
 intro i p h
 match i with
 | 0=>cases h;exact ⟨by show (0:Int)≤(line:Int);omega,by show (line:Int)≤1073741824;omega⟩
 | 1=>cases h;exact ⟨h2,h3⟩
 | _+2=>cases h
def ckOk (n:Nat):Ck→Prop
 | .A | .A2=>n=0
 | .B1=>n=1
 | .B0 | .B2=>1≤n∧n≤200
 | .L | .L2=>200 < n
def strmA (b:Nat) (vr vx:Value) (line n:Nat):Asr b where
 P w F:=∃ c:Ck,ckOk n c∧(engA b (nuL line n) c.H c.n Eng.rS [vr,vx]).P w F
 up:=by
  rintro w w' F S ⟨c,h1,h2⟩ hu hs hb
  exact ⟨c,h1,(engA b (nuL line n) c.H c.n Eng.rS [vr,vx]).up h2 hu hs hb⟩
 lt:=by
  rintro w F ⟨c,h1,h2⟩ x hx
  exact (engA b (nuL line n) c.H c.n Eng.rS [vr,vx]).lt h2 x hx
theorem ck_plain (c:Ck):Eng.plainH c.H=true:=by cases c<;>rfl
theorem rS_plain:Eng.rS.all Eng.plain1=true:=rfl
theorem found_own {b:Nat} {ν:Nat→Int} {w:World} {F:Nat→Prop} {u:Value} {cs:List Eng.AV} {f:Fd} (hA:(engA b ν [(1,.gro 321 13 cs)] 2 [.slc 1 0 1] [u]).P w F) (hc:∀ G:Eng.GM,@Eng.dns (plainV b ν) G cs=some (fdCells f)):OwnN 13 fdCells b 321 w u [f]∧∀ x∈blk u,F x:=by
 letI:Eng.Val:=plainV b ν
 obtain ⟨G,h1,h2,h3,h4⟩:=hA
 obtain ⟨x,k1,k2,k3,k4⟩:=h1.bs 1 _ rfl trivial
 obtain ⟨⟨q1,q2⟩,q3,us,ys,q4,q5,q6,q7⟩:=k4
 rw [hc G] at q4
 cases q4
 obtain ⟨u',r,e1,e2,e3⟩:=Eng.dns_cons.1 h3
 obtain ⟨y,e4,rfl⟩:=Option.map_eq_some_iff.1 (show (G 1).map _=_ from e1)
 rw [k1] at e4;cases e4
 cases e3
 have hlen:=fdCells_len f
 refine ⟨⟨by simp [hlen],.inr ⟨x.g,x.cap,(fdCells f++ys).toArray,by rw [q2];simp,(h4 _ k2).1,q5,?_,q7,by rw [List.size_toArray,List.length_append,q6],?_⟩⟩,fun z hz=>?_⟩
 ·have:13+ys.length=x.cap*13:=by rw [← q6,hlen]
  show 1≤x.cap
  omega
 ·show List.take (1*13) (fdCells f++ys)=List.flatMap fdCells [f]
  rw [List.take_left' (by rw [hlen])];simp
 ·simp [blk] at hz
  rw [hz];exact k2
section
variable {b : Nat} {w : World} {F : Nat → Prop} {vr vx : Value} {line n : Nat}
def ByteOut (b:Nat) (vr vx:Value) (line n:Nat) (w:World) (F:Nat→Prop) (fs:List Fd) (e:Ending) (w':World):Prop :=
 ∃ u F',e = .returned u∧(strmA b vr vx line n).P w' F'∧OwnN 13 fdCells b 321 w' u fs∧UpdP F w w'∧(∀ x,F' x→F x∨w.heap.size≤x)∧∀ x∈blk u,¬ F' x
theorem args_x {line n:Nat} (by_:Int) (G:Eng.GM) (hG:@Eng.dns (plainV b (nuL line n)) G Eng.rS=some [vr,vx]):@Eng.dvl (plainV b (nuL line n)) G [.ptr 2 0,.int .u8 by_] [vx,.int .u8 by_]:=by
 obtain ⟨a,r,e1,e2,e3⟩:=(@Eng.dns_cons (plainV b (nuL line n)) _ _ _ _).1 hG
 obtain ⟨a',r',e4,e5,e6⟩:=(@Eng.dns_cons (plainV b (nuL line n)) _ _ _ _).1 e2
 cases e3;cases e6
 exact ⟨@Eng.dv_of_dn (plainV b (nuL line n)) _ _ _ e4,rfl,trivial⟩
theorem byte_0 {σ0 σ:Eng.Sb} {bd:Eng.Bd} {c c':Ck} {by_:Int} {ρ:List Nat} {line' n':Nat} (ht:Eng.callP (EB bd) 300 167 [.ptr 2 0,.int .u8 by_] (Eng.sbH σ0 c.H) c.n .nils [⟨ρ,Eng.sbH σ c'.H,c'.n,Eng.rS,Eng.rS⟩]=true)
  (hA:(engA b (nuL line n) c.H c.n Eng.rS [vr,vx]).P w F) (hb:b≤w.heap.size) (hbd:@Eng.BD (plainV b (nuL line n)) bd) (h0:Eng.Puts σ0 (nuL line n) (nuL line n)) (h1:Eng.Puts σ (nuL line n) (nuL line' n')) (hok:ckOk n' c') (hg:Eng.noGho (Eng.sbH σ0 c.H)=true) :
  Calls Tryz.prog 167 #[vx,.int .u8 by_] w (ByteOut b vr vx line' n' w F []):=by
 have hA':=Eng.engA_sub' h0 (ck_plain c) rS_plain hA
 refine (Eng.callP_1 (us:=[vx,.int .u8 by_]) (@Eng.EB_ok (plainV b (nuL line n)) bd hbd) ht hA' hg hb (args_x by_)).mono ?_
 rintro e w' ⟨u,G,G0,rfl,k1,k2,k3,k4,k5⟩
 obtain ⟨F',g1,g2⟩:=k4 [vr,vx] (@Eng.dns_mono (plainV b (nuL line n)) _ _ k2 _ _ k3)
 have k1:some (Value.slice none 0 0)=some u:=k1
 cases k1
 exact ⟨_,F',rfl,⟨c',hok,Eng.engA_sub h1 (ck_plain c') rS_plain g1⟩,OwnN.nil _ _ _,k5,g2,fun x hx=>by simp [blk] at hx⟩
theorem byte_1 {σ0 σ:Eng.Sb} {bd:Eng.Bd} {c c':Ck} {by_:Int} {ρ ρ':List Nat} {line' n' k:Nat} {cs:List Eng.AV} {f:Fd} (ht:Eng.callP (EB bd) 300 167 [.ptr 2 0,.int .u8 by_] (Eng.sbH σ0 c.H) c.n (.slc k 0 1) [⟨ρ,Eng.sbH σ c'.H,c'.n,Eng.rS,Eng.rS⟩,⟨ρ',[(1,.gro 321 13 cs)],2,[.slc 1 0 1],[.slc k 0 1]⟩]=true)
  (hA:(engA b (nuL line n) c.H c.n Eng.rS [vr,vx]).P w F) (hb:b≤w.heap.size) (hbd:@Eng.BD (plainV b (nuL line n)) bd) (h0:Eng.Puts σ0 (nuL line n) (nuL line n)) (h1:Eng.Puts σ (nuL line n) (nuL line' n')) (hok:ckOk n' c') (hg:Eng.noGho (Eng.sbH σ0 c.H)=true)
  (hc:∀ G:Eng.GM,@Eng.dns (plainV b (nuL line n)) G cs=some (fdCells f)) :
  Calls Tryz.prog 167 #[vx,.int .u8 by_] w (ByteOut b vr vx line' n' w F [f]):=by
 have hA':=Eng.engA_sub' h0 (ck_plain c) rS_plain hA
 refine (Eng.callP_2 (us:=[vx,.int .u8 by_]) (@Eng.EB_ok (plainV b (nuL line n)) bd hbd) ht hA' hg hb (args_x by_)).mono ?_
 rintro e w' ⟨u,G,G0,rfl,k1,k2,k3,k4,k5⟩
 obtain ⟨F1,F2,g1,g2,g3,g4,g5⟩:=k4 [vr,vx] [u] (@Eng.dns_mono (plainV b (nuL line n)) _ _ k2 _ _ k3) ((@Eng.dns_cons (plainV b (nuL line n)) _ _ _ _).2 ⟨u,[],k1,rfl,rfl⟩)
 obtain ⟨q1,q2⟩:=found_own g2 hc
 exact ⟨_,F1,rfl,⟨c',hok,Eng.engA_sub h1 (ck_plain c') rS_plain g1⟩,q1,k5,g4,fun x hx hq=>g3 x hq (q2 x hx)⟩
theorem puts2 {line n line' n':Nat} {e0 e1:Eng.Lin} (h0:@Eng.Lin.val (plainV 0 (nuL line n)) e0=line') (h1:@Eng.Lin.val (plainV 0 (nuL line n)) e1=n'):Eng.Puts [e0,e1] (nuL line n) (nuL line' n'):=by
 intro i
 match i with
 | 0=>exact h0.symm
 | 1=>exact h1.symm
 | _+2=>rfl
theorem str_byte (h:(strmA b vr vx line n).P w F) (hb:b≤w.heap.size) (hl:line+n≤1000000) (c:UInt8) (hc:c=121∨c=10) :
  Calls Tryz.prog 167 #[vx,.int .u8 c.toNat] w (ByteOut b vr vx (stepL line n c).1.1 (stepL line n c).1.2 w F (stepL line n c).2):=by
 obtain ⟨k,hk,hA⟩:=h
 have e0:@Eng.Lin.val (plainV 0 (nuL line n)) (Eng.lk 0 [(0,1)])=line:=by show (0:Int)+(1*(line:Int)+0)=line;omega
 have e1:∀ c:Int,@Eng.Lin.val (plainV 0 (nuL line n)) (Eng.lk c [(1,1)])=c+n:=fun c=>by show c+(1*(n:Int)+0)=_;omega
 have e2:∀ c:Int,@Eng.Lin.val (plainV 0 (nuL line n)) (Eng.lk c [])=c:=fun c=>by show c+0=_;omega
 have e3:∀ c:Int,@Eng.Lin.val (plainV 0 (nuL line n)) (Eng.lk c [(0,1)])=c+line:=fun c=>by show c+(1*(line:Int)+0)=_;omega
 have e4:∀ c:Int,@Eng.Lin.val (plainV 0 (nuL line n)) (Eng.lk c [(0,1),(1,1)])=c+line+n:=fun c=>by show c+(1*(line:Int)+(1*(n:Int)+0))=_;omega
 rcases hc with rfl|rfl
 ·have hs:stepL line n 121=((line,n+1),if n=200 then [⟨2,line,0,c10z⟩] else []):=rfl
  rw [hs]
  dsimp only
  cases k with
  | A =>
   have hk:n=0:=hk
   rw [if_neg (by omega)]
   exact byte_0 Eng.tr_A_y hA hb (bd_nu (by omega) (by omega) (by omega)) (puts2 e0 (by rw [e1];omega)) (puts2 e0 (by rw [e2];omega)) (by show n+1=1;omega) rfl
  | A2 =>
   have hk:n=0:=hk
   rw [if_neg (by omega)]
   exact byte_0 Eng.tr_A2_y hA hb (bd_nu (by omega) (by omega) (by omega)) (puts2 e0 (by rw [e1];omega)) (puts2 e0 (by rw [e2];omega)) (by show n+1=1;omega) rfl
  | B1 =>
   have hk:n=1:=hk
   rw [if_neg (by omega)]
   exact byte_0 Eng.tr_B1_y hA hb (bd_nu (by omega) (by omega) (by omega)) (puts2 e0 (by rw [e2];omega)) (puts2 e0 (by rw [e2];omega)) (by show 1≤n+1∧n+1≤200;omega) rfl
  | B0 =>
   have hk:1≤n∧n≤200:=hk
   by_cases hn:n=200
   ·rw [if_pos hn]
    exact byte_1 Eng.tr_B0_l hA hb (bd_nu (by omega) (by omega) (by omega)) (puts2 e0 (by rw [e2];omega)) (puts2 e0 (by rw [e2];omega)) (by show 200 < n+1;omega) rfl (fun G=>by simp [Eng.dns,Eng.dn,Eng.i6,Eng.i6s,Eng.L0,Eng.lin,Eng.Lin.val,Eng.valT,nuL,c10z];first|rfl|exact ⟨rfl,rfl⟩)
   ·rw [if_neg hn]
    exact byte_0 Eng.tr_B0_y hA hb (bd_nu (by omega) (by omega) (by omega)) (puts2 e0 (by rw [e1];omega)) (puts2 e0 (by rw [e1];omega)) (by show 1≤n+1∧n+1≤200;omega) rfl
  | B2 =>
   have hk:1≤n∧n≤200:=hk
   by_cases hn:n=200
   ·rw [if_pos hn]
    exact byte_1 Eng.tr_B2_l hA hb (bd_nu (by omega) (by omega) (by omega)) (puts2 e0 (by rw [e2];omega)) (puts2 e0 (by rw [e2];omega)) (by show 200 < n+1;omega) rfl (fun G=>by simp [Eng.dns,Eng.dn,Eng.i6,Eng.i6s,Eng.L0,Eng.lin,Eng.Lin.val,Eng.valT,nuL,c10z];first|rfl|exact ⟨rfl,rfl⟩)
   ·rw [if_neg hn]
    exact byte_0 Eng.tr_B2_y hA hb (bd_nu (by omega) (by omega) (by omega)) (puts2 e0 (by rw [e1];omega)) (puts2 e0 (by rw [e1];omega)) (by show 1≤n+1∧n+1≤200;omega) rfl
  | L =>
   have hk:200 < n:=hk
   rw [if_neg (by omega)]
   exact byte_0 Eng.tr_L_y hA hb (bd_nu (by omega) (by omega) (by omega)) (puts2 e0 (by rw [e1];omega)) (puts2 e0 (by rw [e1];omega)) (by show 200 < n+1;omega) rfl
  | L2 =>
   have hk:200 < n:=hk
   rw [if_neg (by omega)]
   exact byte_0 Eng.tr_L2_y hA hb (bd_nu (by omega) (by omega) (by omega)) (puts2 e0 (by rw [e1];omega)) (puts2 e0 (by rw [e1];omega)) (by show 200 < n+1;omega) rfl
 ·have hs:stepL line n 10=((line+n+1,0),if n≤200 then [⟨1,line,0,capsY n⟩] else []):=rfl
  rw [hs]
  dsimp only
  cases k with
  | A =>
   have hk:n=0:=hk
   subst hk
   exact byte_1 Eng.tr_A_n hA hb (bd_nu (by omega) (by omega) (by omega)) (puts2 e0 (by rw [e1];omega)) (puts2 (by rw [e3];omega) (by rw [e2];omega)) rfl rfl (fun G=>by simp [Eng.dns,Eng.dn,Eng.i6,Eng.i6s,Eng.L0,Eng.lin,Eng.Lin.val,Eng.valT,nuL,capsY];first|rfl|exact ⟨rfl,rfl⟩)
  | A2 =>
   have hk:n=0:=hk
   subst hk
   exact byte_1 Eng.tr_A2_n hA hb (bd_nu (by omega) (by omega) (by omega)) (puts2 e0 (by rw [e1];omega)) (puts2 (by rw [e3];omega) (by rw [e2];omega)) rfl rfl (fun G=>by simp [Eng.dns,Eng.dn,Eng.i6,Eng.i6s,Eng.L0,Eng.lin,Eng.Lin.val,Eng.valT,nuL,capsY];first|rfl|exact ⟨rfl,rfl⟩)
  | B1 =>
   have hk:n=1:=hk
   subst hk
   exact byte_1 Eng.tr_B1_n hA hb (bd_nu (by omega) (by omega) (by omega)) (puts2 e0 (by rw [e2];omega)) (puts2 (by rw [e3];omega) (by rw [e2];omega)) rfl rfl (fun G=>by simp [Eng.dns,Eng.dn,Eng.i6,Eng.i6s,Eng.L0,Eng.lin,Eng.Lin.val,Eng.valT,nuL,capsY];first|rfl|exact ⟨rfl,rfl⟩)
  | B0 =>
   have hk:1≤n∧n≤200:=hk
   rw [if_pos hk.2]
   exact byte_1 Eng.tr_B0_n hA hb (bd_nu (by omega) (by omega) (by omega)) (puts2 e0 (by rw [e1];omega)) (puts2 (by rw [e4];omega) (by rw [e2];omega)) rfl rfl (fun G=>by simp [Eng.dns,Eng.dn,Eng.i6,Eng.i6s,Eng.L0,Eng.L1,Eng.lin,Eng.Lin.val,Eng.valT,nuL,capsY];first|rfl|exact ⟨rfl,rfl⟩)
  | B2 =>
   have hk:1≤n∧n≤200:=hk
   rw [if_pos hk.2]
   exact byte_1 Eng.tr_B2_n hA hb (bd_nu (by omega) (by omega) (by omega)) (puts2 e0 (by rw [e1];omega)) (puts2 (by rw [e4];omega) (by rw [e2];omega)) rfl rfl (fun G=>by simp [Eng.dns,Eng.dn,Eng.i6,Eng.i6s,Eng.L0,Eng.L1,Eng.lin,Eng.Lin.val,Eng.valT,nuL,capsY];first|rfl|exact ⟨rfl,rfl⟩)
  | L =>
   have hk:200 < n:=hk
   rw [if_neg (by omega)]
   exact byte_0 Eng.tr_L_n hA hb (bd_nu (by omega) (by omega) (by omega)) (puts2 e0 (by rw [e1];omega)) (puts2 (by rw [e4];omega) (by rw [e2];omega)) rfl rfl
  | L2 =>
   have hk:200 < n:=hk
   rw [if_neg (by omega)]
   exact byte_0 Eng.tr_L2_n hA hb (bd_nu (by omega) (by omega) (by omega)) (puts2 e0 (by rw [e1];omega)) (puts2 (by rw [e4];omega) (by rw [e2];omega)) rfl rfl
end
end Go.Proofs.YthgnlfikneipiaaGreat
namespace Go.Proofs.YthgnlfikneipiaaGreat
open Go.RowKit
open Go.Eng (Asr UpdP Ck engA plainV EB)
abbrev nu0:Nat→Int:=fun _=>0
def rulesA (b:Nat) (vr:Value):Asr b:=engA b nu0 Eng.hR 8 [.ptr 1 0] [vr]
def two (n:Nat):Bool:=decide (1≤n∧n≤200)
def svT (b:Nat) (ls:Value) (n:Nat):Asr b:=engA b nu0 (Eng.vH (two n)) 3 [.slc 1 0 1] [ls]
def plN (n:Nat):Nat:=if n≤200 then n else 0
def svVal (line n:Nat) (ls:Value):List Value :=
 [.int .i64 ((line+n:Nat):Int),.int .i64 (line:Int),.bool (decide (200 < n)),.bool false,.int .i64 0,.int .i64 0,.slice none 0 0,.slice none 0 0,.int .i64 0,.slice none 0 0,.slice none 0 0,.int .i64 (plN n:Int),ls,.slice none 0 0,.int .i64 0,.slice none 0 0]
theorem puts0 (line n:Nat):Eng.Puts [Eng.lk 0 [],Eng.lk 0 []] (nuL line n) nu0:=by
 intro i
 match i with
 | 0=>rfl
 | 1=>rfl
 | _+2=>rfl
section
variable {b : Nat} {w : World} {F : Nat → Prop} {vr vx ls : Value} {line n : Nat}
theorem rules_to (h:(rulesA b vr).P w F) (line n:Nat):(engA b (nuL line n) Eng.hR 8 [.ptr 1 0] [vr]).P w F:=Eng.engA_sub' (puts0 line n) (by rfl) rfl h
theorem rules_of (h:(engA b (nuL line n) Eng.hR 8 [.ptr 1 0] [vr]).P w F):(rulesA b vr).P w F:=Eng.engA_sub (H:=Eng.hR) (rt:=[.ptr 1 0]) (puts0 line n) (by rfl) rfl h
theorem sv_to (h:(svT b ls n).P w F) (line:Nat):(engA b (nuL line n) (Eng.vH (two n)) 3 [.slc 1 0 1] [ls]).P w F:=by
 have h:(engA b nu0 (Eng.vH (two n)) 3 [.slc 1 0 1] [ls]).P w F:=h
 have e:∀ t,Eng.sbH [Eng.lk 0 [],Eng.lk 0 []] (Eng.vH t)=Eng.vH t:=fun t=>by cases t<;>rfl
 have h1:=Eng.engA_sub' (puts0 line n) (by cases (two n)<;>rfl) rfl h
 rw [e] at h1;exact h1
theorem sv_of (h:(engA b (nuL line n) (Eng.vH (two n)) 3 [.slc 1 0 1] [ls]).P w F):(svT b ls n).P w F:=by
 have e:∀ t,Eng.sbH [Eng.lk 0 [],Eng.lk 0 []] (Eng.vH t)=Eng.vH t:=fun t=>by cases t<;>rfl
 exact Eng.engA_sub (H:=Eng.vH (two n)) (rt:=[.slc 1 0 1]) (puts0 line n) (by cases (two n)<;>rfl) rfl (by rw [e];exact h)
theorem one_dn {b:Nat} {ν:Nat→Int} {G:Eng.GM} {a:Eng.AV} {u:Value} (h:@Eng.dns (plainV b ν) G [a]=some [u]):@Eng.dn (plainV b ν) G a=some u:=by
 obtain ⟨u',r,e1,e2,e3⟩:=(@Eng.dns_cons (plainV b ν) _ _ _ _).1 h
 cases e3;exact e1
theorem dn_one {b:Nat} {ν:Nat→Int} {G:Eng.GM} {a:Eng.AV} {u:Value} (h:@Eng.dn (plainV b ν) G a=some u):@Eng.dns (plainV b ν) G [a]=some [u]:=(@Eng.dns_cons (plainV b ν) _ _ _ _).2 ⟨u,[],h,rfl,rfl⟩
theorem dns_2 {b:Nat} {ν:Nat→Int} {G:Eng.GM} {a c:Eng.AV} {u v:Value} (h:@Eng.dn (plainV b ν) G a=some u) (k:@Eng.dn (plainV b ν) G c=some v):@Eng.dns (plainV b ν) G [a,c]=some [u,v]:=(@Eng.dns_cons (plainV b ν) _ _ _ _).2 ⟨u,_,h,dn_one k,rfl⟩
theorem two_dn {b:Nat} {ν:Nat→Int} {G:Eng.GM} {a c:Eng.AV} {u v:Value} (h:@Eng.dns (plainV b ν) G [a,c]=some [u,v]):@Eng.dn (plainV b ν) G a=some u∧@Eng.dn (plainV b ν) G c=some v:=by
 obtain ⟨u',r,e1,e2,e3⟩:=(@Eng.dns_cons (plainV b ν) _ _ _ _).1 h
 cases e3;exact ⟨e1,one_dn e2⟩
theorem sv_cells (c:Ck) (hk:ckOk n c) {G:Eng.GM} {a:Eng.AV} {ls:Value} (h:@Eng.dn (plainV b (nuL line n)) G a=some ls):@Eng.dv (plainV b (nuL line n)) G (Eng.svA c.at_ Eng.L0 c.pl c.lng a)=some (.agg (svVal line n ls).toArray):=by
 have e1:@Eng.dn (plainV b (nuL line n)) G c.at_=some (.int .i64 ((line+n:Nat):Int)):=by
  cases c<;>first
   | (show some (Value.int .i64 (0+(1*(line:Int)+(1*(n:Int)+0))))=_;congr 2;omega)
   | (have hk:n=0:=hk;show some (Value.int .i64 (0+(1*(line:Int)+0)))=_;congr 2;omega)
 have e2:@Eng.dn (plainV b (nuL line n)) G Eng.L0=some (.int .i64 (line:Int)):=by
  show some (Value.int .i64 (0+(1*(line:Int)+0)))=_;congr 2;omega
 have e3:@Eng.dn (plainV b (nuL line n)) G c.pl=some (.int .i64 (plN n:Int)):=by
  unfold plN
  cases c<;>first
   | (have hk:n=0:=hk;subst hk;rfl)
   | (have hk:200 < n:=hk;rw [if_neg (by omega)];rfl)
   | (have hk:1≤n∧n≤200:=hk;rw [if_pos hk.2];show some (Value.int .i64 (0+(1*(n:Int)+0)))=_;congr 2;omega)
   | (have hk:n=1:=hk;rw [if_pos (by omega)];show some (Value.int .i64 (0+(1*(n:Int)+0)))=_;congr 2;omega)
 have e4:c.lng=decide (200 < n):=by
  cases c<;>first
   | (have hk:n=0:=hk;subst hk;rfl)
   | (have hk:n=1:=hk;subst hk;rfl)
   | (have hk:200 < n:=hk;exact (decide_eq_true hk).symm)
   | (have hk:1≤n∧n≤200:=hk;exact (decide_eq_false (by omega)).symm)
 show Option.map _ (@Eng.dns (plainV b (nuL line n)) G _)=_
 simp only [Eng.dns,e1,e2,e3,h,e4]
 rfl
theorem ck_two {c:Ck} (hk:ckOk n c):c.two=two n:=by
 unfold two
 cases c<;>first
  | (have hk:n=0:=hk;subst hk;rfl)
  | (have hk:n=1:=hk;subst hk;rfl)
  | (have hk:200 < n:=hk;exact (decide_eq_false (by omega)).symm)
  | (have hk:1≤n∧n≤200:=hk;exact (decide_eq_true hk).symm)
def StOut (b:Nat) (vr vx:Value) (line n:Nat) (w:World) (F:Nat→Prop) (e:Ending) (w':World):Prop :=
 ∃ ls F1 F2,e = .returned (.agg (svVal line n ls).toArray)∧(strmA b vr vx line n).P w' F1∧(svT b ls n).P w' F2∧(∀ x,F1 x→¬ F2 x)∧UpdP F w w'∧(∀ x,F1 x→F x∨w.heap.size≤x)∧∀ x,F2 x→F x∨w.heap.size≤x
theorem lgSt_any {bd:Eng.Bd} {c:Ck} {a:Eng.AV} {ρ ρ':List Nat} {lg t:Bool} (ht:Eng.callP (EB bd) 300 47 [.ptr 2 0] c.H c.n (Eng.svA c.at_ Eng.L0 c.pl lg a) [⟨ρ,c.H,c.n,Eng.rS,Eng.rS⟩,⟨ρ',Eng.vH t,3,[.slc 1 0 1],[a]⟩]=true)
  (hA:(engA b (nuL line n) c.H c.n Eng.rS [vr,vx]).P w F) (hb:b≤w.heap.size) (hbd:@Eng.BD (plainV b (nuL line n)) bd) (hok:ckOk n c) (hg:Eng.noGho c.H=true) (h1:lg=c.lng) (h2:t=c.two) :
  Calls Tryz.prog 47 #[vx] w (StOut b vr vx line n w F):=by
 subst h1;subst h2
 refine (Eng.callP_2 (us:=[vx]) (@Eng.EB_ok (plainV b (nuL line n)) bd hbd) ht hA hg hb (fun G hG=>⟨@Eng.dv_of_dn (plainV b (nuL line n)) _ _ _ (two_dn hG).2,trivial⟩)).mono ?_
 rintro e w' ⟨u,G,G0,rfl,k1,k2,k3,k4,k5⟩
 obtain ⟨us,hus,rfl⟩:=Option.map_eq_some_iff.1 (show Option.map _ (@Eng.dns (plainV b (nuL line n)) G _)=_ from k1)
 obtain ⟨ls,l1,l2⟩:=@Eng.dns_nth (plainV b (nuL line n)) G _ us 12 a hus rfl
 have:=sv_cells c hok l2
 rw [k1] at this
 obtain ⟨F1,F2,g1,g2,g3,g4,g5⟩:=k4 [vr,vx] [ls] (@Eng.dns_mono (plainV b (nuL line n)) _ _ k2 _ _ k3) (dn_one l2)
 rw [ck_two hok] at g2
 exact ⟨ls,F1,F2,by rw [Option.some.inj this],⟨c,hok,g1⟩,sv_of g2,g3,k5,g4,g5⟩
theorem str_state (h:(strmA b vr vx line n).P w F) (hb:b≤w.heap.size) (hl:line+n≤1000000):Calls Tryz.prog 47 #[vx] w (StOut b vr vx line n w F):=by
 obtain ⟨k,hk,hA⟩:=h
 cases k with
 | A=>have hn:n=0:=hk;exact lgSt_any Eng.tr_st_A hA hb (bd_nu (by omega) (by omega) (by omega)) hk rfl rfl rfl
 | A2=>have hn:n=0:=hk;exact lgSt_any Eng.tr_st_A2 hA hb (bd_nu (by omega) (by omega) (by omega)) hk rfl rfl rfl
 | B0=>have hn:1≤n∧n≤200:=hk;exact lgSt_any Eng.tr_st_B0 hA hb (bd_nu (by omega) (by omega) (by omega)) hk rfl rfl rfl
 | B1=>have hn:n=1:=hk;exact lgSt_any Eng.tr_st_B1 hA hb (bd_nu (by omega) (by omega) (by omega)) hk rfl rfl rfl
 | B2=>have hn:1≤n∧n≤200:=hk;exact lgSt_any Eng.tr_st_B2 hA hb (bd_nu (by omega) (by omega) (by omega)) hk rfl rfl rfl
 | L=>have hn:200 < n:=hk;exact lgSt_any Eng.tr_st_L hA hb (bd_nu (by omega) (by omega) (by omega)) hk rfl rfl rfl
 | L2=>have hn:200 < n:=hk;exact lgSt_any Eng.tr_st_L2 hA hb (bd_nu (by omega) (by omega) (by omega)) hk rfl rfl rfl
theorem str_new (h:(rulesA b vr).P w F) (hb:b≤w.heap.size):Calls Tryz.prog 109 #[vr] w fun e w'=>∃ vx F1 F2,e = .returned (.tuple #[vx,.int .i64 0])∧(∃ g,vx = .pointer (some ⟨g,0,none⟩))∧(rulesA b vr).P w' F1∧(strmA b vr vx 0 0).P w' F2∧(∀ x,F1 x→¬ F2 x)∧UpdP F w w'∧(∀ x,F1 x→F x∨w.heap.size≤x)∧∀ x,F2 x→F x∨w.heap.size≤x:=by
 have hA:=rules_to h 0 0
 refine (Eng.callP_2 (us:=[vr]) (@Eng.EB_ok (plainV b (nuL 0 0)) [] (fun i p q=>by cases i<;>cases q)) Eng.tr_new hA rfl hb (fun G hG=>⟨@Eng.dv_of_dn (plainV b (nuL 0 0)) _ _ _ (one_dn hG),trivial⟩)).mono ?_
 rintro e w' ⟨u,G,G0,rfl,k1,k2,k3,k4,k5⟩
 obtain ⟨us,hus,rfl⟩:=Option.map_eq_some_iff.1 (show Option.map _ (@Eng.d2s (plainV b (nuL 0 0)) G _)=_ from k1)
 obtain ⟨vx,l1,l2⟩:=@Eng.d2s_nth (plainV b (nuL 0 0)) G _ 0 _ us rfl hus
 have l2:@Eng.dn (plainV b (nuL 0 0)) G (.ptr 38 0)=some vx:=l2
 obtain ⟨y,hy,hvx⟩:=Option.map_eq_some_iff.1 (show Option.map _ (G 38)=some vx from l2)
 have hus2:us=[vx,.int .i64 0]:=by
  simp only [Eng.d2s,Option.bind_eq_some_iff,Option.map_eq_some_iff] at hus
  obtain ⟨a,e1,r,⟨c,e2,r',e3,rfl⟩,rfl⟩:=hus
  cases e3
  have e2:some (Value.int .i64 0)=some c:=e2
  cases e2
  simp at l1
  rw [l1]
 obtain ⟨F1,F2,g1,g2,g3,g4,g5⟩:=k4 [vr] [vr,vx] (@Eng.dns_mono (plainV b (nuL 0 0)) _ _ k2 _ _ k3) (dns_2 (@Eng.dn_mono (plainV b (nuL 0 0)) _ _ k2 _ _ (one_dn k3)) l2)
 refine ⟨vx,F1,F2,by rw [hus2],⟨y.g,hvx.symm⟩,rules_of g1,⟨.A,rfl,Eng.engA_sub (puts2 (line:=0) (n:=0) rfl rfl) (ck_plain .A) rS_plain g2⟩,g3,k5,g4,g5⟩
theorem lgOf_any {F2:Nat→Prop} {bd:Eng.Bd} {c:Ck} {k:Nat} {ρ:List Nat} {lg t:Bool} (ht:Eng.callP (EB bd) 300 46 [.ptr 1 0,Eng.svA c.at_ Eng.L0 c.pl lg (.slc 9 0 1)] (Eng.hR++Eng.shH 8 (Eng.vH t)) 11 (.tup [.ptr k 0,.int .i64 0]) [⟨List.range 8,Eng.hR,8,[.ptr 1 0],[.ptr 1 0]⟩,⟨[0,9,10],Eng.vH t,3,[.slc 1 0 1],[.slc 9 0 1]⟩,⟨ρ,c.H,c.n,Eng.rS,[.ptr 1 0,.ptr k 0]⟩]=true)
  (h:(rulesA b vr).P w F) (hs:(svT b ls n).P w F2) (hd:∀ x,F x→¬ F2 x) (hb:b≤w.heap.size) (hbd:@Eng.BD (plainV b (nuL line n)) bd) (hok:ckOk n c) (h1:lg=c.lng) (h2:t=c.two) :
  Calls Tryz.prog 46 #[vr,.agg (svVal line n ls).toArray] w fun e w'=>∃ vx F1 F3 F4,e = .returned (.tuple #[vx,.int .i64 0])∧(∃ g,vx = .pointer (some ⟨g,0,none⟩))∧(rulesA b vr).P w' F1∧(svT b ls n).P w' F3∧(strmA b vr vx line n).P w' F4∧(∀ x,F1 x→¬ F3 x)∧(∀ x,F1 x→¬ F4 x)∧(∀ x,F3 x→¬ F4 x)∧UpdP (fun x=>F x∨F2 x) w w'∧(∀ x,F1 x→(F x∨F2 x)∨w.heap.size≤x)∧(∀ x,F3 x→(F x∨F2 x)∨w.heap.size≤x)∧∀ x,F4 x→(F x∨F2 x)∨w.heap.size≤x:=by
 subst h1;subst h2
 have hA:=rules_to h line n
 have hV:=sv_to hs line
 rw [← ck_two hok] at hV
 obtain ⟨G1,s1,r1⟩:=Eng.engA_sat hA rfl hb
 obtain ⟨G2,s2,r2⟩:=Eng.engA_sat hV (by cases c.two<;>rfl) hb
 have hj:=@Eng.Sat.join (plainV b (nuL line n)) G1 G2 8 w F F2 _ _ 3 s1 s2 hd (by cases c.two<;>rfl)
 have hr:=one_dn r1
 have hv:=one_dn r2
 have hr':@Eng.dn (plainV b (nuL line n)) (Eng.joinG G1 8 G2) (.ptr 1 0)=some vr:=by
  have e:Eng.joinG G1 8 G2 1=G1 1:=rfl
  show Option.map _ (Eng.joinG G1 8 G2 1)=_
  rw [e];exact hr
 have hv':@Eng.dn (plainV b (nuL line n)) (Eng.joinG G1 8 G2) (.slc 9 0 1)=some ls:=by
  have:=@Eng.dn_sh (plainV b (nuL line n)) G1 G2 8 (.slc 1 0 1)
  rw [hv] at this;exact this
 refine (Eng.callP_3 (us:=[vr,.agg (svVal line n ls).toArray]) (@Eng.EB_ok (plainV b (nuL line n)) bd hbd) ht hj ⟨@Eng.dv_of_dn (plainV b (nuL line n)) _ _ _ hr',sv_cells c hok hv',trivial⟩).mono ?_
 rintro e w' ⟨u,G,rfl,k1,k2,k4,k5⟩
 obtain ⟨us,hus,rfl⟩:=Option.map_eq_some_iff.1 (show Option.map _ (@Eng.d2s (plainV b (nuL line n)) G _)=_ from k1)
 obtain ⟨vx,l1,l2⟩:=@Eng.d2s_nth (plainV b (nuL line n)) G _ 0 _ us rfl hus
 have l2:@Eng.dn (plainV b (nuL line n)) G (.ptr k 0)=some vx:=l2
 obtain ⟨y,hy,hvx⟩:=Option.map_eq_some_iff.1 (show Option.map _ (G k)=some vx from l2)
 have hus2:us=[vx,.int .i64 0]:=by
  simp only [Eng.d2s,Option.bind_eq_some_iff,Option.map_eq_some_iff] at hus
  obtain ⟨a,e1,r,⟨c,e2,r',e3,rfl⟩,rfl⟩:=hus
  cases e3
  have e2:some (Value.int .i64 0)=some c:=e2
  cases e2
  simp at l1
  rw [l1]
 have hr2:=@Eng.dn_mono (plainV b (nuL line n)) _ _ k2 _ _ hr'
 obtain ⟨F1,F3,F4,g1,g2,g3,g4,g5,g6,g7,g8,g9⟩:=k4 [vr] [ls] [vr,vx] (dn_one hr2) (dn_one (@Eng.dn_mono (plainV b (nuL line n)) _ _ k2 _ _ hv')) (dns_2 hr2 l2)
 rw [ck_two hok] at g2
 exact ⟨vx,F1,F3,F4,by rw [hus2],⟨y.g,hvx.symm⟩,rules_of g1,sv_of g2,⟨c,hok,g3⟩,g4,g5,g6,k5,g7,g8,g9⟩
end
end Go.Proofs.YthgnlfikneipiaaGreat
namespace Go.Proofs.YthgnlfikneipiaaGreat
open Go.RowKit
abbrev Ch:=Int×ByteArray
def encCh (c:Ch):List UInt8:=encNum c.1.toNat++encText c.2
def encChs (l:List Ch):List UInt8:=encNum l.length++l.flatMap encCh
structure ChOk (c:Ch):Prop where
 lo:0≤c.1
 hi:c.1≤40
 sz:c.2.size≤262144
theorem encNum_ge (n:Nat):1≤(encNum n).length:=by rw [encNum_len];omega
theorem encText_len (s:ByteArray):(encText s).length=(encNum s.size).length+s.size:=by
 unfold encText
 rw [List.length_append]
 have:s.data.toList.length=s.size:=by rw [Array.length_toList];rfl
 omega
end Go.Proofs.YthgnlfikneipiaaGreat
namespace Go.Proofs.YthgnlfikneipiaaGreat
open Go.RowKit
abbrev chCells (c:Ch):List Value:=[.int .i64 c.1,sv c.2]
theorem chCells_len:∀ x,(chCells x).length=2:=fun _=>rfl
theorem encCh_le (k:Int) (d:ByteArray) (hk:I64 k) (hd:d.size≤1000000):(encCh (k,d)).length≤18+d.size:=by
 have h1:=nb_le8 k.toNat (by have:=hk.2;omega)
 have h2:=nb_le8 d.size (by omega)
 have h3:=encText_len d
 have h4:=encNum_len k.toNat
 have h5:=encNum_len d.size
 unfold encCh
 rw [List.length_append]
 dsimp only
 omega
set_option maxRecDepth 20000 in
set_option maxHeartbeats 2000000 in
theorem chPut_any (v:Value) (l:List UInt8) (k:Int) (d:ByteArray) (w:World) (h:Bytes w v l) (hz:l.length≤70000000000) (hk:I64 k) (hd:d.size≤1000000) :
  Calls Tryz.prog 188 #[v,.agg #[.int .i64 k,.string d]] w fun e w'=>∃ x,e = .returned x∧Own bv w.heap.size 5 w' x (l++encCh (k,d))∧Upd [] w w':=by
 have hu0:Upd [] w (w.alloc (.cells #[.int .i64 k,.string d] 190)):=(Upd.refl [] w).alloc _
 have HU0:=Lib.hid hu0
 have HB:Hid (Blk (w.alloc (.cells #[.int .i64 k,.string d] 190)) w.heap.size 190 [.int .i64 k,.string d]):=Blk.new w _ [.int .i64 k,.string d]
 have H:=Lib.hid (h.upd0 hu0)
 obtain ⟨a,cap,rfl,-⟩:=h
 have h8:=nb_le8 k.toNat (by have:=hk.2;omega)
 have hel:=encNum_len k.toNat
 have hln:(l++encNum k.toNat).length=l.length+(1+nb k.toNat):=by rw [List.length_append,hel]
 have HE:Hid (l++encCh (k,d)=(l++encNum k.toNat)++encText d):=by unfold Hid encCh;rw [List.append_assoc]
 have HK:=Lib.hid hk
 obtain ⟨l2,hl2⟩:∃ l2,l++encNum k.toNat=l2:=⟨_,rfl⟩
 rw [hl2] at hln HE
 have HL2:=Lib.hid hl2
 have HLN:Hid (l2.length≤80000000000):=by unfold Hid;omega
 have HLL:Hid (l.length≤90000000000):=by unfold Hid;omega
 have HD:Hid (d.size≤10000000000):=by unfold Hid;omega
 clear hu0 hk hd h8 hel hln hl2 hz
 go_enter Tryz.func188,Tryz.ntmps188
 go_wp2_with fail
 generalize w.alloc (.cells #[.int .i64 k,.string d] 190)=w1 at *
 have hsz:=HU0.out.size
 have d0:=HB.out.cell 0
 have d1:=HB.out.cell 1
 simp only [List.getElem?_cons_zero,List.getElem?_cons_succ] at d0 d1
 have D0:=Lib.hid d0
 have D1:=Lib.hid d1
 have HC1:Hid (∀ W,Upd [] w1 W→Calls Tryz.prog 123 #[.slice a l.length cap,.int .i64 k] W fun e w'=>∃ x,e = .returned x∧Hid (Own bv w.heap.size 5 w' x l2)∧Upd [] w1 w'):=fun W hW=>by
  refine (fNum_any _ l k W (H.out.upd0 hW) HLL.out HK.out).mono ?_
  rw [HL2.out]
  rintro e w' ⟨x,rfl,ho,hu⟩
  exact ⟨x,rfl,ho.base_le (Nat.le_trans hsz hW.size),hW.seq hu⟩
 have HC2:Hid (∀ W x,Own bv w.heap.size 5 W x l2→Upd [] w1 W→Calls Tryz.prog 121 #[x,.string d] W fun e w'=>∃ x,e = .returned x∧Hid (Own bv w.heap.size 5 w' x (l2++encText d))∧Upd [] w1 w'):=fun W x ho hW=>by
  refine (fText_any x l2 d W ho.rd HLN.out HD.out).mono ?_
  rintro e w' ⟨y,rfl,ho2,hu⟩
  exact ⟨y,rfl,ho2.base_le (Nat.le_trans hsz hW.size),hW.seq hu⟩
 have ru:=Upd.refl [] w1
 clear hsz
 go_region_held3 (fun W=>W.cell? ⟨w.heap.size,0,none⟩=some (.int .i64 k)∧W.cell? ⟨w.heap.size,1,none⟩=some (.string d)) (first|go_keep|exact ⟨ru.cell D0.out (by simp),ru.cell D1.out (by simp)⟩)
  (first
   | (go_at_call 123;(with_reducible refine (HC1.out _ (Upd.seq ru ?_)).mono ?_);(repeat (first|exact Upd.refl _ _|apply Upd.drew|apply Upd.drewN|apply Upd.alloc));(rintro _ W1 ⟨x1,rfl,ho1,ru⟩;dsimp only))
   | (go_at_call 121;(with_reducible refine (HC2.out _ x1 (Own.upd (S:=[]) ho1.out ?_ (by simp)) (Upd.seq ru ?_)).mono ?_);(repeat (first|exact Upd.refl _ _|apply Upd.drew|apply Upd.drewN|apply Upd.alloc));(rintro _ W2 ⟨x2,rfl,ho2,ru⟩;dsimp only)))
 all_goals
  have HO:=Lib.hid (show Own bv w.heap.size 5 W2 x2 (l2++encText d) from ho2.out)
  have HF:=Lib.hid (HU0.out.seq ru)
  clear ru HC1 HC2 ho1 ho2
  go_wp2_with fail
  go_ret
  exact ⟨_,rfl,by rw [HE.out];exact HO.out,HF.out⟩
theorem flat_le:∀ (l:List Ch),(∀ c∈l,I64 c.1∧c.2.size≤1000000)→(l.flatMap encCh).length≤1000018*l.length
 | [],_=>by simp
 | c::l,h=>by
  have h1:=encCh_le c.1 c.2 (h c (by simp)).1 (h c (by simp)).2
  have h2:=flat_le l (fun x hx=>h x (by simp [hx]))
  have h3:=(h c (by simp)).2
  rw [List.flatMap_cons,List.length_append,List.length_cons]
  have:(encCh c).length≤18+c.2.size:=h1
  omega
set_option maxRecDepth 20000 in
set_option maxHeartbeats 2000000 in
theorem chList_any (u:Value) (ns:List Ch) (w:World) (h2:RdN 2 chCells w u ns) (hn:∀ c∈ns,I64 c.1∧c.2.size≤1000000) (hz2:ns.length≤1000) :
  Calls Tryz.prog 187 #[.slice none 0 0,u,.func (.func 188) #[] #[]] w fun e w'=>∃ x,e = .returned x∧Own bv w.heap.size 5 w' x (encChs ns)∧Upd [] w w':=by
 obtain ⟨a2,cap2,rfl,hlc,hm,hc⟩:=h2
 have HC:=Lib.hid hc
 have HN:=Lib.hid hn
 have HFL:=Lib.hid (fun k=>flat_le (ns.take k) (fun c hc=>hn c (List.mem_of_mem_take hc)))
 clear hc hn hm hlc
 go_enter Tryz.func187,Tryz.ntmps187
 go_wp2_with fail
 (with_reducible refine (fNum_any _ [] (ns.length:Int) _ (Rd.nil w) (by simp) (i64_mk (by omega) (by omega))).mono ?_)
 rintro e w1 ⟨v1,rfl,ho1,hu1⟩
 have HO1:=Lib.hid ho1
 have HU1:=Lib.hid hu1
 clear ho1 hu1
 rw [Int.toNat_natCast,List.nil_append] at HO1
 go_wp2_with fail
 have h8:=nb_le8 ns.length (by omega)
 have hen:=encNum_len ns.length
 have HFIN:Hid (encChs ns=encNum ns.length++(ns.take ns.length).flatMap encCh):=by unfold Hid encChs;rw [List.take_length]
 generalize encNum ns.length=l1 at *
 go_loopw [7,9,16] (fun b y i wr=>∃ (k:Nat) (c:List UInt8),i = .int .i64 (k:Int)∧k≤ns.length∧c=l1++(ns.take k).flatMap encCh∧c.length≤9+1000018*k∧Hid (Own bv w.heap.size 5 wr b c)∧Hid (Upd [] w wr)) (fun _ _ i _=>ns.length-(intOf i).toNat)
 case atStart=>exact ⟨0,l1,rfl,Nat.zero_le _,by simp,by omega,HO1,HU1⟩
 case round =>
  obtain ⟨k,c,rfl,hk,hce,hcl,hob,hu⟩:=hrel
  have HCE:=Lib.hid hce
  clear hce
  by_cases hlt:k < ns.length
  ·obtain ⟨b,off,rfl,hc⟩:=HC.out (by intro e;rw [e] at hlt;simp at hlt)
   have hca:∀ i,i < 2→wr.cell? ⟨b,off+(k*2+i),none⟩=(chCells (nth ns k))[i]?:=fun i hi=>by
    have h1:=hc k hlt i hi
    have h2:i < (chCells (nth ns k)).length:=hi
    rw [List.getElem?_eq_getElem h2] at h1 ⊢
    exact hu.out.cell h1 (by simp)
   have hin:=HN.out (nth ns k) (by rw [nth_get ns k hlt];exact List.getElem_mem hlt)
   have HST:Hid (c++encCh (nth ns k)=l1++(ns.take (k+1)).flatMap encCh):=by
    unfold Hid;rw [HCE.out,List.take_succ_eq_append_getElem hlt,List.flatMap_append,nth_get ns k hlt];simp
   generalize nth ns k=x at *
   obtain ⟨sk,sd⟩:=x
   dsimp only at hin
   have hcl2:=encCh_le sk sd hin.1 hin.2
   have hcl3:(c++encCh (sk,sd)).length=c.length+(encCh (sk,sd)).length:=List.length_append
   have c0:wr.cell? ⟨b,off+k*2,none⟩=some (.int .i64 sk):=hca 0 (by omega)
   have c1:wr.cell? ⟨b,off+k*2+1,none⟩=some (.string sd):=hca 1 (by omega)
   have HLE:Hid ((c++encCh (sk,sd)).length≤9+1000018*(k+1)):=by have:=hin.2;unfold Hid;omega
   have HIN:=Lib.hid hin
   have HI1:Hid (I64 sk):=hin.1
   have HU:=Lib.hid hu.out
   have HOB:=Lib.hid hob.out
   clear hc hca hin hcl2 hcl3 hu hob
   have q0:(0:Int)≤k:=by omega
   have q1:(k:Int) < ns.length:=by omega
   obtain ⟨ba,bk,rfl,-⟩:=id HOB.out.rd
   go_wp2_with fail
   have hu5:Upd [] wr (wr.alloc (.cells #[.int .i64 sk,.string sd] 190)):=(Upd.refl [] wr).alloc _
   have HU5:=Lib.hid (HU.out.seq hu5)
   have HO5:=Lib.hid (HOB.out.upd hu5 (by simp))
   clear hu5 HOB
   (with_reducible refine (chPut_any _ c sk sd _ HO5.out.rd (by omega) HI1.out HIN.out.2).mono ?_)
   rintro e w2 ⟨v2,rfl,ho2,hu2⟩
   have HO2:=Lib.hid (ho2.base_le HU5.out.size)
   have HU2:=Lib.hid (HU5.out.seq hu2)
   clear ho2 hu2
   go_wp2_with fail
   go_roundw
   case rel=>exact ⟨k+1,_,by go_num,by omega,HST.out,HLE.out,HO2,HU2⟩
   case measure=>simp [intOf];omega
  ·obtain rfl:k=ns.length:=by omega
   have HF:Hid (c=encChs ns):=by unfold Hid;rw [HFIN.out,HCE.out]
   go_wp2_with fail
   go_ret
   exact ⟨_,rfl,by rw [← HF.out];exact hob.out,hu.out⟩
theorem payload_any (u:Value) (ns:List Ch) (w:World) (h2:RdN 2 chCells w u ns) (hn:∀ c∈ns,I64 c.1∧c.2.size≤1000000) (hz2:ns.length≤1000) :
  Calls Tryz.prog 127 #[u] w fun e w'=>∃ x,e = .returned x∧Own bv w.heap.size 5 w' x (encChs ns)∧Upd [] w w':=by
 have H2:=Lib.hid h2
 have HN:=Lib.hid hn
 obtain ⟨a2,cap2,rfl,-⟩:=h2
 clear hn
 go_enter Tryz.func127,Tryz.ntmps127
 go_wp2_with fail
 (with_reducible refine (chList_any _ ns _ H2.out HN.out hz2).mono ?_)
 rintro e w1 ⟨v1,rfl,ho1,hu1⟩
 have HO:=Lib.hid ho1
 have HU:=Lib.hid hu1
 clear ho1 hu1
 go_wp2_with fail
 go_ret
 exact ⟨_,rfl,HO.out,HU.out⟩
end Go.Proofs.YthgnlfikneipiaaGreat
namespace Go.Proofs.YthgnlfikneipiaaGreat
open Go.RowKit
theorem run_cut {P:Program} {t e:TypeId} {size:Nat} (ht:P.underlying t=some (.slice e)) (hi:(P.info? e).map (·.size)=some size) (a:Option Addr) (n cap k:Nat) (hk:k≤n) (W:World) :
  (Instr.slice t (.slice a n cap) (some (.int .i64 (k:Int))) none none).run P W = .ok (.slice (if cap=k then a else a.map (·.add (k*size))) (n-k) (cap-k)) W:=by
 have he:P.elem t=e:=by simp [Program.elem,ht]
 obtain ⟨i,h1,h2⟩:∃ i,P.info? e=some i∧i.size=size:=by
  cases hq:P.info? e with
  | none=>simp [hq] at hi
  | some i=>exact ⟨i,rfl,by simpa [hq] using hi⟩
 rw [run_slice_l (P:=P) (w:=W) t a n cap (by rw [he];exact ht) .i64 (k:Int) (by omega) (by omega),he]
 simp [sizeOf,typeInfo,h1,h2,sliced]
theorem run_cut_h {P:Program} {t e:TypeId} {size:Nat} (ht:P.underlying t=some (.slice e)) (hi:(P.info? e).map (·.size)=some size) (a:Option Addr) (n cap k:Nat) (hk:k≤cap) (W:World) :
  (Instr.slice t (.slice a n cap) none (some (.int .i64 (k:Int))) none).run P W = .ok (.slice a k cap) W:=by
 have he:P.elem t=e:=by simp [Program.elem,ht]
 obtain ⟨i,h1,h2⟩:∃ i,P.info? e=some i∧i.size=size:=by
  cases hq:P.info? e with
  | none=>simp [hq] at hi
  | some i=>exact ⟨i,rfl,by simpa [hq] using hi⟩
 rw [run_slice_h (P:=P) (w:=W) t a n cap (by rw [he];exact ht) .i64 (k:Int) (by omega) (by omega),he]
 simp [sizeOf,typeInfo,h1,h2,sliced]
 intro _
 cases a with
 | none=>rfl
 | some x=>obtain ⟨b,off,arr⟩:=x;simp only [Option.map_some,Addr.add];cases arr<;>simp
theorem run_cut_hm {P:Program} {t e:TypeId} {size:Nat} (ht:P.underlying t=some (.slice e)) (hi:(P.info? e).map (·.size)=some size) (a:Option Addr) (n cap m:Nat) (hm:m≤cap) (W:World) :
  (Instr.slice t (.slice a n cap) none (some (.int .i64 (m:Int))) (some (.int .i64 (m:Int)))).run P W = .ok (.slice a m m) W:=by
 have he:P.elem t=e:=by simp [Program.elem,ht]
 obtain ⟨i,h1,h2⟩:∃ i,P.info? e=some i∧i.size=size:=by
  cases hq:P.info? e with
  | none=>simp [hq] at hi
  | some i=>exact ⟨i,rfl,by simpa [hq] using hi⟩
 rw [run_slice_hm (P:=P) (w:=W) t a n cap (by rw [he];exact ht) .i64 .i64 (m:Int) (m:Int) (by omega) (by omega) (by omega),he]
 simp [sizeOf,typeInfo,h1,h2,sliced]
 intro _
 cases a with
 | none=>rfl
 | some x=>obtain ⟨b,off,arr⟩:=x;simp only [Option.map_some,Addr.add];cases arr<;>simp
end Go.Proofs.YthgnlfikneipiaaGreat
namespace Go.Proofs.YthgnlfikneipiaaGreat
open Go.RowKit
structure Wx (w:World) where
 val:World
 prop:Upd [] w val
instance (w:World):Inhabited (Wx w):=⟨⟨w,Upd.refl [] w⟩⟩
section
variable {P : Program} {w : World} {x : Wx w} {f : FuncId} {args : Array Value} {v : Value}
end
end Go.Proofs.YthgnlfikneipiaaGreat
namespace Go.Proofs.YthgnlfikneipiaaGreat
open Go.RowKit
theorem flatMap_at {α:Type} [Inhabited α] {sz:Nat} {c:α→List Value} (hsz:∀ x,(c x).length=sz) (hpos:0 < sz) (l:List α) (k:Nat) (u:Value) (h:(l.flatMap c)[k]?=some u) :
  k / sz < l.length∧(c (nth l (k / sz)))[k % sz]?=some u:=by
 have hk:=(List.getElem?_eq_some_iff.1 h).1
 rw [flatMap_len hsz] at hk
 have h1:k / sz < l.length:=Nat.div_lt_of_lt_mul (by rw [Nat.mul_comm];exact hk)
 refine ⟨h1,?_⟩
 have h2:=flatMap_get hsz l (k / sz) (k % sz) h1 (Nat.mod_lt _ hpos)
 rw [Nat.mul_comm,Nat.div_add_mod] at h2
 rw [← h2,h]
theorem Blk.fresh {w W:World} {C:Array Value} {xs:List Value} {e:TypeId} {g:Nat} (hg:g=w.heap.size) (hC:C=xs.toArray) (hu:Upd [] (w.alloc (.cells C e)) W):Blk W g e xs:=by
 subst hg;subst hC;exact (Blk.new w e xs).upd hu (by simp)
section
variable {P : Program} {ops : Array Oper} {rest : List Oper} {o : Oper} {a : Act} {w w' : World} {Q : Exit → Act → World → Prop} {K : Act → World → Prop} {E : Prop}
theorem run_appN {α:Type} [Inhabited α] {sz:Nat} {c:α→List Value} (hsz:∀ x,(c x).length=sz) (hpos:0 < sz) (hone:∀ x,∀ u∈c x,u.oneCell'=true) {t ty e:TypeId}
  {z:Value} {bytes base:Nat} (ht:P.underlying t=some (.slice e)) (hi:(P.info? e).map (fun i=>(i.zero,i.size,i.bytes))=some (some z,sz,bytes)) (hz:z.cells.size=sz)
  (v u:Value) (l m:List α) (hv:OwnN sz c base e w v l) (hu:RdN sz c w u m) (hb:(l.length+m.length)*bytes≤140737488355328) (hl:l.length+m.length≤maxLen) (hbase:base≤w.heap.size) :
  ∃ v' w',(Builtin.append_ #[t,t] ty #[v,u]).run P w = .ok v' w'∧OwnN sz c base e w' v' (l++m)∧Upd (blk v) w w'∧(∀ x∈blk v',x∈blk v∨w.heap.size≤x):=by
 obtain ⟨i,h1,h2,h3,h4⟩:=info_parts hi
 obtain ⟨A,cap,rfl,hle,hcm,hcell0⟩:=hu
 by_cases hne:m=[]
 ·subst hne
  have hsz':(P.info? e).map (·.size)=some sz:=by simp [h1,h3]
  obtain ⟨ao,n,k,rfl,hnk⟩:∃ ao n k,v = .slice ao n k∧n≤k:=by
   rcases hv.2 with ⟨rfl,_⟩|⟨g,cap',cur,rfl,_,_,q,_⟩
   ·exact ⟨none,0,0,rfl,Nat.le_refl _⟩
   ·exact ⟨_,_,_,rfl,q⟩
  exact ⟨_,w,run_app_nothing ht hsz' ao A n k cap hnk,by rw [List.append_nil];exact hv,Upd.refl _ _,fun x hx => .inl hx⟩
 ·obtain ⟨b,off,rfl,hcell⟩:=hcell0 hne
  have hnews:∀ j u,(m.flatMap c)[j]?=some u→w.cell? ((⟨b,off,none⟩:Addr).add j)=some u:=fun j u hj=>by
   rw [add_none]
   obtain ⟨q1,q2⟩:=flatMap_at hsz hpos m j u hj
   have q3:=hcell (j / sz) q1 (j % sz) (Nat.mod_lt _ hpos)
   rw [Nat.mul_comm (j / sz) sz,Nat.div_add_mod] at q3
   rw [q3,q2]
  obtain ⟨v',w',hr,g1,g2,_,g3⟩:=run_append_own_at (P:=P) w base t ty e i z sz bytes ht h1 h2 h3 h4 hz hpos v l.length (l.flatMap c) hv ⟨b,off,none⟩ m.length cap (m.flatMap c) (flatMap_len hsz m) hnews
   (fun u hu=>by obtain ⟨x,_,hx⟩:=List.mem_flatMap.1 hu;exact hone x u hx) hl hb hbase
  have hown:OwnN sz c base e w' v' (l++m):=by
   unfold OwnN;rw [List.length_append,List.flatMap_append];exact g1
  refine ⟨v',w',hr,hown,by rw [blk_own];exact Upd.of_grown g2,?_⟩
  intro x hx
  rw [blk_own] at hx
  rcases g3 with g3|g3
  ·rw [g3,← blk_own] at hx;exact .inl hx
  ·rw [g3] at hx;simp at hx;exact .inr (by omega)
theorem wp_app_of (s x:Operand) {t:TypeId} (ho:o.op = .call { callee := .builtin .append,args:=#[s,x],argTypes:=#[t,t] }) (v u:Value) (hs:a.eval s=v) (hx:a.eval x=u)
  {R:Value→World→Prop} (hr:∃ v' w',(Builtin.append_ #[t,t] o.type #[v,u]).run P w = .ok v' w'∧R v' w') (h:∀ v' w',R v' w'→K (a.put o.dst v') w'):o.wp P a w K Q:=by
 obtain ⟨v',w',hr,hR⟩:=hr
 unfold Oper.wp execOp
 simp only [ho,resolve,invoke,builtin,Sem.run_bind,Sem.run_pure,Result.andThen_ok,List.map_toArray,List.map_cons,List.map_nil,hs,hx,hr]
 exact h v' w' hR
theorem wpList_app_of (hgd:o.guard=none) (s x:Operand) {t:TypeId} (ho:o.op = .call { callee := .builtin .append,args:=#[s,x],argTypes:=#[t,t] }) (v u:Value) (hs:a.eval s=v) (hx:a.eval x=u)
  {R:Value→World→Prop} (hr:∃ v' w',(Builtin.append_ #[t,t] o.type #[v,u]).run P w = .ok v' w'∧R v' w') (h:∀ v' w',R v' w'→wpList P ops Q rest (a.put o.dst v') w'):wpList P ops Q (o::rest) a w :=
 wpList_plain hgd fun K hK=>wp_app_of s x ho v u hs hx hr fun v' w' hR=>hK _ _ (h v' w' hR)
theorem step_app_of (hgd:o.guard=none) (s x:Operand) {t:TypeId} (ho:o.op = .call { callee := .builtin .append,args:=#[s,x],argTypes:=#[t,t] }) (v u:Value) (hs:a.eval s=v) (hx:a.eval x=u)
  {R:Value→World→Prop} (hr:∃ v' w',(Builtin.append_ #[t,t] o.type #[v,u]).run P w = .ok v' w'∧R v' w') (h:∀ v' w',R v' w'→K (a.put o.dst v') w') :
  if Region.wanted o (yielded ops a.tmps)=true then Oper.wp P o a w K Q else E:=by
 have hw:Region.wanted o (yielded ops a.tmps)=true:=by simp [Region.wanted,hgd]
 rw [if_pos hw]
 exact wp_app_of s x ho v u hs hx hr h
end
end Go.Proofs.YthgnlfikneipiaaGreat
namespace Go.Proofs.YthgnlfikneipiaaGreat
structure Sl where
 a:Option Addr
 n:Nat
 k:Nat
instance:Inhabited Sl:=⟨⟨none,0,0⟩⟩
abbrev slv (s:Sl):Value := .slice s.a s.n s.k
end Go.Proofs.YthgnlfikneipiaaGreat
namespace Go.Proofs.YthgnlfikneipiaaGreat
open Go.RowKit
structure KOrd {κ:Type} (lt:κ→κ→Bool):Prop where
 irr:∀ a,lt a a=false
 trans:∀ a b c,lt a b=true→lt b c=true→lt a c=true
 tot:∀ a b,lt a b=false→lt b a=false→a=b
section
variable {κ ν : Type} [Inhabited κ] [Inhabited ν] [DecidableEq κ] {lt : κ → κ → Bool}
def below (lt:κ→κ→Bool) (l:List (κ×ν)) (k:κ):Nat:=(l.takeWhile fun p=>lt p.1 k).length
def isIn (lt:κ→κ→Bool) (l:List (κ×ν)) (k:κ):Bool:=decide (below lt l k < l.length∧(nth l (below lt l k)).1=k)
def tSet (lt:κ→κ→Bool) (l:List (κ×ν)) (k:κ) (v:ν):List (κ×ν):=l.take (below lt l k)++(k,v)::l.drop (below lt l k+if isIn lt l k then 1 else 0)
def tDel (lt:κ→κ→Bool) (l:List (κ×ν)) (k:κ):List (κ×ν):=if isIn lt l k then l.take (below lt l k)++l.drop (below lt l k+1) else l
def Rising (lt:κ→κ→Bool) (l:List (κ×ν)):Prop:=∀ i j,i < j→j < l.length→lt (nth l i).1 (nth l j).1=true
theorem below_le (l:List (κ×ν)) (k:κ):below lt l k≤l.length:=by
 unfold below
 induction l with
 | nil=>simp
 | cons p l ih=>rw [List.takeWhile_cons];split<;>simp;exact ih
theorem below_lt:∀ (l:List (κ×ν)) (k:κ) (j:Nat),j < below lt l k→lt (nth l j).1 k=true
 | [],k,j,h=>by simp [below] at h
 | p::l,k,j,h=>by
  unfold below at h
  rw [List.takeWhile_cons] at h
  split at h
  ·rename_i hp
   cases j with
   | zero=>rw [nth_cons_zero];exact hp
   | succ j=>rw [nth_cons_succ];exact below_lt l k j (by simpa [below] using h)
  ·simp at h
theorem below_ge:∀ (l:List (κ×ν)) (k:κ),below lt l k < l.length→lt (nth l (below lt l k)).1 k=false
 | [],k,h=>by simp [below] at h
 | p::l,k,h=>by
  cases hp:lt p.1 k with
  | false =>
   have:below lt (p::l) k=0:=by unfold below;rw [List.takeWhile_cons];simp [hp]
   rw [this,nth_cons_zero];exact hp
  | true =>
   have e:below lt (p::l) k=below lt l k+1:=by unfold below;rw [List.takeWhile_cons];simp [hp]
   rw [e,nth_cons_succ]
   exact below_ge l k (by rw [e] at h;simpa using h)
theorem below_eq (l:List (κ×ν)) (k:κ) (i:Nat) (h1:i≤l.length) (h2:∀ j,j < i→lt (nth l j).1 k=true) (h3:i < l.length→lt (nth l i).1 k=false):below lt l k=i:=by
 rcases Nat.lt_trichotomy (below lt l k) i with h|h|h
 ·have a:=below_ge l k (Nat.lt_of_lt_of_le h h1)
  rw [h2 _ h] at a;exact absurd a (by simp)
 ·exact h
 ·have a:=below_lt l k i h
  have b:=h3 (Nat.lt_of_lt_of_le h (below_le l k))
  rw [a] at b;exact absurd b (by simp)
def tGet (lt:κ→κ→Bool) (z:ν) (l:List (κ×ν)) (k:κ):ν×Bool:=if isIn lt l k then ((nth l (below lt l k)).2,true) else (z,false)
def tAt (zk:κ) (zv:ν) (l:List (κ×ν)) (i:Int):κ×ν×Bool:=if 0≤i∧i < l.length then ((nth l i.toNat).1,(nth l i.toNat).2,true) else (zk,zv,false)
theorem tSet_len (l:List (κ×ν)) (k:κ) (v:ν):(tSet lt l k v).length≤l.length+1:=by
 unfold tSet
 have:=below_le (lt:=lt) l k
 rw [List.length_append,List.length_take,List.length_cons,List.length_drop]
 split<;>omega
theorem tDel_len (l:List (κ×ν)) (k:κ):(tDel lt l k).length≤l.length:=by
 unfold tDel
 split
 ·rw [List.length_append,List.length_take,List.length_drop];omega
 ·exact Nat.le_refl _
theorem tSet_in (l:List (κ×ν)) (k:κ) (v:ν) (h:isIn lt l k=true):tSet lt l k v=l.set (below lt l k) ((nth l (below lt l k)).1,v):=by
 unfold tSet
 rw [h]
 unfold isIn at h
 obtain ⟨h1,h2⟩:=of_decide_eq_true h
 rw [h2,List.set_eq_take_append_cons_drop,if_pos h1]
 rfl
theorem Rising.mono (ho:KOrd lt) {l:List (κ×ν)} (h:Rising lt l) (k:κ) (i j:Nat) (hij:i≤j) (hj:j < l.length) (hl:lt (nth l j).1 k=true):lt (nth l i).1 k=true:=by
 rcases Nat.lt_or_eq_of_le hij with e|e
 ·exact ho.trans _ _ _ (h i j e hj) hl
 ·rw [e];exact hl
theorem Rising.nil:Rising lt ([]:List (κ×ν)):=fun i j _ h=>by simp at h
theorem Rising.take {l:List (κ×ν)} (h:Rising lt l) (n:Nat):Rising lt (l.take n):=fun i j hij hj=>by
 rw [List.length_take] at hj
 rw [nth_take l n i (by omega),nth_take l n j (by omega)];exact h i j hij (by omega)
theorem Rising.drop {l:List (κ×ν)} (h:Rising lt l) (n:Nat):Rising lt (l.drop n):=fun i j hij hj=>by
 rw [List.length_drop] at hj
 rw [nth_drop,nth_drop];exact h _ _ (by omega) (by omega)
theorem Rising.app {l m:List (κ×ν)} (hl:Rising lt l) (hm:Rising lt m) (hlm:∀ i j,i < l.length→j < m.length→lt (nth l i).1 (nth m j).1=true):Rising lt (l++m):=fun i j hij hj=>by
 rw [List.length_append] at hj
 by_cases h1:j < l.length
 ·rw [nth_append_left _ _ _ h1,nth_append_left _ _ _ (by omega)];exact hl i j hij h1
 ·rw [nth_append_right _ _ j (by omega)]
  by_cases h2:i < l.length
  ·rw [nth_append_left _ _ _ h2];exact hlm _ _ h2 (by omega)
  ·rw [nth_append_right _ _ i (by omega)];exact hm _ _ (by omega) (by omega)
theorem Rising.one (p:κ×ν):Rising lt [p]:=fun i j hij hj=>by simp at hj;omega
theorem above (ho:KOrd lt) {l:List (κ×ν)} (h:Rising lt l) (k:κ) (j:Nat) (hj:below lt l k+(if isIn lt l k then 1 else 0)≤j) (hl:j < l.length):lt k (nth l j).1=true:=by
 have hb:below lt l k < l.length:=by split at hj<;>omega
 have h1:=below_ge l k hb
 by_cases hin:isIn lt l k=true
 ·rw [if_pos hin] at hj
  unfold isIn at hin
  have e:=(of_decide_eq_true hin).2
  have:=h (below lt l k) j (by omega) hl
  rwa [e] at this
 ·rw [if_neg hin] at hj
  have hne:(nth l (below lt l k)).1≠k:=by
   intro e;apply hin;unfold isIn;exact decide_eq_true ⟨hb,e⟩
  have h2:lt k (nth l (below lt l k)).1=true:=by
   cases hc:lt k (nth l (below lt l k)).1 with
   | true=>rfl
   | false=>exact absurd (ho.tot _ _ h1 hc) hne
  rcases Nat.lt_or_eq_of_le hj with q|q
  ·exact ho.trans _ _ _ h2 (h _ _ (by simpa using q) hl)
  ·rw [Nat.add_zero] at q;rw [← q];exact h2
theorem Rising.set_ (ho:KOrd lt) {l:List (κ×ν)} (h:Rising lt l) (k:κ) (v:ν):Rising lt (tSet lt l k v):=by
 unfold tSet
 refine (h.take _).app ?_ ?_
 ·have:(k,v)::l.drop (below lt l k+if isIn lt l k then 1 else 0)=[(k,v)]++l.drop (below lt l k+if isIn lt l k then 1 else 0):=rfl
  rw [this]
  refine (Rising.one _).app (h.drop _) ?_
  intro i j hi hj
  simp at hi;subst hi
  rw [List.length_drop] at hj
  rw [nth_drop]
  exact above ho h k _ (by omega) (by omega)
 ·intro i j hi hj
  rw [List.length_take] at hi
  rw [nth_take _ _ _ (by omega)]
  have h1:=below_lt (lt:=lt) l k i (by omega)
  cases j with
  | zero=>rw [nth_cons_zero];exact h1
  | succ j =>
   rw [nth_cons_succ,nth_drop]
   rw [List.length_cons,List.length_drop] at hj
   exact ho.trans _ _ _ h1 (above ho h k _ (by omega) (by omega))
theorem Rising.del (ho:KOrd lt) {l:List (κ×ν)} (h:Rising lt l) (k:κ):Rising lt (tDel lt l k):=by
 unfold tDel
 split
 ·refine (h.take _).app (h.drop _) ?_
  intro i j hi hj
  rw [List.length_take] at hi
  rw [List.length_drop] at hj
  rw [nth_take _ _ _ (by omega),nth_drop]
  exact h _ _ (by omega) (by omega)
 ·exact h
end
theorem intOrd:KOrd (fun a b:Int=>decide (a < b)):=⟨fun a=>by simp,fun a b c=>by simp;omega,fun a b=>by simp;omega⟩
end Go.Proofs.YthgnlfikneipiaaGreat
namespace Go.Proofs.YthgnlfikneipiaaGreat
open Go.RowKit
section
variable {κ ν : Type} [Inhabited κ] [Inhabited ν] [DecidableEq κ] {lt : κ → κ → Bool}
theorem lt_below (ho:KOrd lt) {l:List (κ×ν)} (h:Rising lt l) (k:κ) (i:Nat) (hi:i < l.length):lt (nth l i).1 k=decide (i < below lt l k):=by
 by_cases hb:i < below lt l k
 ·rw [below_lt l k i hb,decide_eq_true hb]
 ·rw [decide_eq_false hb]
  cases hq:lt (nth l i).1 k with
  | false=>rfl
  | true =>
   have h1:=below_ge (lt:=lt) l k (by omega)
   rw [h.mono ho k (below lt l k) i (by omega) hi hq] at h1
   exact absurd h1 (by simp)
theorem below_at (ho:KOrd lt) {l:List (κ×ν)} (h:Rising lt l) (i:Nat) (hi:i < l.length):below lt l (nth l i).1=i :=
 below_eq l _ i (by omega) (fun j hj=>h j i hj hi) (fun _=>ho.irr _)
theorem isIn_at (ho:KOrd lt) {l:List (κ×ν)} (h:Rising lt l) (i:Nat) (hi:i < l.length):isIn lt l (nth l i).1=true:=by
 unfold isIn
 rw [below_at ho h i hi]
 exact decide_eq_true ⟨hi,rfl⟩
theorem tGet_at (ho:KOrd lt) (z:ν) {l:List (κ×ν)} (h:Rising lt l) (i:Nat) (hi:i < l.length):tGet lt z l (nth l i).1=((nth l i).2,true):=by
 unfold tGet
 rw [isIn_at ho h i hi,below_at ho h i hi];rfl
theorem tAt_at (zk:κ) (zv:ν) (l:List (κ×ν)) (i:Nat) (hi:i < l.length):tAt zk zv l (i:Int)=((nth l i).1,(nth l i).2,true):=by
 unfold tAt
 rw [if_pos ⟨by omega,by omega⟩];rfl
theorem tSet_mem (l:List (κ×ν)) (k:κ) (v:ν) (p:κ×ν) (h:p∈tSet lt l k v):p=(k,v)∨p∈l:=by
 unfold tSet at h
 rcases List.mem_append.1 h with h|h
 ·exact .inr (List.mem_of_mem_take h)
 ·rcases List.mem_cons.1 h with h|h
  ·exact .inl h
  ·exact .inr (List.mem_of_mem_drop h)
theorem tDel_mem (l:List (κ×ν)) (k:κ) (p:κ×ν) (h:p∈tDel lt l k):p∈l:=by
 unfold tDel at h
 split at h
 ·rcases List.mem_append.1 h with h|h
  ·exact List.mem_of_mem_take h
  ·exact List.mem_of_mem_drop h
 ·exact h
theorem nth_mem {l:List (κ×ν)} (i:Nat) (hi:i < l.length):nth l i∈l:=by rw [nth_get l i hi];exact List.getElem_mem hi
end
section
variable {κ ν κ' ν' : Type} [Inhabited κ] [Inhabited ν] [DecidableEq κ] [Inhabited κ'] [Inhabited ν'] [DecidableEq κ'] {lt : κ → κ → Bool} {lt' : κ' → κ' → Bool} (f : κ → κ') (h : ν → ν') (ok : κ → Prop)
def tMap (l:List (κ×ν)):List (κ'×ν'):=l.map fun p=>(f p.1,h p.2)
theorem tMap_nth (l:List (κ×ν)) (i:Nat) (hi:i < l.length):nth (tMap f h l) i=(f (nth l i).1,h (nth l i).2):=by
 unfold tMap
 rw [nth_get _ _ (by simpa using hi),nth_get _ _ hi];simp
variable (hf : ∀ a b, ok a → ok b → lt' (f a) (f b) = lt a b) (hi : ∀ a b, ok a → ok b → f a = f b → a = b)
include hf
theorem tMap_below (l:List (κ×ν)) (hl:∀ p∈l,ok p.1) (k:κ) (hk:ok k):below lt' (tMap f h l) (f k)=below lt l k:=by
 unfold below tMap
 induction l with
 | nil=>rfl
 | cons p l ih =>
  rw [List.map_cons,List.takeWhile_cons,List.takeWhile_cons]
  rw [hf p.1 k (hl p (by simp)) hk]
  split
  ·rw [List.length_cons,List.length_cons,ih (fun q hq=>hl q (by simp [hq]))]
  ·rfl
include hi
theorem tMap_isIn (l:List (κ×ν)) (hl:∀ p∈l,ok p.1) (k:κ) (hk:ok k):isIn lt' (tMap f h l) (f k)=isIn lt l k:=by
 unfold isIn
 rw [tMap_below f h ok hf l hl k hk]
 have hlen:(tMap f h l).length=l.length:=by simp [tMap]
 rw [hlen]
 apply decide_eq_decide.2
 constructor
 ·rintro ⟨h1,h2⟩
  rw [tMap_nth f h l _ h1] at h2
  exact ⟨h1,hi _ _ (hl _ (nth_mem _ h1)) hk h2⟩
 ·rintro ⟨h1,h2⟩
  refine ⟨h1,?_⟩
  rw [tMap_nth f h l _ h1]
  exact congrArg f h2
theorem tMap_set (l:List (κ×ν)) (hl:∀ p∈l,ok p.1) (k:κ) (hk:ok k) (v:ν):tSet lt' (tMap f h l) (f k) (h v)=tMap f h (tSet lt l k v):=by
 unfold tSet
 rw [tMap_isIn f h ok hf hi l hl k hk,tMap_below f h ok hf l hl k hk]
 unfold tMap
 simp [List.map_take,List.map_drop]
theorem tMap_del (l:List (κ×ν)) (hl:∀ p∈l,ok p.1) (k:κ) (hk:ok k):tDel lt' (tMap f h l) (f k)=tMap f h (tDel lt l k):=by
 unfold tDel
 rw [tMap_isIn f h ok hf hi l hl k hk,tMap_below f h ok hf l hl k hk]
 unfold tMap
 split<;>simp [List.map_take,List.map_drop]
end
end Go.Proofs.YthgnlfikneipiaaGreat
namespace Go.Proofs.YthgnlfikneipiaaGreat
def onStep (s : BitVec 32) : BitVec 32 := if s &&& 1 = 1 then (s >>> 1) ^^^ 0x82F63B78 else s >>> 1
def onBits (s : BitVec 32) : Nat → BitVec 32
  | 0 => s
  | k + 1 => onStep (onBits s k)
def onByte (s : BitVec 32) (x : UInt8) : BitVec 32 := onBits (s ^^^ BitVec.ofNat 32 x.toNat) 8
def onAll (s : BitVec 32) (l : List UInt8) : BitVec 32 := l.foldl onByte s
def sumOn (c : BitVec 32) (l : List UInt8) : BitVec 32 := ~~~ (onAll (~~~ c) l)
def sumOf (ls : List (List UInt8)) : BitVec 32 := ls.foldl sumOn 0
end Go.Proofs.YthgnlfikneipiaaGreat
namespace Go.Proofs.YthgnlfikneipiaaGreat
open Go.RowKit
theorem onAll_take (s : BitVec 32) (l : List UInt8) (k : Nat) (h : k < l.length) : onAll s (l.take (k + 1)) = onByte (onAll s (l.take k)) (nth l k) := by
  unfold onAll
  rw [List.take_succ_eq_append_getElem h, List.foldl_append]
  simp [nth_get l k h]
theorem bits_xor (s t : BitVec 32) : bits .xor .u32 (s.toNat : Int) (t.toNat : Int) = ((s ^^^ t).toNat : Int) := by
  rw [u32_xor_nat _ _ s.isLt t.isLt, BitVec.toNat_xor]
theorem bits_and1 (s : BitVec 32) : (bits .and .u32 (s.toNat : Int) 1 == 1) = decide (s &&& 1 = 1) := by
  have h : bits .and .u32 (s.toNat : Int) ((1 : BitVec 32).toNat : Int) = ((s &&& 1).toNat : Int) := by
    rw [u32_and_nat _ _ s.isLt (by decide), BitVec.toNat_and]
  have h1 : (((1 : BitVec 32).toNat : Nat) : Int) = 1 := rfl
  rw [h1] at h
  rw [h]
  by_cases g : s &&& 1 = 1
  · rw [g]; rfl
  · have : ((s &&& 1).toNat : Int) ≠ 1 := fun e => g (BitVec.eq_of_toNat_eq (by rw [show (s &&& 1).toNat = 1 by omega]; rfl))
    rw [decide_eq_false g]; exact beq_eq_false_iff_ne.2 this
theorem bits_not (s : BitVec 32) : bits .xor .u32 IntKind.u32.max (s.toNat : Int) = ((~~~ s).toNat : Int) := by
  have h1 : IntKind.u32.max = (((0xFFFFFFFF : BitVec 32).toNat : Nat) : Int) := rfl
  rw [h1, bits_xor]
  congr 2
theorem half (s : BitVec 32) : (s.toNat : Int) / (2 : Int) = ((s >>> 1).toNat : Int) := by
  rw [BitVec.toNat_ushiftRight, Nat.shiftRight_eq_div_pow]; omega
theorem onStep_odd (s : BitVec 32) (h : (bits .and .u32 (s.toNat : Int) 1 == 1) = true) : bits .xor .u32 ((s.toNat : Int) / 2) 2197175160 = ((onStep s).toNat : Int) := by
  rw [bits_and1] at h
  rw [half, show (2197175160 : Int) = (((0x82F63B78 : BitVec 32).toNat : Nat) : Int) from rfl, bits_xor, onStep, if_pos (of_decide_eq_true h)]
theorem onStep_even (s : BitVec 32) (h : (bits .and .u32 (s.toNat : Int) 1 == 1) = false) : (s.toNat : Int) / 2 = ((onStep s).toNat : Int) := by
  rw [bits_and1] at h
  rw [half, onStep, if_neg (of_decide_eq_false h)]
theorem bits_byte (s : BitVec 32) (x : UInt8) : bits .xor .u32 (s.toNat : Int) (x.toNat : Int) = ((s ^^^ BitVec.ofNat 32 x.toNat).toNat : Int) := by
  have hx : x.toNat < 256 := x.toNat_lt
  have h1 : ((x.toNat : Nat) : Int) = ((BitVec.ofNat 32 x.toNat).toNat : Int) := by
    rw [BitVec.toNat_ofNat, Nat.mod_eq_of_lt (by omega)]
  rw [h1, bits_xor]
theorem bits_byte' (s : BitVec 32) (x : UInt8) : bits .xor .u32 (s.toNat : Int) ((x.toNat : Int) % 4294967296) = ((s ^^^ BitVec.ofNat 32 x.toNat).toNat : Int) := by
  have hx : x.toNat < 256 := x.toNat_lt
  rw [← bits_byte]; congr 1; omega
set_option maxHeartbeats 400000 in
theorem on_any (c : BitVec 32) (v : Value) (l : List UInt8) (w : World) (h : Bytes w v l) :
    Calls Tryz.prog 184 #[.int .u32 (c.toNat : Int), v] w fun e w' => e = .returned (.int .u32 ((sumOn c l).toNat : Int)) ∧ w = w' := by
  obtain ⟨a, cap, rfl, hlc, hm, hc⟩ := h
  have hm' : l.length ≤ 9223372036854775807 := by unfold maxLen at hm; omega
  clear hm hlc
  go_enter Tryz.func184, Tryz.ntmps184
  go_wp2
  go_loop [5, 13] (fun s i => ∃ k : Nat, k ≤ l.length ∧ i = .int .i64 k ∧ s = .int .u32 ((onAll (~~~ c) (l.take k)).toNat : Int)) (fun _ i => l.length - (intOf i).toNat)
  case atStart => exact ⟨0, Nat.zero_le _, rfl, by rw [bits_not]; rfl⟩
  case round =>
    obtain ⟨k, hk, rfl, rfl⟩ := hrel
    by_cases hlt : k < l.length
    · obtain ⟨b, off, rfl, hc'⟩ := hc (by intro h; simp [h] at hlt)
      have hck := hc' k hlt
      have HT := Lib.hid (onAll_take (~~~ c) l k hlt)
      clear hc hc'
      go_wp2
      go_loop [5, 21] (fun s i => ∃ j : Nat, j ≤ 8 ∧ i = .int .i64 j ∧ s = .int .u32 ((onBits ((onAll (~~~ c) (l.take k)) ^^^ BitVec.ofNat 32 (nth l k).toNat) j).toNat : Int)) (fun _ i => 8 - (intOf i).toNat)
      case atStart => exact ⟨0, Nat.zero_le _, rfl, congrArg _ (by exact bits_byte' _ _)⟩
      case round =>
        obtain ⟨j, hj, rfl, rfl⟩ := hrel
        by_cases hlt2 : j < 8
        · go_wp2
          · go_round
            case rel => exact ⟨j + 1, by omega, by go_num, congrArg _ (onStep_odd _ (by assumption))⟩
            case measure => simp [intOf]; omega
          · go_round
            case rel => exact ⟨j + 1, by omega, by go_num, congrArg _ (onStep_even _ (by assumption))⟩
            case measure => simp [intOf]; omega
        · obtain rfl : j = 8 := by omega
          go_wp2
          go_round
          case rel => exact ⟨k + 1, by omega, by go_num, by rw [HT.out]; rfl⟩
          case measure => simp [intOf]; omega
    · obtain rfl : k = l.length := by omega
      go_wp2
      go_ret
      exact ⟨congrArg (fun n => Ending.returned (.int .u32 n)) (by rw [bits_not]; rfl), rfl⟩
def Parts (w : World) (v : Value) (ls : List (List UInt8)) : Prop :=
  ∃ vs : List Value, vs.length = ls.length ∧ Rd id w v vs ∧ ∀ j, j < ls.length → Bytes w (nth vs j) (nth ls j)
theorem sumOf_take (ls : List (List UInt8)) (k : Nat) (h : k < ls.length) : sumOf (ls.take (k + 1)) = sumOn (sumOf (ls.take k)) (nth ls k) := by
  unfold sumOf
  rw [List.take_succ_eq_append_getElem h, List.foldl_append]
  simp [nth_get ls k h]
set_option maxHeartbeats 400000 in
theorem of_any (v : Value) (ls : List (List UInt8)) (w : World) (h : Parts w v ls) :
    Calls Tryz.prog 144 #[v] w fun e w' => e = .returned (.int .u32 ((sumOf ls).toNat : Int)) ∧ w = w' := by
  obtain ⟨vs, hvl, ⟨a, cap, rfl, hlc, hm, hc⟩, hb⟩ := h
  have hm' : vs.length ≤ 9223372036854775807 := by unfold maxLen at hm; omega
  clear hm hlc
  have HL := Lib.hid hvl
  have HB := Lib.hid hb
  have HC := Lib.hid hc
  clear hvl hb hc
  go_enter Tryz.func144, Tryz.ntmps144
  go_wp2
  go_loop [3, 8] (fun s i => ∃ k : Nat, k ≤ vs.length ∧ i = .int .i64 k ∧ s = .int .u32 ((sumOf (ls.take k)).toNat : Int)) (fun _ i => vs.length - (intOf i).toNat)
  case atStart => exact ⟨0, Nat.zero_le _, rfl, rfl⟩
  case round =>
    obtain ⟨k, hk, rfl, rfl⟩ := hrel
    by_cases hlt : k < vs.length
    · obtain ⟨b, off, rfl, hc'⟩ := HC.out (by intro h; simp [h] at hlt)
      have hck := hc' k hlt
      have hbk := Lib.hid (HB.out k (by rw [← HL.out]; exact hlt))
      have HT := Lib.hid (sumOf_take ls k (by rw [← HL.out]; exact hlt))
      simp only [id] at hck
      clear hc'
      go_wp2_with (go_at_call 184; refine (on_any _ _ _ _ hbk.out).mono ?_; rintro e w' ⟨rfl, rfl⟩)
      go_round
      case rel => exact ⟨k + 1, by omega, by go_num, by rw [HT.out]⟩
      case measure => simp [intOf]; omega
    · obtain rfl : k = vs.length := by omega
      go_wp2
      go_ret
      exact ⟨congrArg (fun n => Ending.returned (.int .u32 n)) (by rw [HL.out, List.take_length]), rfl⟩
theorem Parts.lit {w : World} (vs : List Value) (ls : List (List UInt8)) {C : Array Value} {e : TypeId} {g n k : Nat} (hg : g = w.heap.size) (hC : C = vs.toArray) (hn : n = ls.length) (hv : vs.length = ls.length) (hk : n ≤ k) (hm : k ≤ maxLen)
    (h : ∀ j, j < ls.length → Bytes w (nth vs j) (nth ls j)) : Parts (w.alloc (.cells C e)) (.slice (some ⟨g, 0, none⟩) n k) ls :=
  ⟨vs, hv, Rd.lit vs hg (by simp [hC]) (by rw [hn, hv]) hk hm, fun j hj => (h j hj).alloc _⟩
theorem Parts.one {w : World} (v : Value) (l : List UInt8) {C : Array Value} {e : TypeId} {g n k : Nat} (hg : g = w.heap.size) (hC : C = #[v]) (hn : n = 1) (hk : k = 1) (h : Bytes w v l) : Parts (w.alloc (.cells C e)) (.slice (some ⟨g, 0, none⟩) n k) [l] :=
  Parts.lit [v] [l] hg (by rw [hC]) hn rfl (by omega) (by unfold maxLen; omega) (fun j hj => by
    match j, hj with
    | 0, _ => exact h)
theorem Parts.two {w : World} (v v' : Value) (l l' : List UInt8) {C : Array Value} {e : TypeId} {g n k : Nat} (hg : g = w.heap.size) (hC : C = #[v, v']) (hn : n = 2) (hk : k = 2) (h : Bytes w v l) (h' : Bytes w v' l') : Parts (w.alloc (.cells C e)) (.slice (some ⟨g, 0, none⟩) n k) [l, l'] :=
  Parts.lit [v, v'] [l, l'] hg (by rw [hC]) hn rfl (by omega) (by unfold maxLen; omega) (fun j hj => by
    match j, hj with
    | 0, _ => exact h
    | 1, _ => exact h')
theorem Parts.drew {w : World} {v : Value} {ls : List (List UInt8)} (h : Parts w v ls) : Parts w.drew v ls := h
end Go.Proofs.YthgnlfikneipiaaGreat
namespace Go.Proofs.YthgnlfikneipiaaGreat
open Go.RowKit
theorem fnFour_any (n:Nat) (hn:n < 4294967296) (w:World) :
  Calls Tryz.prog 191 #[.int .u32 (n:Int)] w fun e w'=>e = .returned (.slice (some ⟨w.heap.size,0,none⟩) 4 4)∧Own bv w.heap.size 5 w' (.slice (some ⟨w.heap.size,0,none⟩) 4 4) (four n)∧Upd [] w w':=by
 go_enter Tryz.func191,Tryz.ntmps191
 go_wp2
 go_ret
 exact ⟨rfl,Own.lit (four n) (Nat.le_refl _) rfl (by simp [four];omega) rfl rfl (by decide),(Upd.refl [] w).alloc _⟩
def frameOf (p:List UInt8):List UInt8:=four p.length++(four (sumOf [four p.length,p]).toNat++p)
def putF (b p:List UInt8):List UInt8:=if p.length < 1∨262144 < p.length then b else b++frameOf p
set_option maxHeartbeats 1000000 in
theorem fPut_any (v u:Value) (l p:List UInt8) (w:World) (h:Bytes w v l) (h2:Bytes w u p) (hz:l.length≤1000000000) (hz2:p.length≤140737488351232) :
  Calls Tryz.prog 129 #[v,u] w fun e w'=>∃ x,e = .returned x∧Own bv w.heap.size 5 w' x (putF l p)∧Upd [] w w':=by
 have H:=Lib.hid h
 have H2:=Lib.hid h2
 obtain ⟨a,cap,rfl,-,-,-⟩:=h
 obtain ⟨a2,cap2,rfl,-,-,-⟩:=h2
 have hmk:=fun u=>run_mk (P:=Tryz.prog) Tryz.underlying33 infoByte rfl u 0 (l.length+8+p.length) 0 ((l.length:Int)+8+p.length) (by omega) (by omega) (by omega) (by omega) (by omega)
 by_cases hp:p.length < 1∨262144 < p.length
 ·have HF:Hid (putF l p=l):=if_pos hp
  go_enter Tryz.func129,Tryz.ntmps129
  rcases hp with hp|hp
  all_goals go_wp2_with (at_builtin;refine wpList_app bv_one rfl (.tmp 14) (.tmp 15) rfl Tryz.underlying33 infoByte rfl (.slice (some ⟨w.heap.size,0,none⟩) 0 (l.length+8+p.length)) (.slice a l.length cap) [] l rfl rfl (Own.room (base:=w.heap.size) (Nat.le_refl _) rfl (by simp) (by unfold maxLen;omega)) (H.out.alloc _) (by simp;omega) (by unfold maxLen;simp;omega) (by simp) ?_;intro v1 w1 ho hu hbk;rw [List.nil_append] at ho;have HU:Hid (Upd [] w w1):=((Upd.refl [] w).alloc _).trans hu (by simp) (by simp [blk]);have HO:=Lib.hid ho;clear ho hu hbk)
  all_goals go_ret
  all_goals exact ⟨_,rfl,by rw [HF.out];exact HO.out,HU.out⟩
 ·have HF:Hid (putF l p=l++frameOf p):=if_neg hp
  have hp1:1≤p.length:=by omega
  have hp2:p.length≤262144:=by omega
  go_enter Tryz.func129,Tryz.ntmps129
  go_wp2_with (at_builtin;refine wpList_app bv_one rfl (.tmp 14) (.tmp 15) rfl Tryz.underlying33 infoByte rfl (.slice (some ⟨w.heap.size,0,none⟩) 0 (l.length+8+p.length)) (.slice a l.length cap) [] l rfl rfl (Own.room (base:=w.heap.size) (Nat.le_refl _) rfl (by simp) (by unfold maxLen;omega)) (H.out.alloc _) (by simp;omega) (by unfold maxLen;simp;omega) (by simp) ?_;intro v1 w1 ho hu hbk;rw [List.nil_append] at ho;have HU:Hid (Upd [] w w1):=((Upd.refl [] w).alloc _).trans hu (by simp) (by simp [blk]);have HO:=Lib.hid ho;clear ho hu hbk)
  refine (fnFour_any p.length (by omega) _).mono ?_
  rintro e w2 ⟨rfl,ho2,hu2⟩
  have HO1:=Lib.hid (HO.out.upd hu2 (by simp))
  have HO2:=Lib.hid ho2
  have HU2:=Lib.hid (HU.out.seq hu2)
  have HD:Hid (∀ x∈blk (.slice (some ⟨w1.heap.size,0,none⟩) 4 4),x∉blk v1):=fun x h1 h2=>by have:=(ho2.ge x h1).1;have:=(HO.out.ge x h2).2;omega
  have hs2:=HU2.out.size
  have hq:(four p.length).length=4:=rfl
  clear ho2 hu2 HU HO
  go_wp2_with (at_builtin;refine wpList_app bv_one rfl (.tmp 30) (.tmp 31) rfl Tryz.underlying33 infoByte rfl v1 (.slice (some ⟨w1.heap.size,0,none⟩) 4 4) l (four p.length) rfl rfl HO1.out HO2.out.rd (by simp [hq];omega) (by unfold maxLen;simp [hq];omega) hs2 ?_;intro v3 w3 ho hu hbk;have HU3:Hid (Upd [] w w3):=HU2.out.trans hu (by simp) (fun x hx => .inr (HO1.out.ge x hx).1);have HO3:=Lib.hid ho;have HB3:=Lib.hid hbk;have HV3:=Lib.hid (HO2.out.upd hu HD.out);clear ho hu hbk)
  have HP:=Lib.hid (H2.out.upd0 HU3.out)
  refine (of_any _ [four p.length,p] _ (Parts.two _ _ (four p.length) p rfl rfl rfl rfl HV3.out.rd HP.out)).mono ?_
  rintro e w4 ⟨rfl,rfl⟩
  have HU4:=Lib.hid (HU3.out.alloc (.cells #[.slice (some ⟨w1.heap.size,0,none⟩) 4 4,.slice a2 p.length cap2] 33))
  have HO4:=Lib.hid (HO3.out.upd ((Upd.refl [] w3).alloc (.cells #[.slice (some ⟨w1.heap.size,0,none⟩) 4 4,.slice a2 p.length cap2] 33)) (by simp))
  have HS:Hid ((sumOf [four p.length,p]).toNat < 4294967296):=(sumOf [four p.length,p]).isLt
  have HF2:Hid (frameOf p=four p.length++(four (sumOf [four p.length,p]).toNat++p)):=rfl
  generalize (w3.alloc (.cells #[.slice (some ⟨w1.heap.size,0,none⟩) 4 4,.slice a2 p.length cap2] 33))=w4 at *
  generalize (sumOf [four p.length,p]).toNat=sm at *
  have hq4:(l++four p.length).length=l.length+4:=by rw [List.length_append,hq]
  have HLE:Hid (l++four p.length++four sm++p=putF l p):=by unfold Hid;rw [HF.out,HF2.out];simp only [List.append_assoc]
  generalize l++four p.length=l4 at *
  clear HV3 HP HU3 HO3 HB3 HD HO1 HO2 HU2 HF2 HF
  go_wp2_with fail
  refine (fnFour_any sm HS.out _).mono ?_
  rintro e w5 ⟨rfl,ho5,hu5⟩
  have HO5:=Lib.hid (HO4.out.upd hu5 (by simp))
  have HR5:=Lib.hid ho5.rd
  have HU5:=Lib.hid (HU4.out.seq hu5)
  have hs5:=HU5.out.size
  have hq5:(four sm).length=4:=rfl
  have hq6:(l4++four sm).length=l.length+8:=by rw [List.length_append,hq5,hq4]
  generalize four sm=fs at *
  generalize (.slice (some ⟨w4.heap.size,0,none⟩) 4 4:Value)=v5 at *
  clear ho5 hu5 HU4 HO4
  go_wp2_with (first
   | (at_builtin;refine wpList_app bv_one rfl (.tmp 33) (.tmp 38) rfl Tryz.underlying33 infoByte rfl v3 v5 l4 fs rfl rfl HO5.out HR5.out (by simp [hq4,hq5];omega) (by unfold maxLen;simp [hq4,hq5];omega) hs5 ?_;intro v6 w6 ho hu hbk;have HU6:Hid (Upd [] w w6):=HU5.out.trans hu (by simp) (fun x hx => .inr (HO5.out.ge x hx).1);have HO6:=Lib.hid ho;have HP6:=Lib.hid (H2.out.upd0 HU6.out);have hs6:=HU6.out.size;clear ho hu hbk;generalize l4++fs=l6 at *)
   | (at_builtin;refine wpList_app bv_one rfl (.tmp 40) (.tmp 41) rfl Tryz.underlying33 infoByte rfl v6 (.slice a2 p.length cap2) l6 p rfl rfl HO6.out HP6.out (by simp [hq6];omega) (by unfold maxLen;simp [hq6];omega) hs6 ?_;intro v7 w7 ho hu hbk;have HU7:Hid (Upd [] w w7):=HU6.out.trans hu (by simp) (fun x hx => .inr (HO6.out.ge x hx).1);have HO7:=Lib.hid ho;clear ho hu hbk))
  go_ret
  exact ⟨_,rfl,by rw [← HLE.out];exact HO7.out,HU7.out⟩
end Go.Proofs.YthgnlfikneipiaaGreat
namespace Go.Proofs.YthgnlfikneipiaaGreat
open Go.RowKit
def Fit (p:List UInt8):Prop:=1≤p.length∧p.length≤262144
theorem frameOf_len (p:List UInt8):(frameOf p).length=8+p.length:=by simp [frameOf,four_len];omega
theorem putF_fit (b p:List UInt8) (h:Fit p):putF b p=b++frameOf p:=if_neg (by have:=h.1;have:=h.2;omega)
end Go.Proofs.YthgnlfikneipiaaGreat
namespace Go.Proofs.YthgnlfikneipiaaGreat
open Go.RowKit
def nameOk (s:ByteArray):Bool:=decide (1≤s.size∧s.size≤32∧∀ j (h:j < s.size),33≤(s[j]).toNat∧(s[j]).toNat≤126)
end Go.Proofs.YthgnlfikneipiaaGreat
namespace Go.Proofs.YthgnlfikneipiaaGreat
open Go.RowKit
section
variable {κ ν : Type} [Inhabited κ] [Inhabited ν] [DecidableEq κ] {lt : κ → κ → Bool}
theorem mem_nth {l:List (κ×ν)} {p:κ×ν} (h:p∈l):∃ i,i < l.length∧nth l i=p:=by
 obtain ⟨i,hi,rfl⟩:=List.mem_iff_getElem.1 h
 exact ⟨i,hi,nth_get _ _ hi⟩
theorem get_mem (ho:KOrd lt) (z:ν) {l:List (κ×ν)} (hr:Rising lt l) (k:κ) (v:ν):tGet lt z l k=(v,true)↔(k,v)∈l:=by
 constructor
 ·intro h
  unfold tGet at h
  split at h
  ·rename_i hi
   unfold isIn at hi
   obtain ⟨h1,h2⟩:=of_decide_eq_true hi
   injection h with h3 _
   have:nth l (below lt l k)=(k,v):=Prod.ext h2 h3
   rw [← this];exact nth_mem _ h1
  ·injection h with _ h;exact absurd h (by simp)
 ·intro h
  obtain ⟨i,hi,he⟩:=mem_nth h
  have:=tGet_at ho z hr i hi
  rw [he] at this
  exact this
theorem get_no (ho:KOrd lt) (z:ν) {l:List (κ×ν)} (hr:Rising lt l) (k:κ) (h:∀ v,(k,v)∉l):tGet lt z l k=(z,false):=by
 unfold tGet
 cases hi:isIn lt l k with
 | false=>rfl
 | true =>
  have h2:tGet lt z l k=((nth l (below lt l k)).2,true):=by unfold tGet;rw [hi];rfl
  exact absurd ((get_mem ho z hr k _).1 h2) (h _)
theorem mem_set (ho:KOrd lt) {l:List (κ×ν)} (hr:Rising lt l) (k:κ) (v:ν) (p:κ×ν):p∈tSet lt l k v↔p=(k,v)∨(p∈l∧p.1≠k):=by
 have hle:=below_le (lt:=lt) l k
 unfold tSet
 constructor
 ·intro h
  rcases List.mem_append.1 h with h|h
  ·refine .inr ⟨List.mem_of_mem_take h,fun e=>?_⟩
   obtain ⟨i,hi,he⟩:=mem_nth h
   rw [List.length_take] at hi
   rw [nth_take _ _ _ (by omega)] at he
   have:=below_lt l k i (by omega) (lt:=lt)
   rw [he,e,ho.irr] at this
   exact absurd this (by simp)
  ·rcases List.mem_cons.1 h with h|h
   ·exact .inl h
   ·refine .inr ⟨List.mem_of_mem_drop h,fun e=>?_⟩
    obtain ⟨i,hi,he⟩:=mem_nth h
    rw [List.length_drop] at hi
    rw [nth_drop] at he
    have:=above ho hr k (below lt l k+(if isIn lt l k then 1 else 0)+i) (by omega) (by omega)
    rw [he,e,ho.irr] at this
    exact absurd this (by simp)
 ·rintro (rfl|⟨h,hne⟩)
  ·simp
  ·obtain ⟨i,hi,rfl⟩:=mem_nth h
   rcases Nat.lt_or_ge i (below lt l k) with q|q
   ·refine List.mem_append.2 (.inl ?_)
    rw [← nth_take l (below lt l k) i q]
    exact nth_mem _ (by rw [List.length_take];omega)
   ·refine List.mem_append.2 (.inr (List.mem_cons_of_mem _ ?_))
    have hs:below lt l k+(if isIn lt l k then 1 else 0)≤i:=by
     cases hin:isIn lt l k with
     | false=>simp;exact q
     | true =>
      unfold isIn at hin
      obtain ⟨h1,h2⟩:=of_decide_eq_true hin
      have:below lt l k≠i:=fun e=>hne (by rw [← e];exact h2)
      simp;omega
    obtain ⟨d,rfl⟩:=Nat.exists_eq_add_of_le hs
    rw [← nth_drop]
    exact nth_mem _ (by rw [List.length_drop];omega)
theorem get_cases (z:ν) (l:List (κ×ν)) (k:κ):(∃ v,tGet lt z l k=(v,true))∨tGet lt z l k=(z,false):=by
 unfold tGet
 cases isIn lt l k with
 | true=>exact .inl ⟨_,rfl⟩
 | false=>exact .inr rfl
theorem get_same (ho:KOrd lt) (z:ν) {l m:List (κ×ν)} (hl:Rising lt l) (hm:Rising lt m) (k:κ) (h:∀ v,(k,v)∈l↔(k,v)∈m):tGet lt z l k=tGet lt z m k:=by
 rcases get_cases (lt:=lt) z l k with ⟨v,hv⟩|hn
 ·rw [hv,(get_mem ho z hm k v).2 ((h v).1 ((get_mem ho z hl k v).1 hv))]
 ·rw [hn,get_no ho z hm k]
  intro v hv
  rw [(get_mem ho z hl k v).2 ((h v).2 hv)] at hn
  injection hn with _ hn;exact absurd hn (by simp)
theorem get_set_ne (ho:KOrd lt) (z:ν) {l:List (κ×ν)} (hl:Rising lt l) (k k':κ) (v:ν) (hne:k'≠k):tGet lt z (tSet lt l k v) k'=tGet lt z l k' :=
 get_same ho z (hl.set_ ho k v) hl k' fun u=>by
  rw [mem_set ho hl]
  constructor
  ·rintro (h|h)
   ·injection h with h1 _;exact absurd h1 hne
   ·exact h.1
  ·exact fun h => .inr ⟨h,hne⟩
end
end Go.Proofs.YthgnlfikneipiaaGreat
namespace Go.Proofs.YthgnlfikneipiaaGreat
open Go.RowKit
section
variable {P : Program}
theorem run_copyN (w:World) (dT sT ty elem:TypeId) (sz g o dLen dCap:Nat) (a:Addr) (sLen sCap:Nat) (cur:Array Value) (t:TypeId) (cs:List Value) (k:Nat)
  (hu:P.underlying dT=some (.slice elem)) (hs:(P.info? elem).map (·.size)=some sz)
  (hg:w.heap[g]?=some (.cells cur t (0,0))) (hk:Nat.min sLen dLen=k) (hn:cs.length=k*sz)
  (hsrc:∀ j v,cs[j]?=some v→w.cell? (a.add j)=some v) (hfit:o+cs.length≤cur.size) (h1:∀ v∈cs,v.oneCell'=true) :
  (Builtin.copy_ #[dT,sT] ty #[.slice (some ⟨g,o,none⟩) dLen dCap,.slice (some a) sLen sCap]).run P w =
   .ok (goInt k) (w.setRow g (cur.toList.take o++cs++cur.toList.drop (o+cs.length)).toArray):=by
 have hl:=run_loadCells_list (P:=P) w a cs hsrc
 have hst:=run_storeCells_at P g o t cs 0 cur w hg (by simpa using hfit) h1
 cases hq:P.info? elem with
 | none=>simp [hq] at hs
 | some i =>
  have hi:i.size=sz:=by simpa [hq] using hs
  simp [Builtin.copy_,run_underlying hu,Builtin.lenOf,Builtin.firstCells,sizeOf,typeInfo,hq,hi,hk,← hn,hl,hst]
end
section
variable {P : Program} {ops : Array Oper} {rest : List Oper} {o : Oper} {a : Act} {w w' : World} {Q : Exit → Act → World → Prop} {K : Act → World → Prop} {E : Prop}
theorem wp_copy_of (d s:Operand) {t t':TypeId} (ho:o.op = .call { callee := .builtin .copy,args:=#[d,s],argTypes:=#[t,t'] }) (v u:Value) (hd:a.eval d=v) (hs:a.eval s=u)
  {R:Value→World→Prop} (hr:∃ v' w',(Builtin.copy_ #[t,t'] o.type #[v,u]).run P w = .ok v' w'∧R v' w') (h:∀ v' w',R v' w'→K (a.put o.dst v') w'):o.wp P a w K Q:=by
 obtain ⟨v',w',hr,hR⟩:=hr
 unfold Oper.wp execOp
 simp only [ho,resolve,invoke,builtin,Sem.run_bind,Sem.run_pure,Result.andThen_ok,List.map_toArray,List.map_cons,List.map_nil,hd,hs,hr]
 exact h v' w' hR
theorem wpList_copy_of (hgd:o.guard=none) (d s:Operand) {t t':TypeId} (ho:o.op = .call { callee := .builtin .copy,args:=#[d,s],argTypes:=#[t,t'] }) (v u:Value) (hd:a.eval d=v) (hs:a.eval s=u)
  {R:Value→World→Prop} (hr:∃ v' w',(Builtin.copy_ #[t,t'] o.type #[v,u]).run P w = .ok v' w'∧R v' w') (h:∀ v' w',R v' w'→wpList P ops Q rest (a.put o.dst v') w'):wpList P ops Q (o::rest) a w :=
 wpList_plain hgd fun K hK=>wp_copy_of d s ho v u hd hs hr fun v' w' hR=>hK _ _ (h v' w' hR)
theorem step_copy_of (hgd:o.guard=none) (d s:Operand) {t t':TypeId} (ho:o.op = .call { callee := .builtin .copy,args:=#[d,s],argTypes:=#[t,t'] }) (v u:Value) (hd:a.eval d=v) (hs:a.eval s=u)
  {R:Value→World→Prop} (hr:∃ v' w',(Builtin.copy_ #[t,t'] o.type #[v,u]).run P w = .ok v' w'∧R v' w') (h:∀ v' w',R v' w'→K (a.put o.dst v') w') :
  if Region.wanted o (yielded ops a.tmps)=true then Oper.wp P o a w K Q else E:=by
 have hw:Region.wanted o (yielded ops a.tmps)=true:=by simp [Region.wanted,hgd]
 rw [if_pos hw]
 exact wp_copy_of d s ho v u hd hs hr h
end
end Go.Proofs.YthgnlfikneipiaaGreat
namespace Go.Proofs.YthgnlfikneipiaaGreat
open Go.RowKit
def lay_ (cur:Array Value) (o:Nat) (cs:List Value):Array Value:=(cur.toList.take o++cs++cur.toList.drop (o+cs.length)).toArray
theorem lay_get (cur:Array Value) (o:Nat) (cs:List Value) (hfit:o+cs.length≤cur.size) (i:Nat):(lay_ cur o cs)[i]?=if i < o then cur[i]? else if i < o+cs.length then cs[i-o]? else cur[i]?:=by
 unfold lay_
 rw [List.getElem?_toArray,List.append_assoc,List.getElem?_append,List.length_take,Array.length_toList,Nat.min_eq_left (by omega)]
 by_cases h1:i < o
 ·rw [if_pos h1,if_pos h1,List.getElem?_take,if_pos h1,Array.getElem?_toList]
 ·rw [if_neg h1,if_neg h1,List.getElem?_append]
  by_cases h2:i < o+cs.length
  ·rw [if_pos (by omega),if_pos h2]
  ·rw [if_neg (by omega),if_neg h2,List.getElem?_drop,Array.getElem?_toList]
   congr 1;omega
theorem lay_sz (cur:Array Value) (o:Nat) (cs:List Value) (hfit:o+cs.length≤cur.size):(lay_ cur o cs).size=cur.size:=by
 unfold lay_
 simp only [List.size_toArray,List.length_append,List.length_take,List.length_drop,Array.length_toList]
 omega
def Piece (cur:Array Value) (o:Nat) (cs:List Value):Prop:=∀ j u,cs[j]?=some u→cur[o+j]?=some u
theorem Piece.lay (cur:Array Value) (o:Nat) (cs:List Value) (hfit:o+cs.length≤cur.size):Piece (lay_ cur o cs) o cs:=fun j u h=>by
 have hj:=(List.getElem?_eq_some_iff.1 h).1
 rw [lay_get cur o cs hfit,if_neg (by omega),if_pos (by omega),Nat.add_sub_cancel_left];exact h
theorem Piece.stay {cur:Array Value} {p:Nat} {ds:List Value} (h:Piece cur p ds) (o:Nat) (cs:List Value) (hfit:o+cs.length≤cur.size) (hd:p+ds.length≤o∨o+cs.length≤p):Piece (lay_ cur o cs) p ds:=fun j u hu=>by
 have hj:=(List.getElem?_eq_some_iff.1 hu).1
 rw [lay_get cur o cs hfit]
 by_cases h1:p+j < o
 ·rw [if_pos h1];exact h j u hu
 ·rw [if_neg h1,if_neg (by omega)];exact h j u hu
theorem Piece.app {cur:Array Value} {o:Nat} {a b:List Value} (h:Piece cur o a) (k:Piece cur (o+a.length) b):Piece cur o (a++b):=fun j u hu=>by
 rw [List.getElem?_append] at hu
 split at hu
 ·exact h j u hu
 ·rename_i hj
  have:=k _ u hu
  rwa [show o+a.length+(j-a.length)=o+j by omega] at this
theorem Piece.left {cur:Array Value} {o:Nat} {a b:List Value} (h:Piece cur o (a++b)):Piece cur o a:=fun j u hu=>by
 refine h j u ?_
 rw [List.getElem?_append_left (List.getElem?_eq_some_iff.1 hu).1];exact hu
theorem Piece.right {cur:Array Value} {o:Nat} {a b:List Value} (h:Piece cur o (a++b)):Piece cur (o+a.length) b:=fun j u hu=>by
 have:=h (a.length+j) u (by rw [List.getElem?_append_right (by omega),Nat.add_sub_cancel_left];exact hu)
 rwa [← Nat.add_assoc] at this
theorem Piece.of_take {cur:Array Value} {cs:List Value} {n:Nat} (h:cur.toList.take n=cs):Piece cur 0 cs:=fun j u hu=>by
 rw [← h,List.getElem?_take] at hu
 split at hu
 ·rw [Nat.zero_add,← Array.getElem?_toList];exact hu
 ·simp at hu
theorem Piece.take {cur:Array Value} {cs:List Value} {n:Nat} (h:Piece cur 0 cs) (hn:n=cs.length):cur.toList.take n=cs:=by
 subst hn
 apply List.ext_getElem?
 intro j
 rw [List.getElem?_take]
 by_cases hj:j < cs.length
 ·rw [if_pos hj,Array.getElem?_toList]
  have:=h j cs[j] (List.getElem?_eq_getElem hj)
  rw [Nat.zero_add] at this
  rw [this,List.getElem?_eq_getElem hj]
 ·rw [if_neg hj,List.getElem?_eq_none (by omega)]
theorem Piece.cell {w:World} {g:Nat} {cur:Array Value} {e:TypeId} {f:Nat×Nat} {o:Nat} {cs:List Value} (h:Piece cur o cs) (hg:w.heap[g]?=some (.cells cur e f)):∀ j u,cs[j]?=some u→w.cell? ⟨g,o+j,none⟩=some u:=fun j u hu=>by
 rw [cell_of_row w g (o+j) cur e f hg];exact h j u hu
theorem flat_split {α:Type} (c:α→List Value) (l:List α) (i:Nat):l.flatMap c=(l.take i).flatMap c++(l.drop i).flatMap c:=by
 rw [← List.flatMap_append,List.take_append_drop]
theorem OwnN.open_ {α:Type} {sz:Nat} {c:α→List Value} {base:Nat} {e:TypeId} {w:World} {g n cap:Nat} {l:List α} (hsz:∀ x,(c x).length=sz) (h:OwnN sz c base e w (.slice (some ⟨g,0,none⟩) n cap) l) :
  n=l.length∧base≤g∧l.length≤cap∧cap≤maxLen∧∃ cur:Array Value,w.heap[g]?=some (.cells cur e (0,0))∧cur.size=cap*sz∧Piece cur 0 (l.flatMap c):=by
 obtain ⟨h1,h2⟩:=h
 rcases h2 with ⟨he,_⟩|⟨g',cap',cur,he,hb,hg,hc,hm,hs,ht⟩
 ·simp at he
 ·injection he with e1 e2 e3
  injection e1 with e1;injection e1 with e1
  subst e1;subst e2;subst e3
  exact ⟨rfl,hb,hc,hm,cur,hg,hs,Piece.of_take ht⟩
theorem OwnN.of_piece {α:Type} {sz:Nat} {c:α→List Value} {base:Nat} {e:TypeId} {w:World} {g n cap:Nat} {l:List α} (hsz:∀ x,(c x).length=sz) (cur:Array Value) (hn:n=l.length) (hb:base≤g) (hc:l.length≤cap) (hm:cap≤maxLen)
  (hg:w.heap[g]?=some (.cells cur e (0,0))) (hs:cur.size=cap*sz) (hp:Piece cur 0 (l.flatMap c)):OwnN sz c base e w (.slice (some ⟨g,0,none⟩) n cap) l:=by
 subst hn
 exact ⟨flatMap_len hsz l,.inr ⟨g,cap,cur,rfl,hb,hg,hc,hm,hs,hp.take (flatMap_len hsz l).symm⟩⟩
theorem OwnN.slice_ {α:Type} {sz:Nat} {c:α→List Value} {base:Nat} {e:TypeId} {w:World} {v:Value} {l:List α} (h:OwnN sz c base e w v l):∃ ao n co,v = .slice ao n co:=by
 rcases h.2 with ⟨rfl,_⟩|⟨_,_,_,rfl,_⟩
 ·exact ⟨_,_,_,rfl⟩
 ·exact ⟨_,_,_,rfl⟩
theorem Upd.setRow {S:List Nat} {a b:World} (h:Upd S a b) (g:Nat) (cs:Array Value) (hg:g∈S∨a.heap.size≤g):Upd S a (b.setRow g cs) :=
 ⟨h.os,h.tape,h.output,by have:=h.size;simp;omega,fun k hk hn=>by
  rw [setRow_other b g k cs (fun e=>by subst e;rcases hg with q|q;exact hn q;omega)];exact h.block k hk hn⟩
section
variable {P : Program}
theorem run_copy_lay {dT sT ty elem t:TypeId} {sz g o dLen dCap:Nat} {a:Addr} {sLen sCap:Nat} {cur:Array Value} {cs:List Value} {k:Nat}
  (hu:P.underlying dT=some (.slice elem)) (hs:(P.info? elem).map (·.size)=some sz) (w:World)
  (hg:w.heap[g]?=some (.cells cur t (0,0))) (hk:Nat.min sLen dLen=k) (hn:cs.length=k*sz)
  (hsrc:∀ j v,cs[j]?=some v→w.cell? (a.add j)=some v) (hfit:o+cs.length≤cur.size) (h1:∀ v∈cs,v.oneCell'=true) :
  (Builtin.copy_ #[dT,sT] ty #[.slice (some ⟨g,o,none⟩) dLen dCap,.slice (some a) sLen sCap]).run P w = .ok (goInt k) (w.setRow g (lay_ cur o cs)) :=
 run_copyN w dT sT ty elem sz g o dLen dCap a sLen sCap cur t cs k hu hs hg hk hn hsrc hfit h1
theorem run_app_lay {t ty e et:TypeId} {sz:Nat} (ht:P.underlying t=some (.slice e)) (hi:(P.info? e).map (·.size)=some sz) {g n cap m c:Nat} {a:Addr} {cur:Array Value} {news:List Value} (w:World)
  (hg:w.heap[g]?=some (.cells cur et (0,0))) (hl:news.length=m*sz) (hnews:∀ j u,news[j]?=some u→w.cell? (a.add j)=some u) (h1:∀ u∈news,u.oneCell'=true)
  (hroom:n+m≤cap) (hfit:n*sz+news.length≤cur.size) :
  (Builtin.append_ #[t,t] ty #[.slice (some ⟨g,0,none⟩) n cap,.slice (some a) m c]).run P w = .ok (.slice (some ⟨g,0,none⟩) (n+m) cap) (w.setRow g (lay_ cur (n*sz) news)):=by
 obtain ⟨i,hi1,rfl⟩:∃ i,P.info? e=some i∧i.size=sz:=by
  cases hq:P.info? e with
  | none=>simp [hq] at hi
  | some i=>exact ⟨i,rfl,by simpa [hq] using hi⟩
 have hfc:=run_firstCells_some (P:=P) w i.size m a m c news hl hnews
 have hst:=run_storeCells_at (P:=P) g (n*i.size) et news 0 cur w hg (by simpa using hfit) h1
 simp only [Nat.add_zero] at hst
 simp [Builtin.append_,run_underlying ht,sizeOf,typeInfo,hi1,Builtin.lenOf,hroom,hfc,Addr.add_lit,hst,lay_]
theorem run_clear_lay {t ty e et:TypeId} {z:Value} {sz bytes:Nat} (ht:P.underlying t=some (.slice e)) (hi:(P.info? e).map (fun i=>(i.zero,i.size,i.bytes))=some (some z,sz,bytes)) (hz:z.cells.size=sz) (h1:∀ u∈z.cells,u.oneCell'=true)
  {g o n c:Nat} {cur:Array Value} (w:World) (hn:0 < n) (hg:w.heap[g]?=some (.cells cur et (0,0))) (hfit:o+n*sz≤cur.size) :
  (Builtin.clear_ #[t] ty #[.slice (some ⟨g,o,none⟩) n c]).run P w = .ok (.tuple #[]) (w.setRow g (lay_ cur o (Builtin.zeroCells z.cells n).toList)):=by
 obtain ⟨n,rfl⟩:∃ k,n=k+1:=⟨n-1,by omega⟩
 obtain ⟨i,i1,i2,i3,i4⟩:=info_parts hi
 have hzl:(Builtin.zeroCells z.cells (n+1)).toList.length=(n+1)*sz:=by rw [Array.length_toList,size_zeroCells,hz]
 have hst:=run_storeCells_at (P:=P) g o et _ 0 cur w hg (by rw [hzl];simpa using hfit) (zeroCells_one h1 (n+1))
 simp only [Nat.add_zero] at hst
 have hzv:(zeroValue e).run P w = .ok z w:=by simp [zeroValue,typeInfo,i1,i2]
 simp only [Builtin.clear_]
 simp [run_underlying ht,hzv,hst,lay_]
end
section
variable {P : Program} {ops : Array Oper} {rest : List Oper} {o : Oper} {a : Act} {w w' : World} {Q : Exit → Act → World → Prop} {K : Act → World → Prop} {E : Prop}
theorem wpList_clear_of (hgd:o.guard=none) (s:Operand) {t:TypeId} (ho:o.op = .call { callee := .builtin .clear,args:=#[s],argTypes:=#[t] }) (v:Value) (hs:a.eval s=v)
  {R:Value→World→Prop} (hr:∃ v' w',(Builtin.clear_ #[t] o.type #[v]).run P w = .ok v' w'∧R v' w') (h:∀ v' w',R v' w'→wpList P ops Q rest (a.put o.dst v') w'):wpList P ops Q (o::rest) a w:=by
 obtain ⟨v',w',hr,hR⟩:=hr
 refine wpList_plain hgd fun K hK=>?_
 unfold Oper.wp execOp
 simp only [ho,resolve,invoke,builtin,Sem.run_bind,Sem.run_pure,Result.andThen_ok,List.map_toArray,List.map_cons,List.map_nil,hs,hr]
 exact hK _ _ (h v' w' hR)
end
section
variable {P : Program} {ops : Array Oper} {rest : List Oper} {o : Oper} {a : Act} {w w' : World} {Q : Exit → Act → World → Prop} {K : Act → World → Prop} {E : Prop}
theorem step_app_eq (hgd:o.guard=none) (s x:Operand) (t:TypeId) (ho:o.op = .call { callee := .builtin .append,args:=#[s,x],argTypes:=#[t,t] }) (v u:Value) (hs:a.eval s=v) (hx:a.eval x=u)
  {v':Value} (hr:(Builtin.append_ #[t,t] o.type #[v,u]).run P w = .ok v' w') (h:K (a.put o.dst v') w') :
  if Region.wanted o (yielded ops a.tmps)=true then Oper.wp P o a w K Q else E :=
 step_app_of hgd s x ho v u hs hx (R:=fun p q=>p=v'∧q=w') ⟨_,_,hr,rfl,rfl⟩ (fun _ _ ⟨h1,h2⟩=>by rw [h1,h2];exact h)
theorem step_copy_eq (hgd:o.guard=none) (d s:Operand) (t t':TypeId) (ho:o.op = .call { callee := .builtin .copy,args:=#[d,s],argTypes:=#[t,t'] }) (v u:Value) (hd:a.eval d=v) (hs:a.eval s=u)
  {v':Value} (hr:(Builtin.copy_ #[t,t'] o.type #[v,u]).run P w = .ok v' w') (h:K (a.put o.dst v') w') :
  if Region.wanted o (yielded ops a.tmps)=true then Oper.wp P o a w K Q else E :=
 step_copy_of hgd d s ho v u hd hs (R:=fun p q=>p=v'∧q=w') ⟨_,_,hr,rfl,rfl⟩ (fun _ _ ⟨h1,h2⟩=>by rw [h1,h2];exact h)
theorem wpList_copy_eq (hgd:o.guard=none) (d s:Operand) (t t':TypeId) (ho:o.op = .call { callee := .builtin .copy,args:=#[d,s],argTypes:=#[t,t'] }) (v u:Value) (hd:a.eval d=v) (hs:a.eval s=u)
  {v':Value} (hr:(Builtin.copy_ #[t,t'] o.type #[v,u]).run P w = .ok v' w') (h:wpList P ops Q rest (a.put o.dst v') w'):wpList P ops Q (o::rest) a w :=
 wpList_copy_of hgd d s ho v u hd hs (R:=fun p q=>p=v'∧q=w') ⟨_,_,hr,rfl,rfl⟩ (fun _ _ ⟨h1,h2⟩=>by rw [h1,h2];exact h)
theorem wpList_clear_eq (hgd:o.guard=none) (s:Operand) (t:TypeId) (ho:o.op = .call { callee := .builtin .clear,args:=#[s],argTypes:=#[t] }) (v:Value) (hs:a.eval s=v)
  {v':Value} (hr:(Builtin.clear_ #[t] o.type #[v]).run P w = .ok v' w') (h:wpList P ops Q rest (a.put o.dst v') w'):wpList P ops Q (o::rest) a w :=
 wpList_clear_of hgd s ho v hs (R:=fun p q=>p=v'∧q=w') ⟨_,_,hr,rfl,rfl⟩ (fun _ _ ⟨h1,h2⟩=>by rw [h1,h2];exact h)
theorem wpList_app_eq (hgd:o.guard=none) (s x:Operand) (t t':TypeId) (ho:o.op = .call { callee := .builtin .append,args:=#[s,x],argTypes:=#[t,t'] }) (v u:Value) (hs:a.eval s=v) (hx:a.eval x=u)
  {v':Value} (hr:(Builtin.append_ #[t,t'] o.type #[v,u]).run P w = .ok v' w') (h:wpList P ops Q rest (a.put o.dst v') w'):wpList P ops Q (o::rest) a w:=by
 refine wpList_plain hgd fun K hK=>?_
 unfold Oper.wp execOp
 simp only [ho,resolve,invoke,builtin,Sem.run_bind,Sem.run_pure,Result.andThen_ok,List.map_toArray,List.map_cons,List.map_nil,hs,hx,hr]
 exact hK _ _ h
end
theorem mem_flat_one {α:Type} {c:α→List Value} (hone:∀ x,∀ u∈c x,u.oneCell'=true) (l:List α):∀ u∈l.flatMap c,u.oneCell'=true:=fun u hu=>by
 obtain ⟨x,_,hx⟩:=List.mem_flatMap.1 hu;exact hone x u hx
end Go.Proofs.YthgnlfikneipiaaGreat
namespace Go.Proofs.YthgnlfikneipiaaGreat
open Go.RowKit
theorem flatMap_set {α:Type} {sz:Nat} {c:α→List Value} (hsz:∀ x,(c x).length=sz) (i:Nat) (hi:i < sz) (u:Value) (y:α):∀ (l:List α) (k:Nat) (hk:k < l.length),c y=(c l[k]).set i u→(l.set k y).flatMap c=(l.flatMap c).set (k*sz+i) u
 | x::l,0,_,h=>by
  simp only [List.set_cons_zero,List.flatMap_cons,Nat.zero_mul,Nat.zero_add]
  rw [List.set_append_left _ _ (by rw [hsz];exact hi)]
  simp only [List.getElem_cons_zero] at h
  rw [h]
 | x::l,k+1,hk,h=>by
  simp only [List.set_cons_succ,List.flatMap_cons]
  have e:(k+1)*sz+i=(c x).length+(k*sz+i):=by rw [hsz,Nat.add_mul];omega
  rw [e,List.set_append_right _ _ (by omega),Nat.add_sub_cancel_left]
  rw [flatMap_set hsz i hi u y l k (by simpa using hk) (by simpa using h)]
theorem OwnN.set_ {α:Type} {sz:Nat} {c:α→List Value} {base:Nat} {e:TypeId} {w:World} {g n cap:Nat} {l:List α} (hsz:∀ x,(c x).length=sz) (h:OwnN sz c base e w (.slice (some ⟨g,0,none⟩) n cap) l) (k i:Nat) (hk:k < l.length) (hi:i < sz) (u:Value) (y:α) (hy:c y=(c l[k]).set i u) :
  OwnN sz c base e (w.setCell ⟨g,k*sz+i,none⟩ u) (.slice (some ⟨g,0,none⟩) n cap) (l.set k y):=by
 obtain ⟨h1,h2⟩:=h
 rcases h2 with ⟨he,_⟩|⟨g',cap',cur,he,hb,hg,hc,hm,hs,ht⟩
 ·simp at he
 ·injection he with e1 e2 e3
  injection e1 with e1;injection e1 with e1
  subst e1;subst e2;subst e3
  refine ⟨by rw [flatMap_len hsz],.inr ⟨g,cap,cur.setIfInBounds (k*sz+i) u,by simp,hb,?_,by simpa using hc,hm,by simpa using hs,?_⟩⟩
  ·exact heap_setCell_same w g (k*sz+i) cur e u hg
  ·rw [List.length_set,Array.toList_setIfInBounds,List.take_set,ht,flatMap_set hsz i hi u y l k hk hy]
end Go.Proofs.YthgnlfikneipiaaGreat
namespace Go.Proofs.YthgnlfikneipiaaGreat
open Go.RowKit
def Ap (F G:List Nat):Prop:=∀ x∈F,x∉G
theorem Ap.symm {F G:List Nat} (h:Ap F G):Ap G F:=fun x hx hF=>h x hF hx
theorem Ap.nil {G:List Nat}:Ap [] G:=fun x hx=>by simp at hx
theorem Ap.new {F G:List Nat} {n:Nat} (hf:∀ y∈F,n≤y) (hg:∀ x∈G,x < n):Ap F G:=fun x hx hG=>by have:=hf x hx;have:=hg x hG;omega
theorem Ap.next {F F' G:List Nat} {n:Nat} (h:Ap F G) (hf:∀ y∈F',y∈F∨n≤y) (hg:∀ x∈G,x < n):Ap F' G:=fun x hx hG=>by
 rcases hf x hx with q|q
 ·exact h x q hG
 ·have:=hg x hG;omega
end Go.Proofs.YthgnlfikneipiaaGreat
namespace Go.Proofs.YthgnlfikneipiaaGreat
open Go.RowKit
abbrev KB:=Nat→List UInt8×Nat
abbrev OwnB (base:Nat) (w:World) (x:Nat) (c:List UInt8×Nat):Prop:=Own bv base 5 w (.slice (some ⟨x,0,none⟩) c.1.length c.2) c.1
structure Bks (base:Nat) (w:World) (B:List Nat) (K:KB):Prop where
 own:∀ x∈B,OwnB base w x (K x)
structure Sh (B:List Nat) (K:KB) (s:Sl) (l:List UInt8):Prop where
 n:s.n=l.length
 k:s.n≤s.k
 m:s.k≤maxLen
 nul:s.a=none→s.k=0
 ex:l≠[]→∃ b off,s.a=some ⟨b,off,none⟩∧b∈B∧off+l.length≤(K b).1.length∧((K b).1.drop off).take l.length=l
def Gr (B:List Nat) (K:KB) (s:Sl) (l:List UInt8):Prop:=s.n < s.k→∃ b,s.a=some ⟨b,0,none⟩∧b∈B∧K b=(l,s.k)
def gb (s:Sl):List Nat:=if s.n < s.k then blk (slv s) else []
structure Ext (B:List Nat) (K:KB) (B':List Nat) (K':KB):Prop where
 sub:∀ x∈B,x∈B'
 pre:∀ x∈B,∃ t,(K' x).1=(K x).1++t
section
variable {base : Nat} {w w' : World} {B B' B'' : List Nat} {K K' K'' : KB} {s : Sl} {l : List UInt8}
theorem Ext.refl (B:List Nat) (K:KB):Ext B K B K:=⟨fun _ h=>h,fun _ _=>⟨[],(List.append_nil _).symm⟩⟩
theorem Bks.upd (h:Bks base w B K) {S:List Nat} (hu:Upd S w w') (hs:∀ x∈B,x∉S):Bks base w' B K :=
 ⟨fun x hx=>(h.own x hx).upd hu (fun y hy=>by simp [blk] at hy;subst hy;exact hs _ hx)⟩
theorem Bks.ge (h:Bks base w B K):∀ x∈B,base≤x∧x < w.heap.size:=fun x hx=>(h.own x hx).ge x (by simp [blk])
theorem Bks.typ (h:Bks base w B K):∀ x∈B,∃ C f,w.heap[x]?=some (.cells C 5 f):=fun x hx=>by
 rcases (h.own x hx).2 with ⟨he,_⟩|⟨g,cap,cur,he,_,hg,_⟩
 ·simp at he
 ·injection he with e1 e2 e3;injection e1 with e1;injection e1 with e1 e4;subst e1;exact ⟨_,_,hg⟩
theorem Sh.ext (h:Sh B K s l) (he:Ext B K B' K'):Sh B' K' s l:=by
 refine ⟨h.n,h.k,h.m,h.nul,fun hne=>?_⟩
 obtain ⟨b,off,h1,h2,h3,h4⟩:=h.ex hne
 obtain ⟨t,ht⟩:=he.pre b h2
 refine ⟨b,off,h1,he.sub b h2,by rw [ht,List.length_append];omega,?_⟩
 rw [ht,List.drop_append_of_le_length (by omega),List.take_append_of_le_length (by rw [List.length_drop];omega)]
 exact h4
theorem Sh.rd (hB:Bks base w B K) (h:Sh B K s l):Bytes w (slv s) l:=by
 have h1:=h.n
 have h2:=h.k
 have h3:=h.m
 have h4:=h.ex
 obtain ⟨a,n,k⟩:=s
 dsimp only at h1 h2 h3 h4
 subst h1
 refine ⟨a,k,rfl,h2,h3,fun hne=>?_⟩
 obtain ⟨b,off,rfl,hb,h5,h6⟩:=h4 hne
 refine ⟨b,off,rfl,fun j hj=>?_⟩
 obtain ⟨a',k',he,-,-,hc⟩:=(hB.own b hb).rd
 injection he with e1 e2 e3
 subst e1
 obtain ⟨b',off',e4,hc⟩:=hc (fun q=>by rw [q] at h5;simp only [List.length_nil] at h5;omega)
 injection e4 with e4;injection e4 with e4 e5;subst e4;subst e5
 have hq:=hc (off+j) (by omega)
 rw [Nat.zero_add] at hq
 have hn:nth l j=nth (K b).1 (off+j):=by
  have:nth (((K b).1.drop off).take l.length) j=nth l j:=by rw [h6]
  rw [← this,nth_take _ _ _ hj,nth_drop]
 rw [hn];exact hq
theorem gb_in (hg:Gr B K s l):∀ x∈gb s,x∈B∧K x=(l,s.k)∧s.a=some ⟨x,0,none⟩:=by
 intro x hx
 unfold gb at hx
 split at hx
 ·rename_i h
  obtain ⟨b,h1,h2,h3⟩:=hg h
  rw [show slv s = .slice s.a s.n s.k from rfl,h1] at hx
  simp [blk] at hx;subst hx
  exact ⟨h2,h3,h1⟩
 ·simp at hx
theorem Gr.full (h:s.k≤s.n):Gr B K s l:=fun q=>absurd q (by omega)
theorem gb_full (h:s.k≤s.n):gb s=[]:=by unfold gb;rw [if_neg (by omega)]
theorem Sh.nil:Sh B K ⟨none,0,0⟩ []:=⟨rfl,Nat.le_refl _,Nat.zero_le _,fun _=>rfl,fun h=>absurd rfl h⟩
theorem Sh.cut (h:Sh B K s l) (n:Nat) (hn:n≤l.length):Sh B K ⟨s.a,n,n⟩ (l.take n):=by
 have h1:=h.n
 have h2:=h.k
 have h3:=h.m
 refine ⟨by rw [List.length_take];show n=_;omega,Nat.le_refl _,by show n≤_;omega,fun q=>by have:=h.nul q;show n=0;omega,fun hne=>?_⟩
 have hl:l≠[]:=fun q=>hne (by rw [q];simp)
 obtain ⟨b,off,e1,e2,e3,e4⟩:=h.ex hl
 refine ⟨b,off,e1,e2,by rw [List.length_take];omega,?_⟩
 rw [List.length_take,Nat.min_eq_left hn,← e4,List.take_take,Nat.min_eq_left hn]
theorem Bks.new (hB:Bks base w B K) {w':World} {v:Value} {l:List UInt8} (ho:Own bv w.heap.size 5 w' v l) (hu:Upd [] w w') (hbase:base≤w.heap.size) :
  ∃ s B' K',v=slv s∧Bks base w' B' K'∧Ext B K B' K'∧(∀ x∈B',x∈B∨w.heap.size≤x)∧Sh B' K' s l∧Gr B' K' s l∧(∀ x∈gb s,w.heap.size≤x)∧(∀ x∈B,K' x=K x):=by
 have ho':=ho
 obtain ⟨h1,h2⟩:=ho'
 rcases h2 with ⟨rfl,hn⟩|⟨g,cap,cur,rfl,hb,hg,hc,hm,hs,ht⟩
 ·obtain rfl:l=[]:=List.eq_nil_of_length_eq_zero hn
  exact ⟨⟨none,0,0⟩,B,K,rfl,hB.upd hu (by simp),Ext.refl _ _,fun x hx => .inl hx,Sh.nil,Gr.full (Nat.le_refl _),fun x hx=>by rw [gb_full (Nat.le_refl _)] at hx;simp at hx,fun _ _=>rfl⟩
 ·have hne:∀ x∈B,x≠g:=fun x hx q=>by have:=(hB.ge x hx).2;omega
  have hk:∀ x∈B,(if x=g then (l,cap) else K x)=K x:=fun x hx=>if_neg (hne x hx)
  refine ⟨⟨some ⟨g,0,none⟩,l.length,cap⟩,g::B,fun x=>if x=g then (l,cap) else K x,rfl,⟨fun x hx=>?_⟩,⟨fun x hx=>by simp [hx],fun x hx=>⟨[],by rw [hk x hx,List.append_nil]⟩⟩,fun x hx=>?_,⟨rfl,hc,hm,fun q=>by simp at q,fun _=>⟨g,0,rfl,by simp,by simp,by simp⟩⟩,fun _=>⟨g,rfl,by simp,by simp⟩,fun x hx=>?_,hk⟩
  ·rcases List.mem_cons.1 hx with rfl|hx
   ·show OwnB base w' x (if x=x then (l,cap) else K x)
    rw [if_pos rfl];exact ho.base_le hbase
   ·show OwnB base w' x (if x=g then (l,cap) else K x)
    rw [hk x hx];exact (hB.own x hx).upd hu (by simp)
  ·rcases List.mem_cons.1 hx with rfl|hx
   ·exact .inr hb
   ·exact .inl hx
  ·unfold gb at hx
   split at hx
   ·simp [blk] at hx;omega
   ·simp at hx
theorem Gr.keep (h:Gr B K s l) (hs:∀ x∈B,x∈B') (hk:∀ x∈B,K' x=K x):Gr B' K' s l:=fun q=>by
 obtain ⟨b,h1,h2,h3⟩:=h q
 exact ⟨b,h1,hs b h2,by rw [hk b h2,h3]⟩
def Grew (base:Nat) (w:World) (B:List Nat) (K:KB) (s:Sl) (l:List UInt8) (v':Value) (w':World):Prop :=
 ∃ s' B' K',v'=slv s'∧Bks base w' B' K'∧Ext B K B' K'∧(∀ x∈B',x∈B∨w.heap.size≤x)∧Sh B' K' s' l∧Gr B' K' s' l∧Upd B w w'∧(∀ s2 l2,Gr B K s2 l2→Ap (gb s2) (gb s)→Gr B' K' s2 l2∧Ap (gb s2) (gb s'))
theorem infoB8:(Tryz.prog.info? 5).map (fun i=>(i.zero,i.size,i.bytes))=some (some (.int .u8 0),1,1):=by kernel_rfl
theorem app_step {ty:TypeId} {u:Value} {p:List UInt8} (hB:Bks base w B K) (hs:Sh B K s l) (hg:Gr B K s l) (hp:Bytes w u p) (hne:p≠[]) (hlen:l.length+p.length≤1000000000) (hbase:base≤w.heap.size) :
  ∃ v' w',(Builtin.append_ #[33,33] ty #[slv s,u]).run Tryz.prog w = .ok v' w'∧Grew base w B K s (l++p) v' w':=by
 have hrd:=hs.rd hB
 have h1:=hs.n
 have h2:=hs.k
 have h3:=hs.m
 have h4:=hs.nul
 have hmax:l.length+p.length≤maxLen:=by unfold maxLen;omega
 obtain ⟨i,i1,i2,i3,i4⟩:=info_parts infoB8
 obtain ⟨A,cap,rfl,hle,hcm,hcell0⟩:=hp
 obtain ⟨pb,poff,rfl,hcell⟩:=hcell0 hne
 have hnews:∀ j u,(p.map bv)[j]?=some u→w.cell? ((⟨pb,poff,none⟩:Addr).add j)=some u:=fun j u hj=>by
  rw [add_none]
  rw [List.getElem?_map] at hj
  obtain ⟨x,hx,rfl⟩:=Option.map_eq_some_iff.1 hj
  rw [hcell j (List.getElem?_eq_some_iff.1 hx).1,nth_of p j x hx]
 have hpos:0 < p.length:=List.length_pos_iff.2 hne
 by_cases hroom:l.length+p.length≤s.k
 ·
  obtain ⟨b,hb,hbB,hK⟩:=hg (by omega)
  have hown:=hB.own b hbB
  rw [hK] at hown
  obtain ⟨o1,o2⟩:=hown
  rcases o2 with ⟨he,_⟩|⟨g,cap',cur,he,hbg,hgc,hnc,hcm',hcs,htk⟩
  ·simp at he
  injection he with e1 e2 e3
  injection e1 with e1;injection e1 with e1 e5;subst e1
  dsimp only at e3 hcs htk
  rw [Nat.mul_one] at hcs htk
  have hfit:l.length*i.size+(p.map bv).length≤cur.size:=by rw [i3,Nat.mul_one,List.length_map,hcs,← e3];exact hroom
  have hr:=run_append_room (P:=Tryz.prog) w 33 ty 5 i Tryz.underlying33 i1 b l.length s.k cur hgc ⟨pb,poff,none⟩ p.length cap (p.map bv) (by simp [i3]) hnews (oneCell_map bv_one p) hroom hfit
  rw [i3,Nat.mul_one,List.length_map,htk] at hr
  rw [show slv s = .slice s.a s.n s.k from rfl,hb,h1]
  generalize hys:(l.map bv++p.map bv++cur.toList.drop (l.length+p.length)).toArray=ys at hr
  have hys2:ys.toList=(l++p).map bv++cur.toList.drop (l.length+p.length):=by rw [← hys];simp
  have hysz:ys.size=s.k:=by
   rw [← hys]
   simp only [List.size_toArray,List.length_append,List.length_map,List.length_drop,Array.length_toList,hcs]
   omega
  have hnew:OwnB base (w.setRow b ys) b (l++p,s.k):=by
   refine ⟨by simp,.inr ⟨b,s.k,ys,rfl,hbg,setRow_heap w b cur ys _ _ hgc,by simp;omega,h3,by rw [hysz,Nat.mul_one],?_⟩⟩
   rw [hys2,Nat.mul_one,List.take_append_of_le_length (by simp)]
   exact List.take_of_length_le (by simp)
  have hu:Upd [b] w (w.setRow b ys):=⟨rfl,rfl,rfl,by simp,fun k _ hk=>setRow_other w b k _ (by simpa using hk)⟩
  refine ⟨_,_,hr,⟨some ⟨b,0,none⟩,l.length+p.length,s.k⟩,B,fun x=>if x=b then (l++p,s.k) else K x,rfl,⟨fun x hx=>?_⟩,⟨fun _ h=>h,fun x hx=>?_⟩,fun x hx => .inl hx,⟨by simp,hroom,h3,fun q=>by simp at q,fun _=>⟨b,0,rfl,hbB,by show 0+_≤(if b=b then (l++p,s.k) else K b).1.length;rw [if_pos rfl];simp,by show ((if b=b then (l++p,s.k) else K b).1.drop 0).take _=_;rw [if_pos rfl];exact List.take_length⟩⟩,fun _=>⟨b,rfl,hbB,by show (if b=b then (l++p,s.k) else K b)=_;rw [if_pos rfl]⟩,hu.mono (fun x hx=>by simp at hx;subst hx;exact .inl hbB),fun s2 l2 g2 hap=>?_⟩
  ·show OwnB base (w.setRow b ys) x (if x=b then (l++p,s.k) else K x)
   split
   ·rename_i h;subst h;exact hnew
   ·rename_i h;exact (hB.own x hx).upd hu (fun y hy=>by simp [blk] at hy;subst hy;simpa using h)
  ·show ∃ t,(if x=b then (l++p,s.k) else K x).1=(K x).1++t
   split
   ·rename_i h;subst h;rw [hK];exact ⟨p,rfl⟩
   ·exact ⟨[],(List.append_nil _).symm⟩
  ·have hgb:gb s=[b]:=by unfold gb;rw [if_pos (by omega),show slv s = .slice s.a s.n s.k from rfl,hb];rfl
   rw [hgb] at hap
   refine ⟨fun q=>?_,fun x hx=>?_⟩
   ·obtain ⟨b2,q1,q2,q3⟩:=g2 q
    have hn2:b2≠b:=fun e=>hap b2 (by unfold gb;rw [if_pos q,show slv s2 = .slice s2.a s2.n s2.k from rfl,q1];simp [blk]) (by simp [e])
    exact ⟨b2,q1,q2,by show (if b2=b then (l++p,s.k) else K b2)=_;rw [if_neg hn2,q3]⟩
   ·have h9:=hap x hx
    unfold gb
    split
    ·simpa [blk] using h9
    ·simp
 ·
  have key:∃ v' w',(Builtin.append_ #[33,33] ty #[slv s,.slice (some ⟨pb,poff,none⟩) p.length cap]).run Tryz.prog w = .ok v' w'∧Own bv w.heap.size 5 w' v' (l++p)∧Upd [] w w':=by
   obtain ⟨a,n,k⟩:=s
   dsimp only at h1 h2 h3 h4 hroom hrd
   subst h1
   cases a with
   | some ad =>
    have holds:∀ j u,(l.map bv)[j]?=some u→w.cell? (ad.add j)=some u:=fun j u hj=>by
     rw [List.getElem?_map] at hj
     obtain ⟨x,hx,rfl⟩:=Option.map_eq_some_iff.1 hj
     have hjl:=(List.getElem?_eq_some_iff.1 hx).1
     obtain ⟨a',k',he,-,-,hc⟩:=hrd
     have e1:some ad=a':=(Value.slice.inj he).1
     obtain ⟨b,off,e4,hc⟩:=hc (by intro q;rw [q] at hjl;simp at hjl)
     obtain rfl:ad=⟨b,off,none⟩:=Option.some.inj (e1.trans e4)
     rw [add_none,hc j hjl,nth_of l j x hx]
    obtain ⟨v',w',hr,r1,r2⟩:=run_append_arg_grows (P:=Tryz.prog) w 33 ty 5 i _ 1 1 Tryz.underlying33 i1 i2 i3 i4 rfl (by decide) ad l.length k (l.map bv) (by simp) holds ⟨pb,poff,none⟩ p.length cap (p.map bv) (by simp) hnews (by omega) hmax (by omega)
    exact ⟨v',w',hr,by unfold Own;rw [List.length_append,List.map_append];exact r1,Upd.of_grown r2⟩
   | none =>
    obtain rfl:k=0:=h4 rfl
    obtain rfl:l=[]:=List.eq_nil_of_length_eq_zero (by omega)
    obtain ⟨v',w',hr,r1,r2,_⟩:=run_append_own (P:=Tryz.prog) w w.heap.size 33 ty 5 i _ 1 1 Tryz.underlying33 i1 i2 i3 i4 rfl (by decide) (.slice none 0 0) 0 [] (World.ownsRow_nil w _ _ 1) ⟨pb,poff,none⟩ p.length cap (p.map bv) (by simp) hnews (oneCell_map bv_one p) (by simpa using hmax) (by simp at hlen ⊢;omega) (Nat.le_refl _)
    refine ⟨v',w',hr,by unfold Own;rw [List.length_append,List.map_append];exact r1,Upd.of_grown r2⟩
  obtain ⟨v',w',hr,ho,hu⟩:=key
  obtain ⟨s',B',K',rfl,k1,k2,k3,k4,k5,k6,k7⟩:=hB.new ho hu hbase
  refine ⟨_,_,hr,s',B',K',rfl,k1,k2,k3,k4,k5,hu.mono (by simp),fun s2 l2 g2 hap=>⟨g2.keep k2.sub k7,fun x hx hx'=>?_⟩⟩
  have:=k6 x hx'
  have:=(hB.ge x (gb_in g2 x hx).1).2
  omega
end
end Go.Proofs.YthgnlfikneipiaaGreat
namespace Go.Proofs.YthgnlfikneipiaaGreat
open Go.RowKit
set_option maxRecDepth 20000 in
set_option maxHeartbeats 1000000 in
theorem dnamed_lo (w:World) (s:ByteArray) (h:s.size < 1) :
  Calls Tryz.prog 189 #[sv s] w fun e w'=>e = .returned (.bool (nameOk s))∧w=w':=by
 have q:¬ (1:Int)≤s.size:=by omega
 have HN:Hid (nameOk s=false):=by unfold Hid nameOk;exact decide_eq_false (fun x=>by omega)
 go_enter Tryz.func189,Tryz.ntmps189
 go_wp2_with fail
 go_loopw [3,4] (fun x i wr=>∃ (k:Nat) (b:Bool),k≤s.size∧i = .int .i64 k∧x = .bool b∧w=wr∧Hid (b=true→1≤s.size∧s.size≤32∧∀ j (h:j < s.size),j < k→33≤(s[j]).toNat∧(s[j]).toNat≤126)∧Hid (b=false→nameOk s=false)) (fun _ i _=>s.size-(intOf i).toNat)
 case atStart=>exact ⟨0,false,Nat.zero_le _,rfl,rfl,rfl,fun h=>absurd h (by simp),fun _=>HN.out⟩
 case round =>
  obtain ⟨k,b,hk,rfl,rfl,rfl,ht,hf⟩:=hrel
  by_cases hlt:k < s.size
  ·exact absurd hlt (by omega)
  ·obtain rfl:k=s.size:=by omega
   have HN:Hid (nameOk s=b):=by
    cases b with
    | false=>exact hf.out rfl
    | true=>obtain ⟨t1,t2,t3⟩:=ht.out rfl;unfold Hid nameOk;exact decide_eq_true ⟨t1,t2,fun j hj=>t3 j hj hj⟩
   clear ht hf
   go_wp2_with fail
   go_ret
   exact ⟨by rw [HN.out];rfl,rfl⟩
set_option maxRecDepth 20000 in
set_option maxHeartbeats 1000000 in
theorem dnamed_hi (w:World) (s:ByteArray) (h:32 < s.size) :
  Calls Tryz.prog 189 #[sv s] w fun e w'=>e = .returned (.bool (nameOk s))∧w=w':=by
 have q:(1:Int)≤s.size:=by omega
 have q':¬ (s.size:Int)≤32:=by omega
 have HN:Hid (nameOk s=false):=by unfold Hid nameOk;exact decide_eq_false (fun x=>by omega)
 go_enter Tryz.func189,Tryz.ntmps189
 go_wp2_with fail
 go_loopw [3,4] (fun x i wr=>∃ (k:Nat) (b:Bool),k≤s.size∧i = .int .i64 k∧x = .bool b∧w=wr∧Hid (b=true→1≤s.size∧s.size≤32∧∀ j (h:j < s.size),j < k→33≤(s[j]).toNat∧(s[j]).toNat≤126)∧Hid (b=false→nameOk s=false)) (fun _ i _=>s.size-(intOf i).toNat)
 case atStart=>exact ⟨0,false,Nat.zero_le _,rfl,rfl,rfl,fun h=>absurd h (by simp),fun _=>HN.out⟩
 case round =>
  obtain ⟨k,b,hk,rfl,rfl,rfl,ht,hf⟩:=hrel
  by_cases hlt:k < s.size
  ·have q1:(k:Int) < s.size:=by omega
   have q0:(0:Int)≤k:=by omega
   cases b with
   | true =>
    exact absurd (ht.out rfl).2.1 (by omega)
   | false =>
    have HN:=Lib.hid (hf.out rfl)
    clear ht hf
    go_wp2_with fail
    go_ret
    exact ⟨by rw [HN.out];rfl,rfl⟩
  ·obtain rfl:k=s.size:=by omega
   have HN:Hid (nameOk s=b):=by
    cases b with
    | false=>exact hf.out rfl
    | true=>obtain ⟨t1,t2,t3⟩:=ht.out rfl;unfold Hid nameOk;exact decide_eq_true ⟨t1,t2,fun j hj=>t3 j hj hj⟩
   clear ht hf
   go_wp2_with fail
   go_ret
   exact ⟨by rw [HN.out];rfl,rfl⟩
set_option maxRecDepth 20000 in
set_option maxHeartbeats 1000000 in
theorem dnamed_mid (w:World) (s:ByteArray) (h:1≤s.size) (h2:s.size≤32) :
  Calls Tryz.prog 189 #[sv s] w fun e w'=>e = .returned (.bool (nameOk s))∧w=w':=by
 have q:(1:Int)≤s.size:=by omega
 have q':(s.size:Int)≤32:=by omega
 go_enter Tryz.func189,Tryz.ntmps189
 go_wp2_with fail
 go_loopw [3,4] (fun x i wr=>∃ (k:Nat) (b:Bool),k≤s.size∧i = .int .i64 k∧x = .bool b∧w=wr∧Hid (b=true→1≤s.size∧s.size≤32∧∀ j (h:j < s.size),j < k→33≤(s[j]).toNat∧(s[j]).toNat≤126)∧Hid (b=false→nameOk s=false)) (fun _ i _=>s.size-(intOf i).toNat)
 case atStart=>exact ⟨0,true,Nat.zero_le _,rfl,rfl,rfl,fun _=>⟨by omega,by omega,fun j _ h=>absurd h (by omega)⟩,fun h=>absurd h (by simp)⟩
 case round =>
  obtain ⟨k,b,hk,rfl,rfl,rfl,ht,hf⟩:=hrel
  by_cases hlt:k < s.size
  ·have q1:(k:Int) < s.size:=by omega
   have q0:(0:Int)≤k:=by omega
   cases b with
   | true =>
    obtain ⟨t1,t2,t3⟩:=ht.out rfl
    have HT3:=Lib.hid t3
    clear t3 ht hf
    by_cases b1:33≤(s[k]).toNat
    ·have c1:¬ ((s[k]).toNat:Int) < 33:=by omega
     by_cases b2:(s[k]).toNat≤126
     ·have c2:¬ (126:Int) < ((s[k]).toNat:Int):=by omega
      have HB1:=Lib.hid b1
      have HB2:=Lib.hid b2
      have e1:decide (33≤(s[k]).toNat)=true:=decide_eq_true b1
      have e2:decide ((s[k]).toNat≤126)=true:=decide_eq_true b2
      clear b1 b2
      go_wp2_with fail
      go_roundw
      case rel=>exact ⟨k+1,true,by omega,by go_num,by first|rfl|exact congrArg Value.bool (decide_eq_true (by omega)),by first|trivial|rfl,fun _=>⟨t1,t2,fun j hj hjk=>by
       rcases Nat.lt_or_eq_of_le (Nat.le_of_lt_succ hjk) with h|h
       ·exact HT3.out j hj h
       ·subst h;exact ⟨HB1.out,HB2.out⟩⟩,fun h=>absurd h (by simp)⟩
      case measure=>(try simp [intOf])<;>omega
     ·have c2:(126:Int) < ((s[k]).toNat:Int):=by omega
      have HN:Hid (nameOk s=false):=by unfold Hid nameOk;exact decide_eq_false (fun h=>b2 (h.2.2 k hlt).2)
      have HB1:=Lib.hid b1
      have e1:decide (33≤(s[k]).toNat)=true:=decide_eq_true b1
      have e2:decide ((s[k]).toNat≤126)=false:=decide_eq_false b2
      clear b1 b2
      go_wp2_with fail
      go_roundw
      case rel=>exact ⟨k+1,false,by omega,by go_num,by first|rfl|exact congrArg Value.bool (decide_eq_false (by omega)),by first|trivial|rfl,fun h=>absurd h (by simp),fun _=>HN.out⟩
      case measure=>(try simp [intOf])<;>omega
    ·have c1:((s[k]).toNat:Int) < 33:=by omega
     have HN:Hid (nameOk s=false):=by unfold Hid nameOk;exact decide_eq_false (fun h=>b1 (h.2.2 k hlt).1)
     have e1:decide (33≤(s[k]).toNat)=false:=decide_eq_false b1
     clear b1
     go_wp2_with fail
     go_roundw
     case rel=>exact ⟨k+1,false,by omega,by go_num,by first|rfl|exact congrArg Value.bool (decide_eq_false (by omega)),by first|trivial|rfl,fun h=>absurd h (by simp),fun _=>HN.out⟩
     case measure=>(try simp [intOf])<;>omega
   | false =>
    have HN:=Lib.hid (hf.out rfl)
    clear ht hf
    go_wp2_with fail
    go_ret
    exact ⟨by rw [HN.out];rfl,rfl⟩
  ·obtain rfl:k=s.size:=by omega
   have HN:Hid (nameOk s=b):=by
    cases b with
    | false=>exact hf.out rfl
    | true=>obtain ⟨t1,t2,t3⟩:=ht.out rfl;unfold Hid nameOk;exact decide_eq_true ⟨t1,t2,fun j hj=>t3 j hj hj⟩
   clear ht hf
   go_wp2_with fail
   go_ret
   exact ⟨by rw [HN.out];rfl,rfl⟩
theorem dnamed_any (w:World) (s:ByteArray) :
  Calls Tryz.prog 189 #[sv s] w fun e w'=>e = .returned (.bool (nameOk s))∧w=w':=by
 rcases (show s.size < 1∨32 < s.size∨(1≤s.size∧s.size≤32) by omega) with h|h|⟨h,h2⟩
 ·exact dnamed_lo w s h
 ·exact dnamed_hi w s h
 ·exact dnamed_mid w s h h2
end Go.Proofs.YthgnlfikneipiaaGreat
