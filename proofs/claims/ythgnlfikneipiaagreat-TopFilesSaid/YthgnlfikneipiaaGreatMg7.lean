/- Texts of the proof, joined. -/
import Derived.Test.YthgnlfikneipiaaGreatRows
import Derived.Test.YthgnlfikneipiaaGreatMg5
import Derived.Test.YthgnlfikneipiaaGreatMg1
import Derived.StillTailTactics
import Derived.Laws.Externs
import Derived.Test.YthgnlfikneipiaaGreatMg6
import Derived.Lib.JoinLaws
import Derived.Test.YthgnlfikneipiaaGreatMg4
import Derived.Deep.DeepCutAuto
import Derived.Deep.RegionHeld3
import Derived.Laws.ResultCell
import Derived.Test.YthgnlfikneipiaaGreatMg3
set_option linter.unusedSimpArgs false
set_option linter.unusedVariables false
set_option linter.unusedSectionVars false
set_option maxRecDepth 100000
set_option maxHeartbeats 4000000
namespace Go.Proofs.YthgnlfikneipiaaGreat
open Go.RowKit
abbrev rR (p:Int×Int):List Value:=[iv p.1,iv p.2]
theorem nJ:∀ p,(rR p).length=2:=fun _=>rfl
theorem yF:(Tryz.prog.info? 389).map (fun i=>(i.zero,i.size,i.bytes))=some (some (.agg #[.int .i64 0,.int .i64 0]),2,16):=by kernel_rfl
abbrev fO:Int→Int→Bool:=fun a b=>decide (a < b)
structure nQ (base:Nat) (w:World) (g:Nat) (lv:Value) (l:List (Int×Int)):Prop where
 tab:cU w g 148 [lv]
 rows:cF 2 rR base 389 w lv l
 gb:base≤g
section
variable {base : Nat} {g : Nat} {lv : Value} {l : List (Int × Int)} {w w' : World}
theorem nQ.upd (h:nQ base w g lv l) {S:List Nat} (hu:bR S w w') (hs:∀ x∈g::blk lv,x∉S):nQ base w' g lv l :=
 ⟨h.tab.upd hu (hs g (by simp)),h.rows.upd hu (fun x a=>hs x (by simp[a])),h.gb⟩
theorem nQ.upd0 (h:nQ base w g lv l) (hu:bR [] w w'):nQ base w' g lv l:=h.upd hu (by simp)
theorem nQ.g_lv (h:nQ base w g lv l):g∉blk lv:=fun e=>by
 obtain⟨C,f,a⟩:=h.rows.typ g e;exact h.tab.ne g a (by decide) rfl
theorem nQ.lt (h:nQ base w g lv l):∀ x∈g::blk lv,base≤x∧x < w.heap.size:=by
 intro x a;rcases aG.1 a with rfl|a
 ·exact⟨h.gb,h.tab.lt⟩
 ·exact h.rows.ge x a
theorem b7b (w:World) :
  Calls Tryz.prog 31 #[] w fun e w'=>e = .returned (.pointer (some ⟨w.heap.size,0,none⟩))∧nQ w.heap.size w' w.heap.size (.slice none 0 0) []∧bR [] w w':=by
 go_enter Tryz.func31,Tryz.ntmps31;go_wp2
 go_ret;exact⟨rfl,⟨cU.new w _ [.slice none 0 0],cF.nil _ _ _,aF _⟩,(bR.refl [] w).alloc _⟩
theorem oB (w:World) (k:Int) (hs:nQ base w g lv l) (hr:bV fO l) (hlen:l.length≤100000) (hk:gR k) :
  Calls Tryz.prog 215 #[.pointer (some ⟨g,0,none⟩),iv k] w fun e w'=>e = .returned (.tuple #[.int .i64 (below fO l k:Int),.bool (cB fO l k)])∧bR [] w w':=by
 have W:=bG hs;have L:=bG hr;obtain⟨Q,R,rfl,S,F,o⟩:=hs.rows.rd nJ;have c0:w.cell? ⟨g,0,none⟩=some (.slice Q l.length R):=hs.tab.cell 0;have M:=bG o;clear hs hr o F;go_enter Tryz.func215,Tryz.ntmps215;go_wp2_with fail
 go_quiet (fail)
 have r:=bG ((bR.refl [] w).drewN nq);generalize w.drewN nq=v at *
 replace c0:=r.out.cell c0 (by simp)
 go_wp2_with fail
 go_loop [6,7] (fun I J=>∃ a b:Nat,I = .int .i64 a∧J = .int .i64 b∧a≤b∧b≤l.length∧Hid (∀ j,j < a→fO (bT l j).1 k=true)∧Hid (∀ j,b≤j→j < l.length→fO (bT l j).1 k=false)) (fun I J=>(intOf J).toNat-(intOf I).toNat)
 case atStart=>exact⟨0,l.length,rfl,rfl,aS _,aF _,fun j h=>absurd h (by omega),fun j K N=>absurd K (by omega)⟩
 case round =>
  obtain⟨a,b,rfl,rfl,T,y,z,A⟩:=hrel;by_cases U:a < b
  ·have d:(a+b) / 2 < l.length:=by omega
   obtain⟨G,t,rfl,B⟩:=M.out (by intro h;simp[h] at d);have O:v.cell? ⟨G,t+(a+b) / 2*2,none⟩=some (iv (bT l ((a+b) / 2)).1):=r.out.cell (B _ d 0 (by omega)) (by simp);clear B;cases c:fO (bT l ((a+b) / 2)).1 k with
   | true =>
    have C:Hid (∀ j,j < (a+b) / 2+1→fO (bT l j).1 k=true):=fun j Z=>L.out.mono jH k j ((a+b) / 2) (by omega) d c
    generalize (bT l ((a+b) / 2)).1=m at *
    have D:m < k:=by simpa using c
    clear c;go_wp2
    go_round
    case rel=>exact⟨(a+b) / 2+1,b,by go_num,rfl,by omega,y,C,A⟩
    case measure=>simp[intOf];omega
   | false =>
    have E:Hid (∀ j,(a+b) / 2≤j→j < l.length→fO (bT l j).1 k=false):=fun j K N=>by
     cases V:fO (bT l j).1 k with
     | false=>rfl
     | true=>exact absurd ((L.out.mono jH k _ j K N V).symm.trans c) (by simp)
    generalize (bT l ((a+b) / 2)).1=m at *
    have D:¬ m < k:=by simpa using c
    clear c;go_wp2
    go_round
    case rel=>exact⟨a,(a+b) / 2,rfl,by go_num,by omega,by omega,z,E⟩
    case measure=>simp[intOf];omega
  ·obtain rfl:a=b:=by omega
   have f:below fO l k=a:=nD l k a y z.out (fun h=>A.out a (aF _) h);have u:Hid (cB fO l k=decide (a < l.length∧(bT l a).1=k)):=by unfold Hid cB;rw[f]
   have i:=bG f;clear f;by_cases p:a < l.length
   ·obtain⟨G,t,rfl,B⟩:=M.out (by intro h;simp[h] at p);have O:v.cell? ⟨G,t+a*2,none⟩=some (iv (bT l a).1):=r.out.cell (B _ p 0 (by omega)) (by simp);have s:Hid (cB fO l k=decide ((bT l a).1=k)):=by unfold Hid;rw[u.out];simp[p]
    clear B;generalize (bT l a).1=m at *
    have X:(0:Int)≤a:=by omega
    have Y:(a:Int) < l.length:=by omega
    by_cases he:m=k
    ·have P:(m==k)=true:=by simpa using he
     have x:Hid (cB fO l k=true):=by unfold Hid;rw[s.out];simp[he]
     clear he;go_wp2_with fail
     go_quiet (fail)
     go_wp2_with fail
     go_ret2
     exact⟨by rw[i.out,x.out];rfl,by first|exact r.out.drewN _|exact r.out.drew⟩
    ·have P:(m==k)=false:=by simpa using he
     have x:Hid (cB fO l k=false):=by unfold Hid;rw[s.out];simp[he]
     clear he;go_wp2_with fail
     go_quiet (fail)
     go_wp2_with fail
     go_ret2
     exact⟨by rw[i.out,x.out];rfl,by first|exact r.out.drewN _|exact r.out.drew⟩
   ·have x:Hid (cB fO l k=false):=by unfold Hid;rw[u.out];simp[p]
    have hd:decide (a < l.length)=false:=by simpa using p
    go_wp2_with fail
    go_quiet (fail)
    go_wp2_with fail
    go_ret2
    exact⟨by rw[i.out,x.out];rfl,by first|exact r.out.drewN _|exact r.out.drew⟩
end
theorem a2w:∀ p,∀ u∈rR p,u.oneCell'=true:=by intro p u a;simp[rR] at a;rcases a with rfl|rfl<;>rfl
theorem c1e:Tryz.prog.underlying 146=some (.slice 389):=by kernel_rfl
section
variable {base : Nat} {g : Nat} {lv : Value} {l : List (Int × Int)} {w w' : World}
theorem c4t (w:World) (k:Int) (hs:nQ base w g lv l) (hr:bV fO l) (hlen:l.length≤100000) (hk:gR k) (hn:cB fO l k=false) :
  Calls Tryz.prog 217 #[.pointer (some ⟨g,0,none⟩),iv k] w fun e w'=>e = .returned (.tuple #[.int .i64 0,.bool false])∧bR [] w w':=by
 have a:=oB w k hs hr hlen hk;rw[hn] at a;have c:=bG a;clear hs hr hlen hk a hn;go_enter Tryz.func217,Tryz.ntmps217;go_wp2_with fail
 refine c.out.mono ?_;rintro e d ⟨rfl,b⟩;go_wp2_with fail
 go_ret2
 exact⟨rfl,b⟩
theorem c4u (w:World) (k:Int) (hs:nQ base w g lv l) (hr:bV fO l) (hlen:l.length≤100000) (hk:gR k) (hn:cB fO l k=true) :
  Calls Tryz.prog 217 #[.pointer (some ⟨g,0,none⟩),iv k] w fun e w'=>e = .returned (.tuple #[iv (bT l (below fO l k)).2,.bool true])∧bR [] w w':=by
 have m:=oB w k hs hr hlen hk;rw[hn] at m;have p:=bG m;unfold cB at hn;have d:=(bI hn).1;obtain⟨B,t,rfl,u,o,a⟩:=hs.rows.rd nJ;obtain⟨b,f,rfl,j⟩:=a (by intro h;simp[h] at d);have r:=bG (show w.cell? ⟨g,0,none⟩=some (.slice (some ⟨b,f,none⟩) l.length t) from hs.tab.cell 0);have s:=bG (show w.cell? ⟨b,f+below fO l k*2+1,none⟩=some (iv (bT l (below fO l k)).2) from j _ d 1 (by omega));clear hs hr hk m hn a j o;generalize (bT l (below fO l k)).2=x at *
 generalize below fO l k=i at *
 have v:(0:Int)≤i:=by omega
 have y:(i:Int) < l.length:=by omega
 go_enter Tryz.func217,Tryz.ntmps217;go_wp2_with fail
 refine p.out.mono ?_;rintro e C ⟨rfl,c⟩;have z:=c.cell r.out (by simp);have A:=c.cell s.out (by simp);go_wp2_with fail
 go_ret2
 exact⟨rfl,c⟩
end
section
variable {base : Nat} {g : Nat} {lv : Value} {l : List (Int × Int)} {w w' : World}
theorem b7c (w:World) (k:Int) (v:Int) (hs:nQ base w g lv l) (hr:bV fO l) (hlen:l.length≤100000) (hk:gR k) (hn:cB fO l k=true) :
  Calls Tryz.prog 163 #[.pointer (some ⟨g,0,none⟩),iv k,iv v] w fun e w'=>e = .returned (.bool false)∧nQ base w' g lv (l.set (below fO l k) ((bT l (below fO l k)).1,v))∧bR (blk lv) w w':=by
 have o:=oB w k hs hr hlen hk;rw[hn] at o;have B:=bG o;have y:=bG hs;unfold cB at hn;have c:=(bI hn).1;have p:=hs.g_lv;rcases hs.rows.2 with⟨-,V⟩|⟨b,N,x,rfl,W,A,-⟩
 ·omega
 have C:=bG (show w.cell? ⟨g,0,none⟩=some (.slice (some ⟨b,0,none⟩) l.length N) from hs.tab.cell 0);have D:=bG c;have E:=bG (show ∃ u,w.cell? ⟨b,below fO l k*2+1,none⟩=some u from by
  obtain⟨G,I,J,-,-,f⟩:=hs.rows.rd nJ;injection J with m X Y;obtain⟨U,K,L,t⟩:=f (by intro h;simp[h] at c);rw[L] at m;injection m with m;injection m with m O;subst m;subst O;exact⟨_,by simpa using t _ c 1 (by omega)⟩)
 have F:=bG A;clear hs hr hk o hn p A;generalize below fO l k=i at *
 have P:(0:Int)≤i:=by omega
 have Q:(i:Int) < l.length:=by omega
 go_enter Tryz.func163,Tryz.ntmps163;go_wp2_with fail
 with_reducible refine B.out.mono ?_
 rintro e j ⟨rfl,a⟩;have R:=a.cell C.out (by simp);obtain⟨u,M⟩:=E.out;have S:=a.cell M (by simp);have T:j.frozen? ⟨b,i*2+1,none⟩=false:=frozen_of_row j b _ x _ (a.heap F.out (by simp));go_wp2_with fail
 go_ret;have r:bR [b] j (j.setCell ⟨b,i*2+1,none⟩ (iv v)):=(bR.refl [b] j).setCell _ _ (.inl (by simp));have d:=y.out.upd0 a;have z:=D.out;have s:g≠b:=fun e=>y.out.g_lv (by rw[e];simp[blk])
 refine⟨rfl,⟨d.tab.upd r (by simpa using s),?_,d.gb⟩,?_⟩
 ·refine cF.set_ nJ d.rows i 1 z (by omega) (iv v) _ ?_;rw[cO l i z];rfl
 ·exact(show bR [b] w j from a.mono (by simp)).setCell _ _ (.inl (by simp))
end
section
variable {base : Nat} {g : Nat} {lv : Value} {l : List (Int × Int)} {w w' : World}
theorem b2i (w:World) (v:Value) (vb:Nat) (x:Int×Int) (hs:cF 2 rR base 389 w v l) (hlen:l.length≤100000) (hbs:base≤w.heap.size) (hv:cU w vb 389 (rR x)) :
  Calls Tryz.prog 216 #[v,.int .i64 (l.length:Int),.slice (some ⟨vb,0,none⟩) 1 1] w fun e w'=>∃ v',e = .returned v'∧cF 2 rR base 389 w' v' (l++[x])∧bR (blk v) w w'∧(∀ y∈blk v',y∈blk v∨w.heap.size≤y):=by
 have b:qW 2 rR w (.slice (some ⟨vb,0,none⟩) 1 1) [x]:=⟨_,1,rfl,by simp,by simp[maxLen],fun _=>⟨vb,0,rfl,fun j o i G=>by
  simp at o;subst o;rw[hv.cell];simp[cP]⟩⟩
 have p:=bG (fun ty=>fR (P:=Tryz.prog) (ty:=ty) nJ (by decide) a2w c1e yF rfl v _ l [x] hs b (by simp;omega) (by simp[maxLen];omega) hbs);obtain⟨s,n,c,rfl⟩:=hs.slice_;have r:n=l.length∧l.length≤c:=by
  rcases hs.2 with⟨he,u⟩|⟨_,_,_,he,_,_,z,_⟩
  ·injection he with A h m;subst h;subst m;exact⟨u.symm,by omega⟩
  ·injection he with A h m;subst h;subst m;exact⟨rfl,z⟩
 obtain⟨rfl,t⟩:=r;clear hs b hv;have hd:c=l.length∨¬ c=l.length:=by omega
 rcases hd with hd|hd
 all_goals
  go_enter Tryz.func216,Tryz.ntmps216;go_wp2_with (at_builtin;refine cQ rfl _ _ rfl (.slice s l.length c) (.slice (some ⟨vb,0,none⟩) 1 1) rfl rfl (p.out _) ?_;rintro B C ⟨a,f,g⟩;have d:=bG a;obtain⟨D,E,F,rfl⟩:=a.slice_;clear a)
  go_ret;exact⟨_,rfl,d.out,f,g⟩
theorem e6h (w:World) (vb gb vo go_ la ca lb cb kA kB:Nat) (tA tB:TypeId) (hne:vb≠gb) (hsa:w.shape? vb=some (tA,kA)) (hsb:w.shape? gb=some (tB,kB)) (hkB:kB≠0) (hfa:w.frozen? ⟨vb,vo,none⟩=false) (hfe:w.frozen? ⟨vb,kA,none⟩=false) :
  (callFunc 259 #[.slice (some ⟨vb,vo,none⟩) la ca,.slice (some ⟨gb,go_,none⟩) lb cb]).run Tryz.prog w = .ok (.value (.bool false)) w:=by
 have a:∀ w,(sizeOf 389).run Tryz.prog w = .ok 2 w:=by
  intro w;obtain⟨i,b,d,c,f⟩:=info_parts yF;simp[sizeOf,typeInfo,b,c]
 rw[run_callFunc_extern Tryz.func259 (by kernel_rfl) (by kernel_rfl) (by kernel_rfl) (e:=Extern.SlicesOverlaps.overlaps #[146,146] #[4]) (by kernel_rfl),
  Lib.run_overlaps_apart w 146 4 389 c1e 2 a ⟨vb,vo,none⟩ ⟨gb,go_,none⟩ la ca lb cb hne tA tB kA kB hsa hsb hkB hfa hfe]
 rfl
theorem a4j (w:World) (g n cap i:Nat) (vb:Nat) (x:Int×Int) (hs:cF 2 rR base 389 w (.slice (some ⟨g,0,none⟩) n cap) l) (hi:i < l.length) (hroom:l.length+1≤cap) (hlen:l.length≤100000) (hv:cU w vb 389 (rR x)) (hvg:vb≠g) :
  Calls Tryz.prog 216 #[.slice (some ⟨g,0,none⟩) n cap,.int .i64 (i:Int),.slice (some ⟨vb,0,none⟩) 1 1] w fun e w'=>∃ v',e = .returned v'∧cF 2 rR base 389 w' v' (l.take i++x::l.drop i)∧bR [g] w w'∧(∀ y∈blk v',y∈[g]∨w.heap.size≤y):=by
 obtain⟨rfl,j,W1,F,m,o,HK,p,r,s,a,b,c,d,f⟩:=sS nJ (by decide) a2w c1e (by kernel_rfl) hs hi hroom hv hvg;have h:=bG (fun C D=>e6h w vb g 0 ((i+1)*2) 1 1 C D r s _ _ hvg a b c d f);clear hs hv a b c d f;generalize l.length=n at *
 obtain⟨G,I,J,K,L,M,N,O,P,Q,t,u,v,z,A,B⟩:=rP hi hlen hroom j;go_enter Tryz.func216,Tryz.ntmps216;go_wp2_with (simp only[h.out])
 go_region_law (refine fU rfl (.tmp 73) (.tmp 76) 146 146 rfl (.slice (some ⟨g,(i+1)*2,none⟩) (n+1-(i+1)) (cap-(i+1))) (.slice (some ⟨g,i*2,none⟩) (n+1-i) (cap-i)) (by simp[Act.eval,Act.put]) (by simp[Act.eval,Act.put]) (m.out _ _ _) ?_)
 go_wp2_with (with_reducible refine eG rfl (.tmp 80) (.tmp 81) 146 146 rfl (.slice (some ⟨g,i*2,none⟩) (n+1-i) (cap-i)) (.slice (some ⟨vb,0,none⟩) 1 1) rfl rfl (o.out _ _) ?_)
 go_ret;exact⟨_,rfl,HK.out,p.out,fun y E => .inl (by simpa [blk] using E)⟩
theorem a8c (w:World) (g n cap i:Nat) (vb:Nat) (x:Int×Int) (hs:cF 2 rR base 389 w (.slice (some ⟨g,0,none⟩) n cap) l) (hi:i < l.length) (hroom:cap < l.length+1) (hlen:l.length≤100000) (hbs:base≤w.heap.size) (hv:cU w vb 389 (rR x)) :
  Calls Tryz.prog 216 #[.slice (some ⟨g,0,none⟩) n cap,.int .i64 (i:Int),.slice (some ⟨vb,0,none⟩) 1 1] w fun e w'=>∃ v',e = .returned v'∧cF 2 rR base 389 w' v' (l.take i++x::l.drop i)∧bR [g] w w'∧(∀ y∈blk v',y∈[g]∨w.heap.size≤y):=by
 obtain⟨rfl,rfl,c,G,W1,z,A,a,b,d,f,h,j,HK,m⟩:=wI (Ti:=3) nJ (by decide) a2w c1e yF rfl (by decide) (by kernel_rfl) hs hi hroom hlen hbs hv;clear hs hroom hv;generalize l.length=n at *
 obtain⟨B,C,D,E,F,I,J,K,L,M,o,p,r,s,t,u⟩:=rP hi hlen a b;go_enter Tryz.func216,Tryz.ntmps216
 go_wp2_with (first
  | (at_builtin;refine lM rfl _ _ 146 3 rfl (.slice (some ⟨g,0,none⟩) i n) (.int .i64 ((n:Int)+1-(i:Int))) rfl rfl (f.out _) ?_)
  | (with_reducible refine eG rfl (.tmp 43) (.tmp 44) 146 146 rfl (.slice (some ⟨c,i*2,none⟩) (n+1-i) (G-i)) (.slice (some ⟨vb,0,none⟩) 1 1) rfl rfl (h.out _ _) ?_))
 go_region_law (refine fU rfl (.tmp 50) (.tmp 53) 146 146 rfl (.slice (some ⟨c,(i+1)*2,none⟩) (n+1-(i+1)) (G-(i+1))) (.slice (some ⟨g,i*2,none⟩) (n-i) (n-i)) (by simp[Act.eval,Act.put]) (by simp[Act.eval,Act.put]) (j.out _ _ _) ?_)
 go_wp2_with fail
 go_ret;exact⟨_,rfl,HK.out,m.out,fun y v => .inr (by simp[blk] at v;have:=d.out;omega)⟩
theorem b2j (w:World) (v:Value) (i:Nat) (vb:Nat) (x:Int×Int) (hs:cF 2 rR base 389 w v l) (hi:i≤l.length) (hlen:l.length≤100000) (hbs:base≤w.heap.size) (hv:cU w vb 389 (rR x)) (hvg:vb∉blk v) :
  Calls Tryz.prog 216 #[v,.int .i64 (i:Int),.slice (some ⟨vb,0,none⟩) 1 1] w fun e w'=>∃ v',e = .returned v'∧cF 2 rR base 389 w' v' (l.take i++x::l.drop i)∧bR (blk v) w w'∧(∀ y∈blk v',y∈blk v∨w.heap.size≤y):=by
 by_cases he:i=l.length
 ·subst he;rw[aV,List.drop_length];exact b2i w v vb x hs hlen hbs hv
 ·rcases hs.2 with⟨-,d⟩|⟨g,a,b,rfl,-⟩
  ·omega
  ·by_cases c:l.length+1≤a
   ·exact a4j w g l.length a i vb x hs (by omega) c hlen hv (by simpa [blk] using hvg)
   ·exact a8c w g l.length a i vb x hs (by omega) (by omega) hlen hbs hv
theorem b7d (w:World) (k:Int) (y:Int) (hs:nQ base w g lv l) (hr:bV fO l) (hlen:l.length≤100000) (hbs:base≤w.heap.size) (hk:gR k) (hn:cB fO l k=false) :
  Calls Tryz.prog 163 #[.pointer (some ⟨g,0,none⟩),iv k,iv y] w fun e w'=>e = .returned (.bool true)∧∃ lv',nQ base w' g lv' (l.take (below fO l k)++(k,y)::l.drop (below fO l k))∧bR (g::blk lv) w w'∧(∀ x∈blk lv',x∈blk lv∨w.heap.size≤x):=by
 have D:=oB w k hs hr hlen hk;rw[hn] at D;have I:=bG D;have t:=bG hs;have u:=iR (lt:=fO) l k;have J:=bG (fun r (h:bR [] w r)=>b2j (r.alloc (.cells #[iv k,iv y] 389)) lv (below fO l k) r.heap.size (k,y) (hs.rows.upd (h.alloc _) (by simp)) u hlen (by have:=h.size;simp;omega) (cU.new r _ [iv k,iv y]) (fun j=>by have:=(hs.rows.ge _ j).2;have:=h.size;omega));have G:=bG (show w.cell? ⟨g,0,none⟩=some lv from hs.tab.cell 0);obtain⟨A,n,B,rfl⟩:=hs.rows.slice_;clear hs hr hk D hn hbs u;generalize below fO l k=i at *
 go_enter Tryz.func163,Tryz.ntmps163;go_wp2_with fail
 with_reducible refine I.out.mono ?_
 rintro e r ⟨rfl,m⟩;have L:=m.cell G.out (by simp);have v:=bG m;go_wp2_with fail
 with_reducible refine(J.out r v.out).mono ?_
 rintro e C ⟨N,rfl,o,f,p⟩;have d:=t.out.g_lv;have a:=v.out.alloc (.cells #[iv k,iv y] 389);have M:C.frozen? ⟨g,0,none⟩=false:=((t.out.tab.upd a (by simp)).upd f d).frozen 0;have d2:C.cell? ⟨g,0,none⟩=some (.slice A n B):=f.cell (a.cell G.out (by simp)) d;obtain⟨b,s,c,rfl⟩:=o.slice_;have z:g∉blk (.slice b s c):=fun j=>by
  rcases p g j with q|q
  ·exact d q
  ·have:=t.out.tab.lt;have:=a.size;omega
 have K:=bG (show nQ base (C.setCell ⟨g,0,none⟩ (.slice b s c)) g (.slice b s c) (l.take i++(k,y)::l.drop i) from
  ⟨by simpa using((t.out.tab.upd a (by simp)).upd f d).set_ 0 (.slice b s c),o.upd ((bR.refl [g] _).setCell _ _ (.inl (by simp))) (by intro x j;simp;rintro rfl;exact z j),t.out.gb⟩)
 have E:=bG (show bR (g::blk (.slice A n B)) w (C.setCell ⟨g,0,none⟩ (.slice b s c)) from(a.trans (T:=g::blk (.slice A n B)) f (by simp) (fun x j => .inl (by simp[j]))).setCell _ _ (.inl (by simp)));have F:=bG (show ∀ x∈blk (.slice b s c),x∈blk (.slice A n B)∨w.heap.size≤x from fun x j=>(p x j).imp id (fun h=>by have:=a.size;omega));clear o m f d z p a;go_wp2_with fail
 go_ret;exact⟨rfl,_,K.out,E.out,F.out⟩
theorem b7e (w:World) (k:Int) (y:Int) (hs:nQ base w g lv l) (hr:bV fO l) (hlen:l.length≤100000) (hbs:base≤w.heap.size) (hk:gR k) :
  Calls Tryz.prog 163 #[.pointer (some ⟨g,0,none⟩),iv k,iv y] w fun e w'=>e = .returned (.bool (!cB fO l k))∧∃ lv',nQ base w' g lv' (dD fO l k y)∧bR (g::blk lv) w w'∧(∀ x∈blk lv',x∈blk lv∨w.heap.size≤x):=by
 cases a:cB fO l k with
 | false =>
  refine(b7d w k y hs hr hlen hbs hk a).mono ?_;rintro e w' ⟨rfl,f,b,c,h⟩;exact⟨rfl,f,by unfold dD;rw[a];exact b,c,h⟩
 | true =>
  refine(b7c w k y hs hr hlen hk a).mono ?_;rintro e w' ⟨rfl,b,c⟩;refine⟨rfl,lv,?_,c.mono (fun x d => .inl (by simp[d])),fun x d => .inl d⟩;rw[sQ l k y a];exact b
end
structure rS (w0 w:World) (g:Nat) (F:List Nat) (l:List (Int×Int)):Prop where
 ex:∃ lv,F=g::blk lv∧nQ w0.heap.size w g lv l
 ris:bV fO l
 old:bR [] w0 w
section
variable {w0 w w' : World} {g : Nat} {F : List Nat} {l : List (Int × Int)}
theorem rS.ge (h:rS w0 w g F l):∀ x∈F,w0.heap.size≤x∧x < w.heap.size:=by
 obtain⟨b,rfl,a⟩:=h.ex;exact a.lt
theorem rS.upd (h:rS w0 w g F l) {S:List Nat} (hu:bR S w w') (hs:∀ x∈F,x∉S) (hS:∀ x∈S,w0.heap.size≤x):rS w0 w' g F l:=by
 obtain⟨a,rfl,b⟩:=h.ex;exact⟨⟨a,rfl,b.upd hu hs⟩,h.ris,h.old.trans hu (by simp) (fun x c => .inr (hS x c))⟩
theorem rS.upd0 (h:rS w0 w g F l) (hu:bR [] w w'):rS w0 w' g F l:=h.upd hu (by simp) (by simp)
theorem d0i (w0 w:World) (hu:bR [] w0 w) :
  Calls Tryz.prog 31 #[] w fun e w'=>∃ g F,e = .returned (.pointer (some ⟨g,0,none⟩))∧rS w0 w' g F []∧bR [] w w'∧(∀ x∈F,w.heap.size≤x):=by
 refine(b7b w).mono ?_;rintro e w' ⟨rfl,b,a⟩;exact⟨_,_,rfl,⟨⟨_,rfl,⟨b.tab,cF.nil _ _ _,hu.size⟩⟩,bV.nil,hu.seq a⟩,a,fun x c=>(b.lt x c).1⟩
theorem d0j (k:Int) (y:Int) (r:Bool) (l':List (Int×Int)) (hs:rS w0 w g F l) (hlen:l.length≤100000) (hk:gR k) (h1:(!cB fO l k)=r) (h2:dD fO l k y=l') :
  Calls Tryz.prog 163 #[.pointer (some ⟨g,0,none⟩),iv k,iv y] w fun e w'=>e = .returned (.bool r)∧∃ F',rS w0 w' g F' l'∧bR F w w'∧(∀ x∈F',x∈F∨w.heap.size≤x):=by
 subst h1;subst h2;have a:=hs.old;obtain⟨⟨m,rfl,f⟩,h,-⟩:=hs;refine(b7e w k y f h hlen a.size hk).mono ?_;rintro e w' ⟨rfl,b,d,i,j⟩;refine⟨rfl,g::blk b,⟨⟨b,rfl,d⟩,h.set_ jH k y,a.trans i (by simp) (fun x c => .inr (f.lt x c).1)⟩,i,fun x c=>?_⟩;rcases aG.1 c with rfl|c
 ·exact .inl (by simp)
 ·exact(j x c).imp (fun q=>by simp[q]) id
theorem d0k (k:Int) (y:Int) (r:Bool) (hs:rS w0 w g F l) (hlen:l.length≤100000) (hk:gR k) (h:fC fO (0:Int) l k=(y,r)) :
  Calls Tryz.prog 217 #[.pointer (some ⟨g,0,none⟩),iv k] w fun e w'=>e = .returned (.tuple #[iv y,.bool r])∧bR [] w w':=by
 obtain⟨⟨i,rfl,d⟩,f,-⟩:=hs;unfold fC at h;cases a:cB fO l k with
 | false=>rw[a] at h;injection h with b c;subst b;subst c;exact c4t w k d f hlen hk a
 | true=>rw[a] at h;injection h with b c;subst b;subst c;exact c4u w k d f hlen hk a
end
theorem a5z (w:World) (s:ByteArray) :
  Calls Tryz.prog 36 #[sv s] w fun e w'=>e = .returned (.bool (dL s))∧w=w':=by
 by_cases y:s.size < 1
 ·have a:Hid (dL s=false):=by unfold Hid dL;simp;omega
  have q:(s.size:Int) < 1:=by omega
  go_enter Tryz.func36,Tryz.ntmps36;go_wp2_with fail
  go_ret;exact⟨by rw[a.out];rfl,rfl⟩
 ·by_cases r:s.size≤32
  ·have q:¬ (s.size:Int) < 1:=by omega
   have o:¬ (32:Int) < s.size:=by omega
   go_enter Tryz.func36,Tryz.ntmps36;go_wp2_with fail
   go_loopw [3,14] (fun x i wr=>∃ k:Nat,k≤s.size∧i = .int .i64 k∧w=wr∧Hid (∀ j (h:j < s.size),j < k→33≤(s[j]).toNat∧(s[j]).toNat≤126)) (fun _ i _=>s.size-(intOf i).toNat)
   case atStart=>exact⟨0,aS _,rfl,rfl,fun j _ h=>absurd h (by omega)⟩
   case round =>
    obtain⟨k,v,rfl,rfl,m⟩:=hrel;by_cases g:k < s.size
    ·have t:(0:Int)≤k:=by omega
     have u:(k:Int) < s.size:=by omega
     by_cases c:33≤(s[k]).toNat∧(s[k]).toNat≤126
     ·have b:¬ ((s[k]).toNat:Int) < 33:=by omega
      have f:¬ (126:Int) < ((s[k]).toNat:Int):=by omega
      have p:Hid (∀ j (h:j < s.size),j < k+1→33≤(s[j]).toNat∧(s[j]).toNat≤126):=fun j d l=>by
       rcases Nat.lt_or_eq_of_le (Nat.le_of_lt_succ l) with h|h
       ·exact m.out j d h
       ·subst h;exact c
      clear c;go_wp2_with fail
      go_roundw
      case rel=>exact⟨k+1,by omega,by go_num,by first|trivial|rfl,p⟩
      case measure=>simp[intOf];omega
     ·have a:Hid (dL s=false):=by
       unfold Hid dL;exact decide_eq_false (fun h=>c (h.2.2 k g))
      have hd:((s[k]).toNat:Int) < 33∨(¬ ((s[k]).toNat:Int) < 33∧(126:Int) < ((s[k]).toNat:Int)):=by omega
      clear c;rcases hd with b|⟨b,f⟩
      all_goals
       go_wp2_with fail
       go_ret;exact⟨by rw[a.out];rfl,rfl⟩
    ·obtain rfl:k=s.size:=by omega
     have a:Hid (dL s=true):=by
      unfold Hid dL;exact decide_eq_true ⟨by omega,by omega,fun j d=>m.out j d d⟩
     go_wp2_with fail
     go_ret;exact⟨by rw[a.out];rfl,rfl⟩
  ·have a:Hid (dL s=false):=by unfold Hid dL;exact decide_eq_false (fun h=>r h.2.1)
   have q:¬ (s.size:Int) < 1:=by omega
   have o:(32:Int) < s.size:=by omega
   go_enter Tryz.func36,Tryz.ntmps36;go_wp2_with fail
   go_ret;exact⟨by rw[a.out];rfl,rfl⟩
abbrev FL:=List (Int×(ByteArray×List UInt8))
abbrev CL:=List (Int×((ByteArray×Sl)×List UInt8))
abbrev eH (cs:CL):List (Int×(ByteArray×Sl)):=gA id (·.1) cs
abbrev bZ (cs:CL):FL:=gA id (fun v:(ByteArray×Sl)×List UInt8=>(v.1.1,v.2)) cs
abbrev fA:Int→Int→Bool:=fun a b=>decide (a < b)
theorem yG {w:World} {x:Nat} {C C':Array Value} {e e':TypeId} {f f':Nat×Nat} (h:w.heap[x]?=some (.cells C e f)) (h':w.heap[x]?=some (.cells C' e' f')):e=e':=by
 rw[h] at h';injection h' with a;injection a
theorem d0l {w0 w:World} {g:Nat} {F:List Nat} {l:List (Int×(ByteArray×Sl))} (h:oQ w0 w g F l):∀ x∈F,∃ C f e,w.heap[x]?=some (.cells C e f)∧(e=145∨e=171):=by
 intro x a;obtain⟨d,rfl,b⟩:=h.ex;rcases aG.1 a with rfl|a
 ·exact⟨_,_,_,b.tab,.inl rfl⟩
 ·obtain⟨C,f,c⟩:=b.rows.typ x a;exact⟨C,f,_,c,.inr rfl⟩
theorem d0m {w0 w:World} {g:Nat} {F:List Nat} {l:List (Int×Int)} (h:rS w0 w g F l):∀ x∈F,∃ C f e,w.heap[x]?=some (.cells C e f)∧(e=148∨e=389):=by
 intro x a;obtain⟨d,rfl,b⟩:=h.ex;rcases aG.1 a with rfl|a
 ·exact⟨_,_,_,b.tab,.inl rfl⟩
 ·obtain⟨C,f,c⟩:=b.rows.typ x a;exact⟨C,f,_,c,.inr rfl⟩
theorem fB.typ {α:Type} {c:α→Value} {base:Nat} {e:TypeId} {w:World} {v:Value} {l:List α} (h:fB c base e w v l):∀ x∈blk v,∃ C f,w.heap[x]?=some (.cells C e f):=by
 intro x a;rcases h.2 with⟨rfl,_⟩|⟨g,b,d,rfl,_,i,_⟩
 ·simp[blk] at a
 ·simp[blk] at a;subst a;exact⟨_,_,i⟩
theorem d0n {w0 w:World} {g g2:Nat} {F G:List Nat} {l:List (Int×(ByteArray×Sl))} {m:List (Int×Int)} (h:oQ w0 w g F l) (k:rS w0 w g2 G m):Ap F G:=by
 intro x d i;obtain⟨C,f,e,j,b⟩:=d0l h x d;obtain⟨o,p,r,c,a⟩:=d0m k x i;have:=yG j c;rcases b with b|b<;>rcases a with a|a<;>(rw[b,a] at this;exact absurd this (by decide))
theorem a8d {w0 w:World} {g base:Nat} {F:List Nat} {l:List (Int×(ByteArray×Sl))} {v:Value} {m:List UInt8} (h:oQ w0 w g F l) (k:fB bv base 5 w v m):Ap F (blk v):=by
 intro x c d;obtain⟨C,f,e,i,a⟩:=d0l h x c;obtain⟨j,o,b⟩:=k.typ x d;have:=yG i b;rcases a with a|a<;>(rw[a] at this;exact absurd this (by decide))
theorem d0o {w0 w:World} {g base:Nat} {F:List Nat} {l:List (Int×Int)} {v:Value} {m:List UInt8} (h:rS w0 w g F l) (k:fB bv base 5 w v m):Ap F (blk v):=by
 intro x c d;obtain⟨C,f,e,i,a⟩:=d0m h x c;obtain⟨j,o,b⟩:=k.typ x d;have:=yG i b;rcases a with a|a<;>(rw[a] at this;exact absurd this (by decide))
structure YC (w0 w:World) (gy gf gt:Nat) (F T:List Nat) (cs:CL) (tk:List (Int×Int)):Prop where
 yard:cU w gy 107 [.pointer (some ⟨gf,0,none⟩),.pointer (some ⟨gt,0,none⟩)]
 gyb:w0.heap.size≤gy
 files:oQ w0 w gf F (eH cs)
 taken:rS w0 w gt T tk
 own:∀ c∈cs,fB bv w0.heap.size 5 w (gF c.2.1.2) c.2.2
 ap:∀ c∈cs,∀ d∈cs,c.1≠d.1→Ap (blk (gF c.2.1.2)) (blk (gF d.2.1.2))
section
variable {w0 w w' : World} {gy gf gt : Nat} {F T : List Nat} {cs : CL} {tk : List (Int × Int)}
theorem YC.old (h:YC w0 w gy gf gt F T cs tk):bR [] w0 w:=h.files.old
theorem YC.upd0 (h:YC w0 w gy gf gt F T cs tk) (hu:bR [] w w'):YC w0 w' gy gf gt F T cs tk :=
 ⟨h.yard.upd hu (by simp),h.gyb,h.files.upd0 hu,h.taken.upd0 hu,fun c a=>(h.own c a).upd hu (by simp),h.ap⟩
theorem YC.gy_F (h:YC w0 w gy gf gt F T cs tk):gy∉F:=fun c=>by
 obtain⟨C,f,e,b,a⟩:=d0l h.files gy c;have:=yG b h.yard;rcases a with a|a<;>(rw[a] at this;exact absurd this (by decide))
theorem YC.gy_T (h:YC w0 w gy gf gt F T cs tk):gy∉T:=fun c=>by
 obtain⟨C,f,e,b,a⟩:=d0m h.taken gy c;have:=yG b h.yard;rcases a with a|a<;>(rw[a] at this;exact absurd this (by decide))
theorem d0p {e:List Value} {base:Nat} {v:Value} {m:List UInt8} (h:cU w gy 107 e) (k:fB bv base 5 w v m):gy∉blk v:=fun b=>by
 obtain⟨c,d,a⟩:=k.typ gy b;have:=yG a h;exact absurd this (by decide)
theorem YC.setFiles (h:YC w0 w gy gf gt F T cs tk) {F':List Nat} {cs':CL} (hf:oQ w0 w' gf F' (eH cs')) (hu:bR F w w')
  (hown:∀ c∈cs',fB bv w0.heap.size 5 w (gF c.2.1.2) c.2.2) (hap:∀ c∈cs',∀ d∈cs',c.1≠d.1→Ap (blk (gF c.2.1.2)) (blk (gF d.2.1.2))):YC w0 w' gy gf gt F' T cs' tk :=
 ⟨h.yard.upd hu h.gy_F,h.gyb,hf,h.taken.upd hu (d0n h.files h.taken).symm (fun x b=>(h.files.ge x b).1),fun c a=>(hown c a).upd hu (a8d h.files (hown c a)).symm,hap⟩
theorem YC.setTaken (h:YC w0 w gy gf gt F T cs tk) {T':List Nat} {tk':List (Int×Int)} (ht:rS w0 w' gt T' tk') (hu:bR T w w'):YC w0 w' gy gf gt F T' cs tk' :=
 ⟨h.yard.upd hu h.gy_T,h.gyb,h.files.upd hu (d0n h.files h.taken) (fun x b=>(h.taken.ge x b).1),ht,fun c a=>(h.own c a).upd hu (d0o h.taken (h.own c a)).symm,h.ap⟩
end
theorem b2k (cs:CL) (i:Nat) (hi:i < cs.length):bT (eH cs) i=((bT cs i).1,(bT cs i).2.1):=fD id (·.1) cs i hi
theorem iS (cs:CL):(eH cs).length=cs.length:=by simp[eH,gA]
theorem b2l (cs:CL) (i:Nat) (hi:i < cs.length):tAt (0:Int) zF (eH cs) (i:Int)=((bT cs i).1,(bT cs i).2.1,true):=by
 rw[b6d _ _ _ _ (by rw[iS];exact hi),b2k cs i hi]
section
variable {w0 w : World} {gy gf gt : Nat} {F T : List Nat} {cs : CL} {tk : List (Int × Int)}
theorem a6a (s:ByteArray) (i:Nat) (ino:Int) (nm:ByteArray) (sl:Sl) (h:YC w0 w gy gf gt F T cs tk) (hlen:cs.length≤1000) (hi:i≤cs.length) (hlo:∀ j,j < i→(bT cs j).2.1.1≠s)
  (hat:(i < cs.length∧(bT cs i).2.1.1=s∧ino=(bT cs i).1∧(nm,sl)=(bT cs i).2.1)∨(i=cs.length∧ino=0∧(nm,sl)=zF)) :
  Calls Tryz.prog 37 #[.pointer (some ⟨gy,0,none⟩),sv s] w fun e w'=>e = .returned (.tuple #[iv ino,fv (nm,sl)])∧bR [] w w':=by
 have O:=bG h;have E:=bG hlo;have m:=bG hat;have r:Hid ((eH cs).length≤100000):=by unfold Hid;rw[iS];omega
 have Q:Hid (((eH cs).length:Int)=(cs.length:Int)):=by unfold Hid;rw[iS]
 have G:=(bR.refl [] w).alloc (.cells #[.string ⟨#[]⟩,.slice none 0 0] 103);have o:=bG G;have I:=cU.new w 103 [.string ⟨#[]⟩,.slice none 0 0];have J:=bG I;have y0:=o.out.cell (h.yard.cell 0) (by simp);clear h hlo hat G I;go_enter Tryz.func37,Tryz.ntmps37;go_wp2_with fail
 (with_reducible refine(wK _ ((O.out.upd0 o.out).files) Q.out).mono ?_)
 rintro e w' ⟨rfl,rfl⟩;clear y0;go_wp2_with fail
 go_loopw [6,15] (fun x c wr=>∃ k:Nat,k≤i∧c = .int .i64 k∧Hid (bR [] w wr)∧Hid (cU wr w.heap.size 103 [.string ⟨#[]⟩,.slice none 0 0])) (fun _ c _=>cs.length-(intOf c).toNat)
 case atStart=>exact⟨0,aS _,rfl,o,J⟩
 case round =>
  obtain⟨k,hk,rfl,D,P⟩:=hrel;have a4:w.heap.size < wr.heap.size:=P.out.lt;have y1:=D.out.cell (O.out.yard.cell 0) (by simp);clear o J;by_cases a2:k < cs.length
  ·have R:Hid (tAt (0:Int) zF (eH cs) (k:Int)=((bT cs k).1,(bT cs k).2.1,true)):=b2l cs k a2;have q0:(0:Int)≤k:=by omega
   have q1:(k:Int) < cs.length:=by omega
   have t:Hid (gR (k:Int)):=⟨by omega,by omega⟩
   by_cases a3:k < i
   ·have K:=E.out k a3;generalize (bT cs k).1=x at *
    generalize (bT cs k).2.1=v2 at *
    obtain⟨p,A⟩:=v2;have t1:(p.toList==s.toList)=false:=by rw[bJ];exact fun h=>K (pV _ _ h)
    clear K;go_wp2_with fail
    (with_reducible refine(a8b (k:Int) x (p,A) true t.out ((O.out.upd0 D.out).files) r.out R.out).mono ?_)
    rintro e u ⟨rfl,b⟩;have y:=bG (D.out.seq b);have g:=bG (P.out.upd b (by simp));have L:w.heap.size < u.heap.size:=g.out.lt;clear b;go_wp2_with fail
    have z:=bG (y.out.alloc (.cells #[sv p,gF A] 103));have S:=bG (g.out.upd ((bR.refl [] u).alloc (.cells #[sv p,gF A] 103)) (by simp));go_roundw
    case rel=>exact⟨k+1,by omega,by go_num,z,S⟩
    case measure=>simp[intOf];omega
   ·obtain rfl:k=i:=by omega
    have hat:(bT cs k).2.1.1=s∧ino=(bT cs k).1∧(nm,sl)=(bT cs k).2.1:=by
     rcases m.out with⟨-,Y,Z,h3⟩|⟨Y,-⟩
     ·exact⟨Y,Z,h3⟩
     ·omega
    obtain⟨B,N,C⟩:=hat;rw[← N,← C] at R;have M:nm=s:=by rw[← C] at B;exact B
    have t1:(nm.toList==s.toList)=true:=by rw[M];simp
    clear B N C M m E;go_wp2_with fail
    (with_reducible refine(a8b (k:Int) ino (nm,sl) true t.out ((O.out.upd0 D.out).files) r.out R.out).mono ?_)
    rintro e u ⟨rfl,b⟩;have y:=bG (D.out.seq b);have g:=bG (P.out.upd b (by simp));have L:w.heap.size < u.heap.size:=g.out.lt;clear b;go_wp2_with fail
    have z:=bG (y.out.alloc (.cells #[sv nm,gF sl] 103));have d:=(g.out.upd ((bR.refl [] u).alloc (.cells #[sv nm,gF sl] 103)) (by simp))
    have hR:=cU.new u 103 [sv nm,gF sl];change cU (u.alloc (.cells #[sv nm,gF sl] 103)) _ _ _ at hR;generalize u.alloc (.cells #[sv nm,gF sl] 103)=v at *
    have d0:=d.cell 0;have d1:=d.cell 1;have f0:=d.frozen 0;have f1:=d.frozen 1;have r0:=hR.cell 0;have r1:=hR.cell 1;simp only[List.getElem?_cons_zero,List.getElem?_cons_succ] at d0 d1 r0 r1;have a:Hid (cU ((v.setCell ⟨w.heap.size,0,none⟩ (sv nm)).setCell ⟨w.heap.size,1,none⟩ (gF sl)).drew w.heap.size 103 [sv nm,gF sl]):=qB d _ _;have l:Hid (bR [] w ((v.setCell ⟨w.heap.size,0,none⟩ (sv nm)).setCell ⟨w.heap.size,1,none⟩ (gF sl)).drew) :=
     ((z.out.setCell _ _ (.inr (aF _))).setCell _ _ (.inr (aF _))).drew
    clear d hR;go_region
    all_goals (go_wp2_with fail)
    all_goals
     have U:=a.out.cell 0;have V:=a.out.cell 1;have X:=l.out;clear a l;generalize World.drew _=W at *
     exact bodyPost_ret (v := .tuple #[iv ino,fv (nm,sl)]) (by simp[results,Tryz.results37,go_sem,U,V];try rfl) rfl ⟨rfl,X⟩
  ·obtain rfl:k=cs.length:=by omega
   have hat:ino=0∧(nm,sl)=zF:=by
    rcases m.out with⟨Y,-⟩|⟨-,Z,h3⟩
    ·omega
    ·exact⟨Z,h3⟩
   obtain⟨rfl,hz⟩:=hat;injection hz with a0 a1;subst a0;subst a1;have f:=P.out;have d0:=f.cell 0;have d1:=f.cell 1;have f0:=f.frozen 0;have f1:=f.frozen 1;have a:=bG (qB f (.string ⟨#[]⟩) (.slice none 0 0));have l:Hid (bR [] w ((wr.setCell ⟨w.heap.size,0,none⟩ (.string ⟨#[]⟩)).setCell ⟨w.heap.size,1,none⟩ (.slice none 0 0))) :=
    (D.out.setCell _ _ (.inr (aF _))).setCell _ _ (.inr (aF _))
   clear f m;go_wp2_with fail
   have U:=a.out.cell 0;have V:=a.out.cell 1;have X:=l.out;clear a l;generalize World.setCell _ _ _=W at *
   exact bodyPost_ret (v := .tuple #[iv 0,fv zF]) (by simp[results,Tryz.results37,go_sem,U,V];try rfl) rfl ⟨rfl,X⟩
end
def gD (fl:FL) (s:ByteArray):Nat:=(fl.takeWhile fun p=>decide (p.2.1≠s)).length
def wL (fl:FL) (s:ByteArray):Bool:=decide (gD fl s < fl.length)
theorem b2m:∀ (fl:FL) (s:ByteArray),gD fl s≤fl.length
 | [],s=>by simp[gD]
 | p::l,s=>by
  have:=b2m l s;unfold gD at this ⊢;rw[List.takeWhile_cons];split<;>simp;simpa using this
theorem a2x:∀ (fl:FL) (s:ByteArray) (j:Nat),j < gD fl s→(bT fl j).2.1≠s
 | [],s,j,h=>by simp[gD] at h
 | p::l,s,j,h=>by
  unfold gD at h;rw[List.takeWhile_cons] at h;split at h
  ·rename_i hp;cases j with
   | zero=>rw[cP];simpa using hp
   | succ j=>rw[gK];exact a2x l s j (by simpa [gD] using h)
  ·simp at h
theorem wM:∀ (fl:FL) (s:ByteArray),gD fl s < fl.length→(bT fl (gD fl s)).2.1=s
 | [],s,h=>by simp at h
 | p::l,s,h=>by
  by_cases hp:p.2.1=s
  ·have:gD (p::l) s=0:=by unfold gD;rw[List.takeWhile_cons];simp[hp]
   rw[this,cP];exact hp
  ·have e:gD (p::l) s=gD l s+1:=by unfold gD;rw[List.takeWhile_cons];simp[hp]
   rw[e,gK];exact wM l s (by rw[e] at h;simpa using h)
def oC {ν:Type} [Inhabited ν] (l:List (Int×ν)):Int:=((((List.range' 0 (l.length+1)).takeWhile fun k:Nat=>cB fA l ((k:Int)+1)).length:Nat):Int)+1
theorem b2n (p:Nat→Bool):∀ (n s:Nat),(∀ j,j < ((List.range' s n).takeWhile p).length→p (s+j)=true)∧(((List.range' s n).takeWhile p).length < n→p (s+((List.range' s n).takeWhile p).length)=false)∧((List.range' s n).takeWhile p).length≤n
 | 0,s=>⟨fun j h=>by simp at h,fun h=>absurd h (by omega),by simp⟩
 | n+1,s=>by
  obtain⟨h1,h2,h3⟩:=b2n p n (s+1);rw[List.range'_succ,List.takeWhile_cons];cases a:p s with
  | false=>simp[a]
  | true =>
   rw[if_pos rfl,aW];refine⟨fun j b=>?_,fun c=>?_,by omega⟩
   ·cases j with
    | zero=>rw[Nat.add_zero];exact a
    | succ j=>rw[show s+(j+1)=s+1+j by omega];exact h1 j (by omega)
   ·rw[← Nat.add_assoc,Nat.add_right_comm];exact h2 (by omega)
theorem a2y {ν:Type} [Inhabited ν] {l:List (Int×ν)} (h:bV fA l):∀ k:Nat,(∀ j:Nat,j < k→cB fA l ((j:Int)+1)=true)→k≤below fA l ((k:Int)+1)
 | 0,_=>aS _
 | k+1,hj=>by
  have ih:=a2y h k (fun j h=>hj j (by omega));have a:=hj k (by omega);unfold cB at a;obtain⟨c,d⟩:=bI a;have b:=c9v (lt:=fA) jH h (((k+1:Nat):Int)+1) _ c;rw[d] at b;have:fA ((k:Int)+1) (((k+1:Nat):Int)+1)=true:=by simp[fA];omega
  rw[this] at b;have:=bI b.symm;omega
theorem a8e {ν:Type} [Inhabited ν] {l:List (Int×ν)} (h:bV fA l) (k:Nat) (hj:∀ j:Nat,j < k→cB fA l ((j:Int)+1)=true):k≤l.length :=
 aL (a2y h k hj) (iR l _)
theorem a8f {ν:Type} [Inhabited ν] {l:List (Int×ν)} (h:bV fA l):∃ k:Nat,k≤l.length∧oC l=(k:Int)+1∧cB fA l ((k:Int)+1)=false∧∀ j:Nat,j < k→cB fA l ((j:Int)+1)=true:=by
 obtain⟨c,d,f⟩:=b2n (fun k:Nat=>cB fA l ((k:Int)+1)) (l.length+1) 0;have a:=a8e h _ (fun j b=>by have:=c j b;rwa[aM] at this);refine⟨_,a,rfl,?_,fun j b=>by have:=c j b;rwa[aM] at this⟩;have:=d (by omega);rwa[aM] at this
theorem b7f {ν:Type} [Inhabited ν] {l:List (Int×ν)} (h:bV fA l) (k:Nat) (h1:∀ j:Nat,j < k→cB fA l ((j:Int)+1)=true) (h2:cB fA l ((k:Int)+1)=false):oC l=(k:Int)+1:=by
 obtain⟨m,-,e,a,b⟩:=a8f h;rcases Nat.lt_trichotomy m k with q|q|q
 ·rw[h1 m q] at a;exact absurd a (by simp)
 ·rw[e,q]
 ·rw[b k q] at h2;exact absurd h2 (by simp)
def jN (fl:FL) (s:ByteArray):Int×FL :=
 if dL s then (if wL fl s then (8,fl) else if 12≤fl.length then (9,fl) else (0,dD fA fl (oC fl) (s,[]))) else (14,fl)
def a8g (fl:FL) (s:ByteArray):Int:=(bT fl (gD fl s)).1
def qC (fl:FL) (s:ByteArray):List UInt8:=(bT fl (gD fl s)).2.2
def kL (fl:FL) (s:ByteArray) (p:List UInt8):Int×FL :=
 if wL fl s then (if 65536 < (qC fl s).length+p.length then (9,fl) else (0,dD fA fl (a8g fl s) (s,qC fl s++p))) else (7,fl)
def fM (fl:FL) (s:ByteArray):Int×FL :=
 if wL fl s then (0,fS fA fl (a8g fl s)) else (7,fl)
theorem a8h {α:Type} [Inhabited α] {l:List α} {n:Nat} {p:α} (h:p∈l.take n):∃ i,i < n∧i < l.length∧bT l i=p:=by
 obtain⟨i,a,rfl⟩:=List.mem_iff_getElem.1 h;rw[aJ] at a;exact⟨i,by omega,by omega,by rw[cO l i (by omega)];simp⟩
theorem a8i {α:Type} [Inhabited α] {l:List α} {n:Nat} {p:α} (h:p∈l.drop n):∃ i,n≤i∧i < l.length∧bT l i=p:=by
 obtain⟨i,a,rfl⟩:=List.mem_iff_getElem.1 h;rw[aH] at a;exact⟨n+i,by omega,by omega,by rw[cO l _ (by omega)];simp⟩
section
variable {ν : Type} [Inhabited ν]
theorem c1f (a b:Int) (h:fA a b=true):a≠b:=by simp[fA] at h;omega
theorem mT {l:List (Int×ν)} (h:bV fA l) (k:Int) (v:ν) (p:Int×ν) (hp:p∈dD fA l k v):p=(k,v)∨(p∈l∧p.1≠k):=by
 unfold dD at hp;rcases aI.1 hp with hp|hp
 ·obtain⟨i,b,a,rfl⟩:=a8h hp;exact .inr ⟨eM i a,c1f _ _ (kJ l k i b)⟩
 ·rcases aG.1 hp with hp|hp
  ·exact .inl hp
  ·obtain⟨i,b,a,rfl⟩:=a8i hp;exact .inr ⟨eM i a,(c1f _ _ (a5s jH h k i b a)).symm⟩
variable {μ : Type} [Inhabited μ] (f : ν → μ)
theorem jU (l:List (Int×ν)) (k:Int):cB fA (gA id f l) k=cB fA l k:=sR (lt:=fA) (lt':=fA) id f (fun _=>True) (fun _ _ _ _=>rfl) (fun _ _ _ _ h=>h) l (fun _ _=>trivial) k trivial
theorem a2z (l:List (Int×ν)) (k:Int):below fA (gA id f l) k=below fA l k:=nG (lt:=fA) (lt':=fA) id f (fun _=>True) (fun _ _ _ _=>rfl) l (fun _ _=>trivial) k trivial
theorem wN (l:List (Int×ν)) (k:Int) (v:ν):dD fA (gA id f l) k (f v)=gA id f (dD fA l k v):=b1x (lt:=fA) (lt':=fA) id f (fun _=>True) (fun _ _ _ _=>rfl) (fun _ _ _ _ h=>h) l (fun _ _=>trivial) k trivial v
theorem b2o (l:List (Int×ν)) (k:Int):fS fA (gA id f l) k=gA id f (fS fA l k):=b1y (lt:=fA) (lt':=fA) id f (fun _=>True) (fun _ _ _ _=>rfl) (fun _ _ _ _ h=>h) l (fun _ _=>trivial) k trivial
theorem b2p {l:List (Int×ν)} (h:bV fA (gA id f l)):bV fA l:=fun i j a b=>by
 have c:(gA id f l).length=l.length:=by simp[gA]
 have:=h i j a (by rw[c];exact b);rwa[fD id f l i (by omega),fD id f l j b] at this
theorem a8j {l:List (Int×ν)} (h:bV fA l):bV fA (gA id f l):=fun i j a c=>by
 have b:(gA id f l).length=l.length:=by simp[gA]
 rw[fD id f l i (by omega),fD id f l j (by omega)];exact h i j a (by omega)
theorem c4v {l:List (Int×ν)}:oC (gA id f l)=oC l:=by
 unfold oC;simp only[jU];have a:(gA id f l).length=l.length:=by simp[gA]
 rw[a]
end
theorem d6l (base:Nat) (e:TypeId) (w:World):fB bv base e w (gF ⟨none,0,0⟩) []:=bK _ _ _ _
theorem d6m (G:List Nat):Ap (blk (gF ⟨none,0,0⟩)) G:=Ap.nil
theorem fX (cs:CL):(bZ cs).length=cs.length:=by simp[bZ,gA]
theorem gU (cs:CL) (i:Nat) (hi:i < cs.length):bT (bZ cs) i=((bT cs i).1,(bT cs i).2.1.1,(bT cs i).2.2):=fD id (fun v:(ByteArray×Sl)×List UInt8=>(v.1.1,v.2)) cs i hi
section
variable {w0 w : World} {gy gf gt : Nat} {F T : List Nat} {cs : CL} {tk : List (Int × Int)}
theorem YC.p0 (h:YC w0 w gy gf gt F T cs tk):w.cell? ⟨gy,0,none⟩=some (.pointer (some ⟨gf,0,none⟩)):=h.yard.cell 0
theorem YC.p1 (h:YC w0 w gy gf gt F T cs tk):w.cell? ⟨gy,1,none⟩=some (.pointer (some ⟨gt,0,none⟩)):=h.yard.cell 1
theorem YC.ris (h:YC w0 w gy gf gt F T cs tk):bV fA cs:=b2p (·.1) h.files.ris
theorem a3a (s:ByteArray) (h:YC w0 w gy gf gt F T cs tk) (hlen:cs.length≤1000) (hn:wL (bZ cs) s=false) :
  Calls Tryz.prog 37 #[.pointer (some ⟨gy,0,none⟩),sv s] w fun e w'=>e = .returned (.tuple #[iv 0,fv zF])∧bR [] w w':=by
 have a:=b2m (bZ cs) s;unfold wL at hn;have hn:=of_decide_eq_false hn;rw[fX] at a hn;exact a6a s cs.length 0 _ _ h hlen (aF _) (fun j b=>by
  have:=a2x (bZ cs) s j (by omega);rwa[gU cs j b] at this) (.inr ⟨rfl,rfl,rfl⟩)
theorem yH (s:ByteArray) (i:Nat) (h:YC w0 w gy gf gt F T cs tk) (hlen:cs.length≤1000) (hn:wL (bZ cs) s=true) (hi:gD (bZ cs) s=i) :
  Calls Tryz.prog 37 #[.pointer (some ⟨gy,0,none⟩),sv s] w fun e w'=>e = .returned (.tuple #[iv (bT cs i).1,fv (bT cs i).2.1])∧bR [] w w':=by
 subst hi;unfold wL at hn;have hn:=bI hn;have a:=wM (bZ cs) s hn;have b:=fun j c=>a2x (bZ cs) s j c
 rw[fX] at hn;rw[gU cs _ hn] at a;exact a6a s _ _ _ _ h hlen (Nat.le_of_lt hn) (fun j c=>by
  have:=b j c;rwa[gU cs j (by omega)] at this) (.inl ⟨hn,a,rfl,rfl⟩)
theorem YC.set (h:YC w0 w gy gf gt F T cs tk) (hlen:cs.length≤1000) (k:Int) (hk:gR k) (nm:ByteArray) (sl:Sl) (p:List UInt8) (ho:fB bv w0.heap.size 5 w (gF sl) p) (hap:∀ d∈cs,d.1≠k→Ap (blk (gF sl)) (blk (gF d.2.1.2))) :
  Calls Tryz.prog 40 #[.pointer (some ⟨gf,0,none⟩),iv k,fv (nm,sl)] w fun e w'=>(∃ r,e = .returned (.bool r))∧(∃ F',YC w0 w' gy gf gt F' T (dD fA cs k ((nm,sl),p)) tk∧bR F w w'∧(∀ x∈F',x∈F∨w.heap.size≤x)):=by
 refine(b2h k (nm,sl) _ _ h.files (by rw[iS];omega) hk rfl rfl).mono ?_;rintro e w' ⟨rfl,F',i,j,f⟩;have a:dD dP (eH cs) k (nm,sl)=eH (dD fA cs k ((nm,sl),p)):=wN (·.1) cs k ((nm,sl),p);rw[a] at i;refine⟨⟨_,rfl⟩,F',h.setFiles i j ?_ ?_,j,f⟩
 ·intro c g;rcases mT h.ris k _ c g with rfl|⟨q,-⟩
  ·exact ho
  ·exact h.own c q
 ·intro c g d hd b;rcases mT h.ris k _ c g with rfl|⟨q,l⟩<;>rcases mT h.ris k _ d hd with rfl|⟨r,m⟩
  ·exact absurd rfl b
  ·exact hap d r m
  ·exact(hap c q l).symm
  ·exact h.ap c q d r b
theorem YC.del (h:YC w0 w gy gf gt F T cs tk) (hlen:cs.length≤1000) (k:Int) (hk:gR k) :
  Calls Tryz.prog 41 #[.pointer (some ⟨gf,0,none⟩),iv k] w fun e w'=>(∃ r,e = .returned (.bool r))∧(∃ F',YC w0 w' gy gf gt F' T (fS fA cs k) tk∧bR F w w'∧(∀ x∈F',x∈F∨w.heap.size≤x)):=by
 refine(d0h k _ _ h.files (by rw[iS];omega) hk rfl rfl).mono ?_;rintro e w' ⟨rfl,F',i,j,b⟩;have a:fS dP (eH cs) k=eH (fS fA cs k):=b2o (·.1) cs k;rw[a] at i;exact⟨⟨_,rfl⟩,F',h.setFiles i j (fun c f=>h.own c (iG cs k c f)) (fun c f d hd g=>h.ap c (iG cs k c f) d (iG cs k d hd) g),j,b⟩
end
def pG (gy:Nat) (F T:List Nat) (cs:CL):List Nat:=gy::(F++T++cs.flatMap fun c=>blk (gF c.2.1.2))
theorem eW (gy:Nat) (F T:List Nat) (cs:CL) (x:Nat):x∈pG gy F T cs↔x=gy∨x∈F∨x∈T∨∃ c∈cs,x∈blk (gF c.2.1.2):=by
 unfold pG;simp only[aG,aI,List.mem_flatMap];constructor
 ·rintro(h|(h|h)|h)
  ·exact .inl h
  ·exact .inr (.inl h)
  ·exact .inr (.inr (.inl h))
  ·exact .inr (.inr (.inr h))
 ·rintro(h|h|h|h)
  ·exact .inl h
  ·exact .inr (.inl (.inl h))
  ·exact .inr (.inl (.inr h))
  ·exact .inr (.inr h)
theorem YC.ge {w0 w:World} {gy gf gt:Nat} {F T:List Nat} {cs:CL} {tk:List (Int×Int)} (h:YC w0 w gy gf gt F T cs tk):∀ x∈pG gy F T cs,w0.heap.size≤x∧x < w.heap.size:=by
 intro x a;rcases (eW gy F T cs x).1 a with rfl|a|a|⟨c,b,a⟩
 ·exact⟨h.gyb,h.yard.lt⟩
 ·exact h.files.ge x a
 ·exact h.taken.ge x a
 ·exact(h.own c b).ge x a
structure YD (w0 w:World) (gy:Nat) (G:List Nat) (fl:FL) (tk:List (Int×Int)):Prop where
 ex:∃ gf gt F T cs,YC w0 w gy gf gt F T cs tk∧bZ cs=fl∧cs.length≤12∧(∀ c∈cs,1≤c.1∧c.1≤12∧c.2.2.length≤65536)∧G=pG gy F T cs
def b7g (w0 w:World) (gy:Nat) (G:List Nat) (fl':FL) (tk':List (Int×Int)) (w':World):Prop:=∃ G',YD w0 w' gy G' fl' tk'∧bR G w w'∧(∀ x∈G',x∈G∨w.heap.size≤x)
section
variable {w0 w w' : World} {gy : Nat} {G : List Nat} {fl : FL} {tk : List (Int × Int)}
theorem YD.ge (h:YD w0 w gy G fl tk):∀ x∈G,w0.heap.size≤x∧x < w.heap.size:=by
 obtain⟨b,c,F,T,cs,a,-,-,-,rfl⟩:=h.ex;exact a.ge
theorem YD.ris (h:YD w0 w gy G fl tk):bV fA fl∧fl.length≤12∧(∀ p∈fl,1≤p.1∧p.1≤12∧p.2.2.length≤65536):=by
 obtain⟨i,j,F,T,cs,f,rfl,g,a,-⟩:=h.ex;refine⟨a8j _ f.ris,by rw[fX];exact g,fun p d=>?_⟩;unfold bZ gA at d;obtain⟨c,b,rfl⟩:=List.mem_map.1 d;exact a c b
theorem YC.upd {gf gt:Nat} {F T:List Nat} {cs:CL} (h:YC w0 w gy gf gt F T cs tk) {S:List Nat} (hu:bR S w w') (hs:∀ x∈pG gy F T cs,x∉S) (hS:∀ x∈S,w0.heap.size≤x):YC w0 w' gy gf gt F T cs tk :=
 ⟨h.yard.upd hu (hs gy ((eW _ _ _ _ _).2 (.inl rfl))),h.gyb,h.files.upd hu (fun x a=>hs x ((eW _ _ _ _ _).2 (.inr (.inl a)))) hS,h.taken.upd hu (fun x a=>hs x ((eW _ _ _ _ _).2 (.inr (.inr (.inl a))))) hS,fun c b=>(h.own c b).upd hu (fun x a=>hs x ((eW _ _ _ _ _).2 (.inr (.inr (.inr ⟨c,b,a⟩))))),h.ap⟩
theorem YD.upd (h:YD w0 w gy G fl tk) {S:List Nat} (hu:bR S w w') (hs:∀ x∈G,x∉S) (hS:∀ x∈S,w0.heap.size≤x):YD w0 w' gy G fl tk:=by
 obtain⟨a,b,F,T,cs,c,d,f,g,rfl⟩:=h.ex;exact⟨a,b,F,T,cs,c.upd hu hs hS,d,f,g,rfl⟩
theorem YD.upd0 (h:YD w0 w gy G fl tk) (hu:bR [] w w'):YD w0 w' gy G fl tk:=h.upd hu (by simp) (by simp)
theorem YD.out0 (h:YD w0 w gy G fl tk) (hu:bR [] w w'):b7g w0 w gy G fl tk w':=⟨G,h.upd0 hu,hu.mono (by simp),fun x a => .inl a⟩
theorem b7g.of {gf' gt':Nat} {F T F' T':List Nat} {cs cs':CL} {fl':FL} {tk':List (Int×Int)} (h':YC w0 w' gy gf' gt' F' T' cs' tk') (hfl:bZ cs'=fl') (hl:cs'.length≤12) (hin:∀ c∈cs',1≤c.1∧c.1≤12∧c.2.2.length≤65536)
  (hu:bR (pG gy F T cs) w w') (hF:∀ x∈F',x∈pG gy F T cs∨w.heap.size≤x) (hT:∀ x∈T',x∈pG gy F T cs∨w.heap.size≤x) (hcs:∀ c∈cs',∀ x∈blk (gF c.2.1.2),x∈pG gy F T cs∨w.heap.size≤x):b7g w0 w gy (pG gy F T cs) fl' tk' w':=by
 refine⟨pG gy F' T' cs',⟨gf',gt',F',T',cs',h',hfl,hl,hin,rfl⟩,hu,fun x a=>?_⟩;rcases (eW _ _ _ _ _).1 a with rfl|a|a|⟨c,b,a⟩
 ·exact .inl ((eW _ _ _ _ _).2 (.inl rfl))
 ·exact hF x a
 ·exact hT x a
 ·exact hcs c b x a
theorem oR {gy:Nat} {F T:List Nat} {cs:CL} {x:Nat} (h:x∈F):x∈pG gy F T cs:=(eW _ _ _ _ _).2 (.inr (.inl h))
theorem a8k {gy:Nat} {F T:List Nat} {cs:CL} {x:Nat} (h:x∈T):x∈pG gy F T cs:=(eW _ _ _ _ _).2 (.inr (.inr (.inl h)))
theorem qD {gy:Nat} {F T:List Nat} {cs:CL} {x:Nat} {c:Int×(ByteArray×Sl)×List UInt8} (hc:c∈cs) (h:x∈blk (gF c.2.1.2)):x∈pG gy F T cs:=(eW _ _ _ _ _).2 (.inr (.inr (.inr ⟨c,hc,h⟩)))
end
theorem d0q (w0 w:World) (hu:bR [] w0 w) :
  Calls Tryz.prog 16 #[] w fun e w'=>∃ gy,e = .returned (.pointer (some ⟨gy,0,none⟩))∧(∃ G,YD w0 w' gy G [] []∧(∀ x∈G,w.heap.size≤x))∧bR [] w w':=by
 have p:=bG hu;go_enter Tryz.func16,Tryz.ntmps16;go_wp2_with fail
 (with_reducible refine(d0g w0 _ p.out).mono ?_)
 rintro e E ⟨r,F,rfl,s,d,t⟩;have z:=bG s;have j:=bG t;have g:=bG d;have h:=bG (p.out.seq d);clear s d t;go_wp2_with fail
 (with_reducible refine(d0i w0 _ h.out).mono ?_)
 rintro e u ⟨v,T,rfl,y,a,hT⟩;have A:=bG y;have l:=bG hT;have i:=bG (g.out.seq a);have m:=bG (z.out.upd0 a);have o:=(h.out.seq a).size;clear y a hT;go_wp2_with fail
 go_ret;have b:=(bR.refl [] u).alloc (.cells #[.pointer (some ⟨r,0,none⟩),.pointer (some ⟨v,0,none⟩)] 107);refine⟨_,rfl,⟨_,⟨r,v,F,T,[],⟨cU.new u _ [_,_],o,m.out.upd0 b,A.out.upd0 b,by simp,by simp⟩,rfl,by simp,by simp,rfl⟩,fun x f=>?_⟩,i.out.seq b⟩;have D:=g.out.size;have B:=i.out.size;rcases (eW _ _ _ _ _).1 f with rfl|f|f|⟨c,C,f⟩
 ·exact B
 ·exact j.out x f
 ·have:=l.out x f;omega
 ·simp at C
section
variable {w0 w : World} {gy : Nat} {G : List Nat} {fl : FL} {tk : List (Int × Int)}
def d0r (w0 w:World) (gy:Nat) (G:List Nat) (tk:List (Int×Int)) (r:Int×FL) (e:Ending) (w':World):Prop:=e = .returned (.int .i64 r.1)∧b7g w0 w gy G r.2 tk w'
theorem b2q (s:ByteArray) (h:YD w0 w gy G fl tk) :
  Calls Tryz.prog 21 #[.pointer (some ⟨gy,0,none⟩),sv s] w (d0r w0 w gy G tk (jN fl s)):=by
 obtain⟨gf,gt,F,T,cs,hc,rfl,a2,b,rfl⟩:=h.ex;have i:=bG hc;have g:cs.length≤1000:=by omega
 have I:=bG b;have J:Hid (((eH cs).length:Int)=(cs.length:Int)):=by unfold Hid;rw[iS]
 have S:=bG h;clear hc h b;cases z:dL s with
 | false =>
  have o:Hid (jN (bZ cs) s=(14,bZ cs)):=by unfold Hid jN;rw[z];rfl
  have C:=bG (a5z w s);rw[z] at C;go_enter Tryz.func21,Tryz.ntmps21;go_wp2_with fail
  (with_reducible refine C.out.mono ?_)
  rintro e M ⟨rfl,rfl⟩;go_wp2_with fail
  go_ret;exact⟨by rw[o.out];rfl,by rw[o.out];exact S.out.out0 (bR.refl _ _)⟩
 | true =>
  have C:=bG (a5z w s);rw[z] at C;cases y:wL (bZ cs) s with
  | true =>
   have o:Hid (jN (bZ cs) s=(8,bZ cs)):=by unfold Hid jN;rw[z,y];rfl
   have R:=bG (yH s _ i.out g y rfl);unfold wL at y;have D:=bI y;rw[fX] at D;have a0:=(I.out _ (by have:=eM (l:=cs) _ D;exact this)).1;generalize (bT cs (gD (bZ cs) s)).2.1=v at *
   generalize (bT cs (gD (bZ cs) s)).1=x at *
   have U:(0:Int) < x:=by omega
   obtain⟨nm,sl⟩:=v;clear y D z;go_enter Tryz.func21,Tryz.ntmps21;go_wp2_with fail
   (with_reducible refine C.out.mono ?_)
   rintro e M ⟨rfl,rfl⟩;go_wp2_with fail
   (with_reducible refine R.out.mono ?_)
   rintro e w1 ⟨rfl,f⟩;have a:=bG f;clear f;go_wp2_with fail
   go_ret;exact⟨by rw[o.out];rfl,by rw[o.out];exact S.out.out0 (a.out.alloc _)⟩
  | false =>
   have R:=bG (a3a s i.out g y);by_cases u:12≤cs.length
   ·have o:Hid (jN (bZ cs) s=(9,bZ cs)):=by unfold Hid jN;rw[z,y,fX];simp[u]
    have q:(12:Int)≤cs.length:=by omega
    clear y z;go_enter Tryz.func21,Tryz.ntmps21;go_wp2_with fail
    (with_reducible refine C.out.mono ?_)
    rintro e M ⟨rfl,rfl⟩;go_wp2_with fail
    (with_reducible refine R.out.mono ?_)
    rintro e w1 ⟨rfl,f⟩;have a:=bG (f.alloc (.cells #[.string ⟨#[]⟩,.slice none 0 0] 103));have y0:=(i.out.upd0 a.out).p0;clear f;go_wp2_with fail
    (with_reducible refine(wK _ ((i.out.upd0 a.out).files) J.out).mono ?_)
    rintro e M ⟨rfl,rfl⟩;go_wp2_with fail
    go_ret;exact⟨by rw[o.out];rfl,by rw[o.out];exact S.out.out0 a.out⟩
   ·have q:¬ (12:Int)≤cs.length:=by omega
    have o:Hid (jN (bZ cs) s=(0,dD fA (bZ cs) (oC (bZ cs)) (s,[]))):=by unfold Hid jN;rw[z,y,fX];simp[u]
    clear y z;go_enter Tryz.func21,Tryz.ntmps21;go_wp2_with fail
    (with_reducible refine C.out.mono ?_)
    rintro e M ⟨rfl,rfl⟩;go_wp2_with fail
    (with_reducible refine R.out.mono ?_)
    rintro e w1 ⟨rfl,f⟩;have a:=bG (f.alloc (.cells #[.string ⟨#[]⟩,.slice none 0 0] 103));have y0:=(i.out.upd0 a.out).p0;clear f;go_wp2_with fail
    (with_reducible refine(wK _ ((i.out.upd0 a.out).files) J.out).mono ?_)
    rintro e M ⟨rfl,rfl⟩;go_wp2_with fail
    clear y0;go_loopw [7] (fun x wr=>∃ k:Nat,x = .int .i64 ((k:Int)+1)∧Hid (∀ j:Nat,j < k→cB fA cs ((j:Int)+1)=true)∧Hid (bR [] w wr)) (fun x _=>cs.length+2-(intOf x).toNat)
    case atStart=>exact⟨0,rfl,fun j hj=>absurd hj (by omega),a⟩
    case round =>
     clear a;obtain⟨k,rfl,p,N⟩:=hrel;have a3:=a8e i.out.ris k p.out;have y1:=(i.out.upd0 N.out).p0;have HK:Hid (gR ((k:Int)+1)):=⟨by omega,by omega⟩
     have K:Hid ((eH cs).length≤100000):=by unfold Hid;rw[iS];omega
     cases b:cB fA cs ((k:Int)+1) with
     | true =>
      have HG:Hid (∃ v,fC dP zF (eH cs) ((k:Int)+1)=(v,true)):=by
       refine⟨(bT (eH cs) (below dP (eH cs) ((k:Int)+1))).2,?_⟩;unfold fC;have:cB dP (eH cs) ((k:Int)+1)=true:=(jU (·.1) cs ((k:Int)+1)).trans b;rw[this];rfl
      obtain⟨⟨nm,sl⟩,hv⟩:=HG.out;have V:=bG hv;have A:Hid (∀ j:Nat,j < k+1→cB fA cs ((j:Int)+1)=true):=fun j hj=>by
       rcases Nat.lt_or_eq_of_le (Nat.le_of_lt_succ hj) with h|h
       ·exact p.out j h
       ·rw[h];exact b
      have a1:=a8e i.out.ris (k+1) A.out;clear hv b;go_wp2_with fail
      (with_reducible refine(rQ ((k:Int)+1) (nm,sl) true ((i.out.upd0 N.out).files) K.out HK.out V.out).mono ?_)
      rintro e w2 ⟨rfl,t⟩;have m:=bG (N.out.seq t);clear t y1;go_wp2_with fail
      go_roundw
      case rel=>exact⟨k+1,by go_num,A,m.out.alloc _⟩
      case measure=>simp[intOf];omega
     | false =>
      have V:Hid (fC dP zF (eH cs) ((k:Int)+1)=(zF,false)):=by
       unfold Hid fC;have:cB dP (eH cs) ((k:Int)+1)=false:=(jU (·.1) cs ((k:Int)+1)).trans b;rw[this];rfl
      have L:=b7f i.out.ris k p.out b;have W:Hid (dD fA (bZ cs) (oC (bZ cs)) (s,[])=bZ (dD fA cs ((k:Int)+1) ((s,⟨none,0,0⟩),[]))):=by
       unfold Hid;rw[c4v,L];exact wN (fun v:(ByteArray×Sl)×List UInt8=>(v.1.1,v.2)) cs ((k:Int)+1) ((s,⟨none,0,0⟩),[])
      clear b L;go_wp2_with fail
      (with_reducible refine(rQ ((k:Int)+1) zF false ((i.out.upd0 N.out).files) K.out HK.out V.out).mono ?_)
      rintro e w2 ⟨rfl,t⟩;have m:=bG ((N.out.seq t).alloc (.cells #[.string ⟨#[]⟩,.slice none 0 0] 103));clear t y1;have y2:=(i.out.upd0 m.out).p0;go_wp2_with fail
      (with_reducible refine((i.out.upd0 m.out).set g ((k:Int)+1) HK.out s ⟨none,0,0⟩ [] (d6l _ _ _) (fun d _ _=>d6m _)).mono ?_)
      rintro e w3 ⟨⟨r,rfl⟩,F',O,P,Q⟩;have X:=bG O;have Y:=bG P;have Z:=bG Q;clear O P Q;go_wp2_with fail
      go_ret;refine⟨by rw[o.out];rfl,?_⟩;rw[o.out];have a4:=m.out.size;refine b7g.of X.out W.out.symm ?_ ?_ (m.out.trans Y.out (by simp) (fun x B => .inl (oR B))) (fun x B=>(Z.out x B).imp oR (fun q=>by omega)) (fun x B => .inl (a8k B)) ?_
      ·have:=a2q (lt:=fA) cs ((k:Int)+1) ((s,⟨none,0,0⟩),[]);omega
      ·intro c E;rcases nE cs _ _ c E with rfl|q
       ·exact⟨by simp;omega,by simp;omega,by simp⟩
       ·exact I.out c q
      ·intro c E x B;rcases nE cs _ _ c E with rfl|q
       ·exact absurd B (by simp[blk])
       ·exact .inl (qD q B)
end
section
variable {w0 w w2 : World} {gy gf gt : Nat} {F T : List Nat} {cs : CL} {tk : List (Int × Int)}
theorem YC.setG (h:YC w0 w gy gf gt F T cs tk) (hlen:cs.length≤1000) (c0:Int×(ByteArray×Sl)×List UInt8) (hc0:c0∈cs) (hu:bR (blk (gF c0.2.1.2)) w w2) (k:Int) (hk:gR k) (hck:c0.1=k) (nm:ByteArray) (sl:Sl) (p:List UInt8) (ho:fB bv w0.heap.size 5 w2 (gF sl) p) (hap:∀ x∈blk (gF sl),x∈blk (gF c0.2.1.2)∨w.heap.size≤x) :
  Calls Tryz.prog 40 #[.pointer (some ⟨gf,0,none⟩),iv k,fv (nm,sl)] w2 fun e w'=>(∃ r,e = .returned (.bool r))∧(∃ F',YC w0 w' gy gf gt F' T (dD fA cs k ((nm,sl),p)) tk∧bR F w2 w'∧(∀ x∈F',x∈F∨w2.heap.size≤x)):=by
 have z:∀ x∈blk (gF c0.2.1.2),w0.heap.size≤x:=fun x m=>((h.own c0 hc0).ge x m).1
 have b:=h.files.upd hu (a8d h.files (h.own c0 hc0)) z;have i:=h.taken.upd hu (d0o h.taken (h.own c0 hc0)) z;have t:=h.yard.upd hu (d0p h.yard (h.own c0 hc0));have j:∀ d∈cs,d.1≠k→fB bv w0.heap.size 5 w2 (gF d.2.1.2) d.2.2:=fun d hd a=>(h.own d hd).upd hu (h.ap d hd c0 hc0 (by rw[hck];exact a))
 have g:∀ d∈cs,d.1≠k→Ap (blk (gF sl)) (blk (gF d.2.1.2)):=fun d hd a x m o=>by
  rcases hap x m with q|q
  ·exact h.ap c0 hc0 d hd (by rw[hck];exact a.symm) x q o
  ·have:=((h.own d hd).ge x o).2;omega
 refine(b2h k (nm,sl) _ _ b (by rw[iS];omega) hk rfl rfl).mono ?_;rintro e w' ⟨rfl,F',A,f,v⟩;have l:dD dP (eH cs) k (nm,sl)=eH (dD fA cs k ((nm,sl),p)):=wN (·.1) cs k ((nm,sl),p);rw[l] at A;have u:gy∉F:=h.gy_F;refine⟨⟨_,rfl⟩,F',⟨t.upd f u,h.gyb,A,i.upd f (d0n b i).symm (fun x m=>(b.ge x m).1),?_,?_⟩,f,v⟩
 ·intro c y;rcases mT h.ris k _ c y with rfl|⟨q,s⟩
  ·exact ho.upd f (a8d b ho).symm
  ·exact(j c q s).upd f (a8d b (j c q s)).symm
 ·intro c y d hd a;rcases mT h.ris k _ c y with rfl|⟨q,s⟩<;>rcases mT h.ris k _ d hd with rfl|⟨r,B⟩
  ·exact absurd rfl a
  ·exact g d r B
  ·exact(g c q s).symm
  ·exact h.ap c q d r a
end
section
variable {w0 w : World} {gy : Nat} {G : List Nat} {fl : FL} {tk : List (Int × Int)}
theorem b2r (s:ByteArray) (vp:Value) (p:List UInt8) (hp:eQ w vp p) (hpl:p.length≤70368744177664) (h:YD w0 w gy G fl tk) :
  Calls Tryz.prog 22 #[.pointer (some ⟨gy,0,none⟩),sv s,vp] w (d0r w0 w gy G tk (kL fl s p)):=by
 obtain⟨gf,gt,F,T,cs,hc,rfl,b2,A,rfl⟩:=h.ex;have V:=bG hc;have d:cs.length≤1000:=by omega
 have b7:=bG A;have HD:=bG h;have HP:=bG hp;obtain⟨ap,cp,rfl,-,-,-⟩:=hp;cases I:wL (bZ cs) s with
 | false =>
  have R:Hid (kL (bZ cs) s p=(7,bZ cs)):=by unfold Hid kL;rw[I];rfl
  have HF:=bG (a3a s V.out d I);clear hc h A I;go_enter Tryz.func22,Tryz.ntmps22;go_wp2_with fail
  (with_reducible refine HF.out.mono ?_)
  rintro e B ⟨rfl,a⟩;have W:=bG (a.alloc (.cells #[.string ⟨#[]⟩,.slice none 0 0] 103));clear a;go_wp2_with fail
  go_ret;exact⟨by rw[R.out];rfl,by rw[R.out];exact HD.out.out0 W.out⟩
 | true =>
  have HF:=bG (yH s _ V.out d I rfl);have f:gD (bZ cs) s < cs.length:=by unfold wL at I;have:=bI I;rwa[fX] at this
  have J:=wM (bZ cs) s (by rw[fX];exact f);rw[gU cs _ f] at J;have b:bT cs (gD (bZ cs) s)∈cs:=eM _ f;have t:a8g (bZ cs) s=(bT cs (gD (bZ cs) s)).1:=by unfold a8g;rw[gU cs _ f]
  have K:qC (bZ cs) s=(bT cs (gD (bZ cs) s)).2.2:=by unfold qC;rw[gU cs _ f]
  generalize bT cs (gD (bZ cs) s)=c0 at *
  obtain⟨x,⟨m,sl⟩,bs⟩:=c0;have J:m=s:=J;subst J;have t:a8g (bZ cs) m=x:=t;have K:qC (bZ cs) m=bs:=K;have j:=A _ b;have b8:(1:Int)≤x:=j.1;have b9:x≤12:=j.2.1;have c8:bs.length≤65536:=j.2.2;have c9:IntKind.i64.wrap (65536-(bs.length:Int))=65536-(bs.length:Int):=by rw[aQ];omega
  have HX:Hid (gR x):=⟨by omega,by omega⟩
  have d0:(x==0)=false:=by rw[bJ];omega
  have g:=bG b;have ho:=hc.own _ b;have HO:Hid (fB bv w0.heap.size 5 w (gF sl) bs):=ho;have X:sl.n=bs.length:=by
   rcases ho.2 with⟨he,h0⟩|⟨g',c7,d4,he,-⟩
   ·injection he with e1 e2 e3;rw[e2];exact h0.symm
   ·injection he with e1 e2 e3
  obtain⟨O,sn,Q⟩:=sl;have X:sn=bs.length:=X;subst X;by_cases C:65536 < bs.length+p.length
  ·have R:Hid (kL (bZ cs) m p=(9,bZ cs)):=by unfold Hid kL;rw[I,K];simp[C]
   clear hc h A I f b ho j;go_enter Tryz.func22,Tryz.ntmps22;go_wp2_with fail
   (with_reducible refine HF.out.mono ?_)
   rintro e B ⟨rfl,a⟩;have W:=bG (a.alloc (.cells #[sv m,.slice O bs.length Q] 103));clear a;go_wp2_with fail
   go_ret;exact⟨by rw[R.out];rfl,by rw[R.out];exact HD.out.out0 W.out⟩
  ·have R:Hid (kL (bZ cs) m p=(0,dD fA (bZ cs) x (m,bs++p))):=by unfold Hid kL;rw[I,K,t];simp[C]
   have q:¬ 65536-(bs.length:Int) < p.length:=by omega
   clear hc h A I f b ho j;go_enter Tryz.func22,Tryz.ntmps22;go_wp2_with fail
   (with_reducible refine HF.out.mono ?_)
   rintro e B ⟨rfl,a⟩;have l:=bG (a.alloc (.cells #[sv m,.slice O bs.length Q] 103));have S:=bG (fun ty=>lJ (P:=Tryz.prog) (ty:=ty) gE Tryz.underlying33 eV rfl (.slice O bs.length Q) (.slice ap p.length cp) bs p (HO.out.upd l.out (by simp)) (HP.out.upd0 l.out) (by omega) (by unfold maxLen;omega) (by have:=l.out.size;have:=V.out.old.size;omega));have a5:=bG (cU.new B 103 [sv m,.slice O bs.length Q]);have c1:=a.size;have a6:Hid (B.heap.size∉blk (.slice O bs.length Q)):=fun j=>by have:=(HO.out.ge _ j).2;omega
   clear a;go_wp2_with (at_builtin;go_must (refine cQ rfl _ _ rfl (.slice O bs.length Q) (.slice ap p.length cp) rfl rfl (S.out _) ?_;rintro v2 w2 ⟨a1,a3,b3⟩;have a7:=bG a1;have a8:=bG a3;have Y:=bG b3;have L:=a5.out.upd a3 a6.out;have d1:=L.cell 1;have f1:=L.frozen 1;have a9:=bG L;obtain⟨D,E,rfl,-⟩:=a1.rd;clear a1 a3 b3 L))
   have M:bR (blk (.slice O bs.length Q)) w (w2.setCell ⟨B.heap.size,1,none⟩ (.slice D (bs++p).length E)):=(l.out.trans (T:=blk (.slice O bs.length Q)) a8.out (by simp) (fun x j => .inl j)).setCell _ _ (.inr c1);have b0:B.heap.size∉blk (.slice D (bs++p).length E):=fun j=>by
    rcases Y.out _ j with q|q
    ·exact a6.out q
    ·simp at q;omega
   have Z:fB bv w0.heap.size 5 (w2.setCell ⟨B.heap.size,1,none⟩ (.slice D (bs++p).length E)) (.slice D (bs++p).length E) (bs++p):=a7.out.upd ((bR.refl [B.heap.size] w2).setCell _ _ (.inl (by simp))) (fun x j h=>b0 (by simp at h;rw[← h];exact j));have N:cU (w2.setCell ⟨B.heap.size,1,none⟩ (.slice D (bs++p).length E)) B.heap.size 103 [sv m,.slice D (bs++p).length E]:=a9.out.set_ 1 _;have u:∀ y∈blk (.slice D (bs++p).length E),y∈blk (.slice O bs.length Q)∨w.heap.size≤y:=fun y o=>(Y.out y o).imp id (fun q=>by have:=l.out.size;omega)
   have z:(bs++p).length=bs.length+p.length:=aE;rw[z] at M Z N u;clear d1 f1 a9 a7 a8 Y S l a5 b0 z;generalize w2.setCell ⟨B.heap.size,1,none⟩ (.slice D (bs.length+p.length) E)=w3 at *
   have e0:=N.cell 0;have e1:=N.cell 1;simp only[List.getElem?_cons_zero,List.getElem?_cons_succ] at e0 e1;have y0:=M.cell V.out.p0 (d0p V.out.yard HO.out);have a0:=bG M;have c3:=bG Z;have U:=bG u;clear M Z N u;go_still_tail 6,(by kernel_rfl)
   change wpList _ _ _ _ _ w3.drew;go_wp2_with fail
   (with_reducible refine(V.out.setG d _ g.out a0.out.drew x HX.out rfl m ⟨D,bs.length+p.length,E⟩ (bs++p) (c3.out.upd (bR.refl [] _).drew (by simp)) U.out).mono ?_)
   rintro e w4 ⟨⟨r,rfl⟩,F',b4,b5,b6⟩;have c4:=bG b4;have c5:=bG b5;have c6:=bG b6;clear b4 b5 b6;go_wp2_with fail
   go_ret;refine⟨by rw[R.out];rfl,?_⟩;rw[R.out];have d3:=a0.out.size;refine b7g.of c4.out (wN (fun v:(ByteArray×Sl)×List UInt8=>(v.1.1,v.2)) cs x ((m,⟨D,bs.length+p.length,E⟩),bs++p)).symm ?_ ?_ (a0.out.drew.trans c5.out (fun y o=>qD g.out o) (fun y o => .inl (oR o))) (fun y o=>(c6.out y o).imp oR (fun q=>by simp at q;omega)) (fun y o => .inl (a8k o)) ?_
   ·have b1:cB fA cs x=true:=by
     obtain⟨i,hi,he⟩:=List.mem_iff_getElem.1 g.out;have:=c1b jH V.out.ris i hi;rwa[cO cs i hi,he] at this
    rw[sQ cs x _ b1,List.length_set];exact b2
   ·intro c a4;rcases nE cs _ _ c a4 with rfl|q
    ·exact⟨b8,b9,by simp;omega⟩
    ·exact b7.out c q
   ·intro c a4 y o;rcases nE cs _ _ c a4 with rfl|q
    ·exact(U.out y o).imp (fun q=>qD g.out q) id
    ·exact .inl (qD q o)
end
section
variable {w0 w : World} {gy : Nat} {G : List Nat} {fl : FL} {tk : List (Int × Int)}
theorem b2s (s:ByteArray) (h:YD w0 w gy G fl tk) :
  Calls Tryz.prog 25 #[.pointer (some ⟨gy,0,none⟩),sv s] w (d0r w0 w gy G tk (fM fl s)):=by
 obtain⟨gf,gt,F,T,cs,J,rfl,R,l,rfl⟩:=h.ex;have E:=bG J;have a:cs.length≤1000:=by omega
 have K:=bG l;have V:=bG h;cases m:wL (bZ cs) s with
 | false =>
  have u:Hid (fM (bZ cs) s=(7,bZ cs)):=by unfold Hid fM;rw[m];rfl
  have L:=bG (a3a s E.out a m);clear J h l m;go_enter Tryz.func25,Tryz.ntmps25;go_wp2_with fail
  (with_reducible refine L.out.mono ?_)
  rintro e w1 ⟨rfl,i⟩;have d:=bG (i.alloc (.cells #[.string ⟨#[]⟩,.slice none 0 0] 103));clear i;go_wp2_with fail
  go_ret;exact⟨by rw[u.out];rfl,by rw[u.out];exact V.out.out0 d.out⟩
 | true =>
  have L:=bG (yH s _ E.out a m rfl);have f:gD (bZ cs) s < cs.length:=by unfold wL at m;have:=bI m;rwa[fX] at this
  have j:=wM (bZ cs) s (by rw[fX];exact f);rw[gU cs _ f] at j;have b:bT cs (gD (bZ cs) s)∈cs:=eM _ f;have g:a8g (bZ cs) s=(bT cs (gD (bZ cs) s)).1:=by unfold a8g;rw[gU cs _ f]
  have z:qC (bZ cs) s=(bT cs (gD (bZ cs) s)).2.2:=by unfold qC;rw[gU cs _ f]
  generalize bT cs (gD (bZ cs) s)=c0 at *
  obtain⟨x,⟨A,sl⟩,bs⟩:=c0;have j:A=s:=j;subst j;have g:a8g (bZ cs) A=x:=g;have z:qC (bZ cs) A=bs:=z;have I:=l _ b;have W:(1:Int)≤x:=I.1;have X:x≤12:=I.2.1;have Y:bs.length≤65536:=I.2.2;have Z:Hid (gR x):=⟨by omega,by omega⟩
  have a0:(x==0)=false:=by rw[bJ];omega
  have Q:=bG b;have M:=J.own _ b;have HO:Hid (fB bv w0.heap.size 5 w (gF sl) bs):=M;have o:sl.n=bs.length:=by
   rcases M.2 with⟨he,h0⟩|⟨g',S,a2,he,-⟩
   ·injection he with e1 U e3;rw[U];exact h0.symm
   ·injection he with e1 U e3
  obtain⟨sa,sn,sk⟩:=sl;have o:sn=bs.length:=o;subst o;have u:Hid (fM (bZ cs) A=(0,fS fA (bZ cs) x)):=by unfold Hid fM;rw[m,g];simp
  clear J h l m f b M I;go_enter Tryz.func25,Tryz.ntmps25;go_wp2_with fail
  (with_reducible refine L.out.mono ?_)
  rintro e w1 ⟨rfl,i⟩;have d:=bG (i.alloc (.cells #[sv A,.slice sa bs.length sk] 103));have y0:=(E.out.upd0 d.out).p0;clear i;go_wp2_with fail
  (with_reducible refine((E.out.upd0 d.out).del a x Z.out).mono ?_)
  rintro e w4 ⟨⟨r,rfl⟩,F',B,C,D⟩;have N:=bG B;have O:=bG C;have P:=bG D;clear B C D;go_wp2_with fail
  go_ret;refine⟨by rw[u.out];rfl,?_⟩;rw[u.out];have a1:=d.out.size;refine b7g.of N.out (b2o (fun v:(ByteArray×Sl)×List UInt8=>(v.1.1,v.2)) cs x).symm ?_ ?_ (d.out.trans O.out (by simp) (fun y t => .inl (oR t))) (fun y t=>(P.out y t).imp oR (fun q=>by omega)) (fun y t => .inl (a8k t)) ?_
  ·have:=b1v (lt:=fA) cs x;omega
  ·intro c p;exact K.out c (iG cs x c p)
  ·intro c p y t;exact .inl (qD (iG cs x c p) t)
end
def rU (fl:FL) (tk:List (Int×Int)) (ino a n:Int):(List UInt8×Int)×List (Int×Int) :=
 if cB fA fl ino then
  (if a < 0∨n < 0 then (([],1),tk)
   else ((((bT fl (below fA fl ino)).2.2.drop a.toNat).take n.toNat,0),dD fA tk ino ((fC fA 0 tk ino).1+((((bT fl (below fA fl ino)).2.2.drop a.toNat).take n.toNat).length:Int))))
 else (([],7),tk)
structure YR (w0 w W:World) (gy gf gt:Nat) (F T:List Nat) (cs:CL) (tk:List (Int×Int)):Prop where
 ex:∃ T',YC w0 W gy gf gt F T' cs tk∧(∀ y∈T',y∈pG gy F T cs∨w.heap.size≤y)
 up:bR (pG gy F T cs) w W
section
variable {w0 w W W' : World} {gy gf gt : Nat} {F T : List Nat} {cs : CL} {tk : List (Int × Int)}
theorem YR.upd0 (h:YR w0 w W gy gf gt F T cs tk) (hu:bR [] W W'):YR w0 w W' gy gf gt F T cs tk:=by
 obtain⟨a,b,c⟩:=h.ex;exact⟨⟨a,b.upd0 hu,c⟩,h.up.trans hu (fun _ d=>d) (by simp)⟩
theorem YR.p1 (h:YR w0 w W gy gf gt F T cs tk):W.cell? ⟨gy,1,none⟩=some (.pointer (some ⟨gt,0,none⟩)):=by
 obtain⟨b,a,c⟩:=h.ex;exact a.p1
theorem YR.first (h:YC w0 w gy gf gt F T cs tk):YR w0 w w gy gf gt F T cs tk:=⟨⟨T,h,fun y a => .inl (a8k a)⟩,bR.refl _ _⟩
theorem b7h (k v:Int) (r:Bool) (h:YC w0 w gy gf gt F T cs tk) (hlen:tk.length≤100000) (hk:gR k) (hv:fC fO (0:Int) tk k=(v,r)) :
  Calls Tryz.prog 164 #[.pointer (some ⟨gy,0,none⟩),iv k] w fun e w'=>e = .returned (iv v)∧bR [] w w':=by
 have b:=bG h;have d:=h.p1;have HK:=bG hk;have c:=bG hv;clear h hk hv;go_enter Tryz.func164,Tryz.ntmps164;go_wp2_with fail
 (with_reducible refine(d0k k v r b.out.taken hlen HK.out c.out).mono ?_)
 rintro e f ⟨rfl,a⟩;go_wp2_with fail
 go_ret;exact⟨rfl,a⟩
theorem a0y (k v:Int) (r:Bool) (h:YR w0 w W gy gf gt F T cs tk) (hlen:tk.length≤100000) (hk:gR k) (hv:fC fO (0:Int) tk k=(v,r)) :
  Calls Tryz.prog 164 #[.pointer (some ⟨gy,0,none⟩),iv k] W fun e w'=>e = .returned (iv v)∧YR w0 w w' gy gf gt F T cs tk:=by
 obtain⟨c,a,d⟩:=h.ex;refine(b7h k v r a hlen hk hv).mono ?_;rintro e w' ⟨he,b⟩;exact⟨he,h.upd0 b⟩
theorem c1g (k y:Int) (tk':List (Int×Int)) (h:YR w0 w W gy gf gt F T cs tk) (hlen:tk.length≤100000) (hk:gR k) (hv:dD fO tk k y=tk') :
  Calls Tryz.prog 163 #[.pointer (some ⟨gt,0,none⟩),iv k,iv y] W fun e w'=>(∃ r,e = .returned (.bool r))∧YR w0 w w' gy gf gt F T cs tk':=by
 obtain⟨l,c,d⟩:=h.ex;refine(d0j k y _ tk' c.taken hlen hk rfl hv).mono ?_;rintro e w' ⟨rfl,g,i,f,a⟩;refine⟨⟨_,rfl⟩,⟨g,c.setTaken i f,fun y b=>?_⟩,h.up.trans f (fun _ j=>j) (fun y b=>d y b)⟩;rcases a y b with q|q
 ·exact d y q
 ·exact .inr (by have:=h.up.size;omega)
end
section
variable {w0 w : World} {gy : Nat} {G : List Nat} {fl : FL} {tk : List (Int × Int)}
theorem c4w (ino a n:Int) (hi:gR ino) (ha:gR a) (hn:gR n) (h:YD w0 w gy G fl tk) (htl:tk.length≤50000) (htk:∀ p∈tk,0≤p.2∧p.2≤1000000000000) :
  Calls Tryz.prog 107 #[.pointer (some ⟨gy,0,none⟩),iv ino,.int .i64 a,.int .i64 n] w fun e w'=>∃ v,e = .returned (.tuple #[v,.int .i64 (rU fl tk ino a n).1.2])∧fB bv w.heap.size 5 w' v (rU fl tk ino a n).1.1∧∃ G',YD w0 w' gy G' fl (rU fl tk ino a n).2∧bR G w w'∧(∀ x∈G',x∈G∨w.heap.size≤x)∧Ap (blk v) G':=by
 obtain⟨gf,gt,F,T,cs,hc,rfl,X,a3,rfl⟩:=h.ex;have HC:=bG hc;have a6:=bG a3;have HD:=bG h;have b1:Hid ((eH cs).length≤100000):=by unfold Hid;rw[iS];omega
 have HI:=bG hi;have y0:=hc.p0;cases Z:cB fA cs ino with
 | false =>
  have HY:Hid (rU (bZ cs) tk ino a n=(([],7),tk)):=by unfold Hid rU;rw[jU,Z];rfl
  have HV:Hid (fC dP zF (eH cs) ino=(zF,false)):=by
   unfold Hid fC;have:cB dP (eH cs) ino=false:=(jU (·.1) cs ino).trans Z;rw[this];rfl
  clear hc h a3 Z hi ha hn htk;go_enter Tryz.func107,Tryz.ntmps107;go_wp2_with fail
  (with_reducible refine(rQ ino zF false HC.out.files b1.out HI.out HV.out).mono ?_)
  rintro e w1 ⟨rfl,E⟩;have u:=bG (E.alloc (.cells #[.string ⟨#[]⟩,.slice none 0 0] 103));clear E;go_wp2_with fail
  go_ret2
  refine⟨.slice none 0 0,by rw[HY.out];rfl,by rw[HY.out];exact bK _ _ _ _,?_⟩;rw[HY.out];obtain⟨G',t,h2,h3⟩:=HD.out.out0 u.out;exact⟨G',t,h2,h3,Ap.nil⟩
 | true =>
  obtain⟨c0,a4,b3,b0⟩:∃ c0,c0∈cs∧c0.1=ino∧bT cs (below fA cs ino)=c0:=by
   unfold cB at Z;obtain⟨t,h2⟩:=bI Z;exact⟨_,eM _ t,h2,rfl⟩
  have HV:Hid (fC dP zF (eH cs) ino=(c0.2.1,true)):=by
   unfold Hid fC;have t:cB dP (eH cs) ino=true:=(jU (·.1) cs ino).trans Z;have h2:below dP (eH cs) ino=below fA cs ino:=a2z (·.1) cs ino;rw[t,h2,if_pos rfl,b2k cs _ (by unfold cB at Z;exact(bI Z).1),b0]
  have b2:Hid ((bT (bZ cs) (below fA (bZ cs) ino)).2.2=c0.2.2):=by
   unfold Hid;rw[a2z,gU cs _ (by unfold cB at Z;exact(bI Z).1),b0]
  have hb:=(a3 _ a4).2.2;have ho:=hc.own _ a4;have a7:=bG a4;obtain⟨x,⟨nm,sl⟩,bs⟩:=c0;have b3:x=ino:=b3;subst b3;have HO:Hid (fB bv w0.heap.size 5 w (gF sl) bs):=ho;have b4:sl.n=bs.length:=by
   rcases ho.2 with⟨he,h0⟩|⟨g',c3,d0,he,-⟩
   ·injection he with e1 e2 e3;rw[e2];exact h0.symm
   ·injection he with e1 e2 e3
  obtain⟨Y,sn,g⟩:=sl;have b4:sn=bs.length:=b4;subst b4;have c4:bs.length≤65536:=hb;have b2:Hid ((bT (bZ cs) (below fA (bZ cs) x)).2.2=bs):=b2;have HV:Hid (fC dP zF (eH cs) x=((nm,(⟨Y,bs.length,g⟩:Sl)),true)):=HV;by_cases a0:a < 0∨n < 0
  ·have HY:Hid (rU (bZ cs) tk x a n=(([],1),tk)):=by unfold Hid rU;rw[jU,Z,if_pos rfl,if_pos a0]
   have hd:a < 0∨(¬ a < 0∧n < 0):=by omega
   clear hc h a3 Z hi ha hn htk ho hb a4 b0 a0;rcases hd with hd|⟨hd,d1⟩
   all_goals
    go_enter Tryz.func107,Tryz.ntmps107;go_wp2_with fail
    (with_reducible refine(rQ x _ true HC.out.files b1.out HI.out HV.out).mono ?_)
    rintro e w1 ⟨rfl,E⟩;have u:=bG (E.alloc (.cells #[sv nm,.slice Y bs.length g] 103));clear E;go_wp2_with fail
    go_ret2
    refine⟨.slice none 0 0,by rw[HY.out];rfl,by rw[HY.out];exact bK _ _ _ _,?_⟩;rw[HY.out];obtain⟨G',t,h2,h3⟩:=HD.out.out0 u.out;exact⟨G',t,h2,h3,Ap.nil⟩
  ·obtain⟨A,rfl⟩:=Int.eq_ofNat_of_zero_le (show 0≤a by omega);obtain⟨N,rfl⟩:=Int.eq_ofNat_of_zero_le (show 0≤n by omega);have c5:bs.length≤g:=by
    obtain⟨a',c',he,t,-⟩:=HO.out.rd;injection he with e1 e2 e3;have e3:g=c':=e3;omega
   have c2:g≤9223372036854775807:=by
    obtain⟨a',c',he,-,t,-⟩:=HO.out.rd;injection he with e1 e2 e3;have e3:g=c':=e3;unfold maxLen at t;omega
   obtain⟨K,hK⟩:∃ K,(K=A∧A≤bs.length)∨(K=bs.length∧bs.length < A):=by
    by_cases q:A≤bs.length
    ·exact⟨A,.inl ⟨rfl,q⟩⟩
    ·exact⟨bs.length,.inr ⟨rfl,by omega⟩⟩
   have b7:K≤bs.length:=by omega
   obtain⟨M,hM⟩:∃ M,(M=N∧N≤bs.length-K)∨(M=bs.length-K∧bs.length-K < N):=by
    by_cases q:N≤bs.length-K
    ·exact⟨N,.inl ⟨rfl,q⟩⟩
    ·exact⟨bs.length-K,.inr ⟨rfl,by omega⟩⟩
   have c6:M≤bs.length-K:=by omega
   have hr:(bs.drop A).take N=(bs.drop K).take M:=by
    rcases hK with⟨rfl,-⟩|⟨rfl,t⟩
    ·rcases hM with⟨rfl,-⟩|⟨rfl,h2⟩
     ·rfl
     ·rw[aZ (by rw[aH];omega),aZ (by rw[aH];omega)]
    ·rw[List.drop_eq_nil_of_le (by omega),List.drop_length];simp
   have b5:((bs.drop K).take M).length=M:=by rw[aJ,aH];omega
   obtain⟨v,r0,hv⟩:∃ v r0,fC fO (0:Int) tk x=(v,r0):=⟨_,_,rfl⟩
   have b8:0≤v∧v≤1000000000000:=by
    unfold fC at hv;split at hv
    ·rename_i hq;injection hv with t h2;rw[← t];unfold cB at hq;exact htk _ (eM _ (bI hq).1)
    ·injection hv with t h2;rw[← t];omega
   obtain⟨c7,c8⟩:=b8;obtain⟨R,a5⟩:∃ R,dD fO tk x (v+(M:Int))=R:=⟨_,rfl⟩
   have HY:Hid (rU (bZ cs) tk x (A:Int) (N:Int)=(((bs.drop K).take M,0),R)):=by
    unfold Hid rU;rw[jU,Z,if_pos rfl,if_neg a0,b2.out];simp only[Int.toNat_natCast];rw[hr,b5];have e1:(fC fA 0 tk x).1=v:=by rw[show fC fA 0 tk x=(v,r0) from hv]
    rw[e1];exact congrArg (fun z=>(((bs.drop K).take M,(0:Int)),z)) a5
   have a8:=bG hv;have a2:=bG a5;have B:Hid (tk.length≤100000):=by unfold Hid;omega
   have b9:IntKind.i64.wrap (v+(M:Int))=v+(M:Int):=by rw[aQ];omega
   have a1:=bG (show ∀ W,fB bv w0.heap.size 5 W (.slice Y bs.length g) bs→eQ W (.slice (if g=K then Y else Y.map (·.add K)) M (g-K)) ((bs.drop K).take M) from fun W hW=>(hW.rd.drop K b7).take M (by rw[aH];omega));have C:=bG b5;obtain⟨D,hD,c1⟩:∃ D:Option Addr,D=(if g=K then Y else Y.map (·.add K))∧∀ W,(Instr.slice 33 (.slice Y bs.length g) (some (.int .i64 (K:Int))) none none).run Tryz.prog W = .ok (.slice D (bs.length-K) (g-K)) W :=
    ⟨_,rfl,fun W=>by have h:=a0w (P:=Tryz.prog) (size:=1) Tryz.underlying33 (by kernel_rfl) Y bs.length g K b7 W;simpa using h⟩
   have b6:∀ W,(Instr.slice 33 (.slice D (bs.length-K) (g-K)) none (some (.int .i64 (M:Int))) none).run Tryz.prog W = .ok (.slice D M (g-K)) W:=fun W=>sP (P:=Tryz.prog) (size:=1) Tryz.underlying33 (by kernel_rfl) D (bs.length-K) (g-K) M (by omega) W
   rw[← hD] at a1;generalize (bs.drop K).take M=r at *
   have q1:¬ (A:Int) < 0:=by omega
   have q2:¬ (N:Int) < 0:=by omega
   have q3:(0:Int)≤A:=by omega
   have q4:(0:Int)≤N:=by omega
   clear hc h a3 ho hb a4 b0 a0 hr hD hv a5 htk b5 hi Z;rcases hK with⟨rfl,hK⟩|⟨rfl,hK⟩<;>rcases hM with⟨rfl,hM⟩|⟨rfl,hM⟩
   all_goals
    go_enter Tryz.func107,Tryz.ntmps107;go_wp2_with fail
    (with_reducible refine(rQ x _ true HC.out.files b1.out HI.out HV.out).mono ?_)
    rintro e w1 ⟨rfl,E⟩;have u:=bG (E.alloc (.cells #[sv nm,.slice Y bs.length g] 103));clear E
   ·have b:=(YR.first HC.out).upd0 u.out;go_wp2_with fail
    generalize w1.alloc (.cells #[sv nm,.slice Y bs.length g] 103)=wB at *
    have y1:=b.p1
    go_region_held3 (fun w'=>w'.cell? ⟨gy,1,none⟩=some (.pointer (some ⟨gt,0,none⟩))) (first|go_keep|exact b.p1)
     (first
      | (go_at_call 164;(with_reducible refine(a0y x v r0 (YR.upd0 b ?_) B.out HI.out a8.out).mono ?_);(repeat (first|exact bR.refl _ _|apply bR.drew|apply bR.drewN|apply bR.alloc));(rintro _ W ⟨rfl,b⟩;dsimp only))
      | (go_at_call 163;(with_reducible refine(c1g x (v+((M:Nat):Int)) R (YR.upd0 b ?_) B.out HI.out a2.out).mono ?_);(repeat (first|exact bR.refl _ _|apply bR.drew|apply bR.drewN|apply bR.alloc));(rintro _ W ⟨⟨r5,rfl⟩,b⟩;dsimp only)))
    all_goals
     have RA:=bG b;obtain⟨T',d,m⟩:=b.ex;have i:=bG d;have I:=bG m;have J:=bG (a1.out _ (d.own _ a7.out));have L:=C.out;have j:=bG (fun ty=>lJ (P:=Tryz.prog) (ty:=ty) (base:=W.heap.size) gE Tryz.underlying33 eV rfl (.slice none 0 0) _ [] r (bK _ _ _ _) J.out (by simp;omega) (by unfold maxLen;simp;omega) (aF _));clear b d m L;go_wp2_with (at_builtin;go_must (refine cQ rfl _ _ rfl (.slice none 0 0) (.slice D (M) (g-K)) rfl rfl (j.out _) ?_;rintro v9 w9 ⟨f,o,s⟩;have O:=bG f;have l:=bG (show bR [] W w9 from o);have Q:=bG s;obtain⟨a9,c9,rfl,-⟩:=f.rd;clear f o s))
     go_ret2
     rw[HY.out];refine⟨_,rfl,by simpa using O.out.base_le RA.out.up.size,pG gy F T' cs,⟨gf,gt,F,T',cs,i.out.upd0 l.out,rfl,X,a6.out,rfl⟩,RA.out.up.trans l.out (fun _ hx=>hx) (by simp),fun y U=>?_,fun y U V=>?_⟩
     ·rcases (eW _ _ _ _ _).1 U with rfl|q|q|⟨c,S,q⟩
      ·exact .inl ((eW _ _ _ _ _).2 (.inl rfl))
      ·exact .inl (oR q)
      ·exact I.out y q
      ·exact .inl (qD S q)
     ·have t:=(i.out.ge y V).2;rcases Q.out y U with q|q
      ·simp[blk] at q
      ·omega
   ·have b:=(YR.first HC.out).upd0 u.out;go_wp2_with fail
    generalize w1.alloc (.cells #[sv nm,.slice Y bs.length g] 103)=wB at *
    have y1:=b.p1
    go_region_held3 (fun w'=>w'.cell? ⟨gy,1,none⟩=some (.pointer (some ⟨gt,0,none⟩))) (first|go_keep|exact b.p1)
     (first
      | (go_at_call 164;(with_reducible refine(a0y x v r0 (YR.upd0 b ?_) B.out HI.out a8.out).mono ?_);(repeat (first|exact bR.refl _ _|apply bR.drew|apply bR.drewN|apply bR.alloc));(rintro _ W ⟨rfl,b⟩;dsimp only))
      | (go_at_call 163;(with_reducible refine(c1g x (v+(((bs.length-K:Nat):Int):Int)) R (YR.upd0 b ?_) B.out HI.out a2.out).mono ?_);(repeat (first|exact bR.refl _ _|apply bR.drew|apply bR.drewN|apply bR.alloc));(rintro _ W ⟨⟨r5,rfl⟩,b⟩;dsimp only)))
    all_goals
     have RA:=bG b;obtain⟨T',d,m⟩:=b.ex;have i:=bG d;have I:=bG m;have J:=bG (a1.out _ (d.own _ a7.out));have L:=C.out;have j:=bG (fun ty=>lJ (P:=Tryz.prog) (ty:=ty) (base:=W.heap.size) gE Tryz.underlying33 eV rfl (.slice none 0 0) _ [] r (bK _ _ _ _) J.out (by simp;omega) (by unfold maxLen;simp;omega) (aF _));clear b d m L;go_wp2_with (at_builtin;go_must (refine cQ rfl _ _ rfl (.slice none 0 0) (.slice D (bs.length-K) (g-K)) rfl rfl (j.out _) ?_;rintro v9 w9 ⟨f,o,s⟩;have O:=bG f;have l:=bG (show bR [] W w9 from o);have Q:=bG s;obtain⟨a9,c9,rfl,-⟩:=f.rd;clear f o s))
     go_ret2
     rw[HY.out];refine⟨_,rfl,by simpa using O.out.base_le RA.out.up.size,pG gy F T' cs,⟨gf,gt,F,T',cs,i.out.upd0 l.out,rfl,X,a6.out,rfl⟩,RA.out.up.trans l.out (fun _ hx=>hx) (by simp),fun y U=>?_,fun y U V=>?_⟩
     ·rcases (eW _ _ _ _ _).1 U with rfl|q|q|⟨c,S,q⟩
      ·exact .inl ((eW _ _ _ _ _).2 (.inl rfl))
      ·exact .inl (oR q)
      ·exact I.out y q
      ·exact .inl (qD S q)
     ·have t:=(i.out.ge y V).2;rcases Q.out y U with q|q
      ·simp[blk] at q
      ·omega
   ·have b:=(YR.first HC.out).upd0 u.out;go_wp2_with fail
    generalize w1.alloc (.cells #[sv nm,.slice Y bs.length g] 103)=wB at *
    have y1:=b.p1
    go_region_held3 (fun w'=>w'.cell? ⟨gy,1,none⟩=some (.pointer (some ⟨gt,0,none⟩))) (first|go_keep|exact b.p1)
     (first
      | (go_at_call 164;(with_reducible refine(a0y x v r0 (YR.upd0 b ?_) B.out HI.out a8.out).mono ?_);(repeat (first|exact bR.refl _ _|apply bR.drew|apply bR.drewN|apply bR.alloc));(rintro _ W ⟨rfl,b⟩;dsimp only))
      | (go_at_call 163;(with_reducible refine(c1g x (v+((M:Nat):Int)) R (YR.upd0 b ?_) B.out HI.out a2.out).mono ?_);(repeat (first|exact bR.refl _ _|apply bR.drew|apply bR.drewN|apply bR.alloc));(rintro _ W ⟨⟨r5,rfl⟩,b⟩;dsimp only)))
    all_goals
     have RA:=bG b;obtain⟨T',d,m⟩:=b.ex;have i:=bG d;have I:=bG m;have J:=bG (a1.out _ (d.own _ a7.out));have L:=C.out;have j:=bG (fun ty=>lJ (P:=Tryz.prog) (ty:=ty) (base:=W.heap.size) gE Tryz.underlying33 eV rfl (.slice none 0 0) _ [] r (bK _ _ _ _) J.out (by simp;omega) (by unfold maxLen;simp;omega) (aF _));clear b d m L;go_wp2_with (at_builtin;go_must (refine cQ rfl _ _ rfl (.slice none 0 0) (.slice D (M) (g-bs.length)) rfl rfl (j.out _) ?_;rintro v9 w9 ⟨f,o,s⟩;have O:=bG f;have l:=bG (show bR [] W w9 from o);have Q:=bG s;obtain⟨a9,c9,rfl,-⟩:=f.rd;clear f o s))
     go_ret2
     rw[HY.out];refine⟨_,rfl,by simpa using O.out.base_le RA.out.up.size,pG gy F T' cs,⟨gf,gt,F,T',cs,i.out.upd0 l.out,rfl,X,a6.out,rfl⟩,RA.out.up.trans l.out (fun _ hx=>hx) (by simp),fun y U=>?_,fun y U V=>?_⟩
     ·rcases (eW _ _ _ _ _).1 U with rfl|q|q|⟨c,S,q⟩
      ·exact .inl ((eW _ _ _ _ _).2 (.inl rfl))
      ·exact .inl (oR q)
      ·exact I.out y q
      ·exact .inl (qD S q)
     ·have t:=(i.out.ge y V).2;rcases Q.out y U with q|q
      ·simp[blk] at q
      ·omega
   ·simp only[Nat.sub_self,Int.natCast_zero,Int.ofNat_zero,Int.add_zero] at a2 a1 b6 C b9;have b:=(YR.first HC.out).upd0 u.out;go_wp2_with fail
    generalize w1.alloc (.cells #[sv nm,.slice Y bs.length g] 103)=wB at *
    have y1:=b.p1
    go_region_held3 (fun w'=>w'.cell? ⟨gy,1,none⟩=some (.pointer (some ⟨gt,0,none⟩))) (first|go_keep|exact b.p1)
     (first
      | (go_at_call 164;(with_reducible refine(a0y x v r0 (YR.upd0 b ?_) B.out HI.out a8.out).mono ?_);(repeat (first|exact bR.refl _ _|apply bR.drew|apply bR.drewN|apply bR.alloc));(rintro _ W ⟨rfl,b⟩;dsimp only))
      | (go_at_call 163;(with_reducible refine(c1g x v R (YR.upd0 b ?_) B.out HI.out a2.out).mono ?_);(repeat (first|exact bR.refl _ _|apply bR.drew|apply bR.drewN|apply bR.alloc));(rintro _ W ⟨⟨r5,rfl⟩,b⟩;dsimp only)))
    all_goals
     have RA:=bG b;obtain⟨T',d,m⟩:=b.ex;have i:=bG d;have I:=bG m;have J:=bG (a1.out _ (d.own _ a7.out));have L:=C.out;have j:=bG (fun ty=>lJ (P:=Tryz.prog) (ty:=ty) (base:=W.heap.size) gE Tryz.underlying33 eV rfl (.slice none 0 0) _ [] r (bK _ _ _ _) J.out (by simp;omega) (by unfold maxLen;simp;omega) (aF _));clear b d m L;go_wp2_with (at_builtin;go_must (refine cQ rfl _ _ rfl (.slice none 0 0) (.slice D 0 (g-bs.length)) rfl rfl (j.out _) ?_;rintro v9 w9 ⟨f,o,s⟩;have O:=bG f;have l:=bG (show bR [] W w9 from o);have Q:=bG s;obtain⟨a9,c9,rfl,-⟩:=f.rd;clear f o s))
     go_ret2
     rw[HY.out];refine⟨_,rfl,by simpa using O.out.base_le RA.out.up.size,pG gy F T' cs,⟨gf,gt,F,T',cs,i.out.upd0 l.out,rfl,X,a6.out,rfl⟩,RA.out.up.trans l.out (fun _ hx=>hx) (by simp),fun y U=>?_,fun y U V=>?_⟩
     ·rcases (eW _ _ _ _ _).1 U with rfl|q|q|⟨c,S,q⟩
      ·exact .inl ((eW _ _ _ _ _).2 (.inl rfl))
      ·exact .inl (oR q)
      ·exact I.out y q
      ·exact .inl (qD S q)
     ·have t:=(i.out.ge y V).2;rcases Q.out y U with q|q
      ·simp[blk] at q
      ·omega
end
abbrev AF:=Int×ByteArray×Int
abbrev dA (p:AF):List Value:=[iv p.1,sv p.2.1,iv p.2.2]
def c1h (p:Int×(ByteArray×List UInt8)):AF:=(p.1,p.2.1,(p.2.2.length:Int))
def bW (fl:FL):List AF:=fl.map c1h
theorem rV:∀ p,(dA p).length=3:=fun _=>rfl
theorem b2t:∀ p,∀ u∈dA p,u.oneCell'=true:=by intro p u a;simp[dA] at a;rcases a with rfl|rfl|rfl<;>rfl
theorem e1s:(Tryz.prog.info? 178).map (fun i=>(i.zero,i.size,i.bytes))=some (some (.agg #[.int .i64 0,.string ⟨#[]⟩,.int .i64 0]),3,32):=by kernel_rfl
theorem e6i:Tryz.prog.underlying 174=some (.slice 178):=by kernel_rfl
theorem b7i (cs:CL) (k:Nat) (hk:k < cs.length):(bW (bZ cs)).take (k+1)=(bW (bZ cs)).take k++[((bT cs k).1,(bT cs k).2.1.1,((bT cs k).2.2.length:Int))]:=by
 have a:k < (bZ cs).length:=by rw[fX];exact hk
 show (List.map c1h (bZ cs)).take (k+1)=(List.map c1h (bZ cs)).take k++_;rw[bC (by rw[aP];exact a),List.getElem_map,← cO (bZ cs) k a,gU cs k hk];rfl
section
variable {w0 w : World} {gy : Nat} {G : List Nat} {fl : FL} {tk : List (Int × Int)}
theorem b7j (h:YD w0 w gy G fl tk) :
  Calls Tryz.prog 65 #[.pointer (some ⟨gy,0,none⟩)] w fun e w'=>∃ v,e = .returned v∧cF 3 dA w.heap.size 178 w' v (bW fl)∧bR [] w w':=by
 obtain⟨gf,gt,F,T,cs,O,rfl,V,P,rfl⟩:=h.ex;have C:=bG O;have E:Hid ((eH cs).length≤100000):=by unfold Hid;rw[iS];omega
 have I:Hid (((eH cs).length:Int)=(cs.length:Int)):=by unfold Hid;rw[iS]
 have Z:=O.p0;clear O h P;go_enter Tryz.func65,Tryz.ntmps65;go_wp2_with fail
 (with_reducible refine(wK _ C.out.files I.out).mono ?_)
 rintro e w' ⟨rfl,rfl⟩;clear Z;go_wp2_with fail
 go_loopw [3,13] (fun v i wr=>∃ k:Nat,k≤cs.length∧i = .int .i64 k∧Hid (cF 3 dA w.heap.size 178 wr v ((bW (bZ cs)).take k))∧Hid (bR [] w wr)) (fun _ i _=>cs.length-(intOf i).toNat)
 case atStart=>exact⟨0,aS _,rfl,cF.nil _ _ _,bR.refl _ _⟩
 case round =>
  obtain⟨k,hk,rfl,g,D⟩:=hrel;by_cases o:k < cs.length
  ·have J:=bG (b7i cs k o);have HA:=bG (b2l cs k o);have U:=bG (C.out.own _ (eM k o));have a:((bW (bZ cs)).take k).length=k:=by unfold bW;rw[aJ,aP,fX];omega
   generalize bT cs k=c0 at *
   obtain⟨x,⟨b,sl⟩,bs⟩:=c0;have f:sl.n=bs.length:=by
    have g:=U.out;rcases g.2 with⟨he,h0⟩|⟨g',W,a0,he,-⟩
    ·injection he with e1 X e3;rw[X];exact h0.symm
    ·injection he with e1 X e3
   obtain⟨p,sn,r⟩:=sl;have f:sn=bs.length:=f;subst f;have J:Hid ((bW (bZ cs)).take (k+1)=(bW (bZ cs)).take k++[(x,b,(bs.length:Int))]):=J;obtain⟨Q,R,rfl,-⟩:=g.out.rd rV;rw[a] at g ⊢;have d:=bG a;have K:Hid (∃ ks,ks=(bW (bZ cs)).take k):=⟨_,rfl⟩
   generalize hks:(bW (bZ cs)).take k=ks at *
   clear a hks K U;have q0:(0:Int)≤k:=by omega
   have q1:(k:Int) < cs.length:=by omega
   have s:Hid (gR (k:Int)):=⟨by omega,by omega⟩
   have HB:Hid ((ks.length+[(x,b,(bs.length:Int))].length)*32≤140737488355328):=by unfold Hid;rw[d.out];simp;omega
   have HL:Hid (ks.length+[(x,b,(bs.length:Int))].length≤maxLen):=by unfold Hid maxLen;rw[d.out];simp;omega
   have y1:=(C.out.upd0 D.out).p0;go_wp2_with fail
   (with_reducible refine(a8b (k:Int) x (b,⟨p,bs.length,r⟩) true s.out ((C.out.upd0 D.out).files) E.out HA.out).mono ?_)
   rintro e l ⟨rfl,m⟩;have t:=bG ((D.out.seq m).alloc (.cells #[sv b,.slice p bs.length r] 103));have u:=bG (g.out.upd (m.alloc (.cells #[sv b,.slice p bs.length r] 103)) (by simp));have z:=t.out.size;have L:Hid (qW 3 dA ((l.alloc (.cells #[sv b,.slice p bs.length r] 103)).alloc (.cells #[iv x,sv b,.int .i64 (bs.length:Int)] 178)) (.slice (some ⟨l.heap.size+1,0,none⟩) 1 1) [(x,b,(bs.length:Int))]):=by
    have hb:=cU.new (l.alloc (.cells #[sv b,.slice p bs.length r] 103)) 178 [iv x,sv b,.int .i64 (bs.length:Int)];refine⟨_,1,rfl,by simp,by simp[maxLen],fun _=>⟨l.heap.size+1,0,rfl,fun j Y i hi=>?_⟩⟩;simp at Y;subst Y;have:=hb.cell i;rw[show (l.alloc (.cells #[sv b,.slice p bs.length r] 103)).heap.size=l.heap.size+1 by simp] at this;rw[cP,show 0+(0*3+i)=i by omega];exact this
   clear m y1 g;go_wp2_with (at_builtin;go_must (refine cQ rfl _ _ rfl (.slice Q k R) (.slice (some ⟨l.heap.size+1,0,none⟩) 1 1) rfl rfl (fR (c:=dA) rV (by decide) b2t e6i e1s rfl _ _ ks [(x,b,(bs.length:Int))] (u.out.upd ((bR.refl [] _).alloc _) (by simp)) L.out HB.out HL.out (by simp at z ⊢;omega)) ?_;rintro v1 w3 ⟨A,B,S⟩;have M:=bG A;have N:Hid (bR [] w w3):=((t.out.alloc _).trans B (by simp) (fun y hy => .inr (u.out.ge y hy).1));clear A B S))
   go_roundw
   case rel=>exact⟨k+1,by omega,by go_num,by rw[J.out];exact M,N⟩
   case measure=>simp[intOf];omega
  ·obtain rfl:k=cs.length:=by omega
   go_wp2_with fail
   go_ret;exact⟨_,rfl,by have:=g.out;rwa[aZ (by unfold bW;rw[aP,fX];omega)] at this,D.out⟩
end
end Go.Proofs.YthgnlfikneipiaaGreat
namespace Go.Eng
open Go.RowKit
def hks (bd:Bd) (l:List TS):FuncId→List AV→St→Option (AV×St):=d5t (l.map (TS.he bd))
section
variable {b : Nat} {ν : Nat → Int} {st : Nat → List Value → List (cR b)}
theorem lG {P:Program} {bd:Bd} (hbd:@BD (cA b ν st) bd) {l:List TS} (h:∀ T∈l,T.Ok P ν st):∀ f args S v S',hks bd l f args S=some (v,S')→@iC (cA b ν st) P f args S S' v :=
 @c0k (cA b ν st) P _ fun x a=>by
  obtain⟨T,hT,rfl⟩:=List.mem_map.1 a;exact TS.Ok.he hbd (h T hT)
theorem yI {H1 H2:Hp} {n1 n2:Nat} {rt1 rt2:List AV} {v1 v2:List Value} {w:World} {F1 F2:Nat→Prop} (h1:(cY b ν H1 n1 rt1 v1).P w F1) (h2:(cY b ν H2 n2 rt2 v2).P w F2) (hd:∀ x,F1 x→¬ F2 x) (g1:rH H1=true) (g2:rH H2=true) (g3:rH (H1++shH n1 H2)=true) (hb:b≤w.heap.size) :
  (cY b ν (H1++shH n1 H2) (n1+n2) (rt1++b1e n1 rt2) (v1++v2)).P w fun x=>F1 x∨F2 x:=by
 letI:fP:=bQ b ν
 obtain⟨d,f,j⟩:=wC h1 g1 hb;obtain⟨l,m,o⟩:=wC h2 g2 hb;have a:=f.join m hd g3;have c:lK d (nX d n1 l):=fun i x g=>by
  unfold nX;rw[if_pos (f.lt g)];exact g
 exact⟨_,a.toSat0,a.fresh,eL.2 ⟨_,_,cT c j,by rw[a2b];exact o,rfl⟩,fun x h=>⟨a.ob x h,a.olt x h⟩⟩
end
def c1i (b:Nat) (ν:Nat→Int):List mM→List (List Value)→List (cR b)
 | p::l,v::m=>cY b ν p.B p.n p.rt v::c1i b ν l m
 | _,_=>[]
def eX (r:Option (AV×St)) (v:AV) (k:Nat) (az:List AV) (ps:List mM):Bool:=match r with
 | some (v',S)=>eqV v v'&&c8u S.H k az&&ps.all (fun p=>p.ok S.H S.nx)&&lD (jR ps)&&S.obs.isEmpty
 | none=>false
section
variable {b : Nat} {ν : Nat → Int} {st : Nat → List Value → List (cR b)}
def d6n (b:Nat) (ν:Nat→Int) (G:GM):List mM→List (List Value)→Prop
 | [],[]=>True
 | p::l,v::m=>@dG (bQ b ν) G p.rg=some v∧d6n b ν G l m
 | _,_=>False
theorem c4x {w:World} {G:GM} {O:Nat→Prop} {H:Hp} {nx:Nat} (h:@gP (cA b ν st) w G O H nx) {p:mM} (hp:p.ok H nx=true) {vals:List Value} (hv:@dG (bQ b ν) G p.rg=some vals) :
  ∃ F',(cY b ν p.B p.n p.rt vals).P w F'∧(∀ y,F' y→O y)∧∀ y,F' y→∃ i c x,i∈uF p.ρ p.B∧cK H i=some c∧c.live∧G i=some x∧y=x.g:=by
 letI:fP:=cA b ν st
 unfold mM.ok at hp;rw[aD] at hp;have hs:=h.gc hp.1;have m:∀ y,wD G p y→O y:=fun y ⟨k,c,x,j,t,o,r⟩=>by
  obtain⟨F,d,s,_⟩:=hs.bs k c j t;rw[o] at d;cases d;rw[r];exact s
 refine⟨wD G p,⟨GM.ren p.ρ G,?_,hs.fresh,?_,fun y l=>⟨h.ob y (m y l),h.olt y (m y l)⟩⟩,m,fun y l=>?_⟩
 ·refine @Sat0.mk (bQ b ν) _ _ _ _ (fun i c v f=>?_) hs.inj;obtain⟨x,d,s,z,A⟩:=hs.bs i c v f;exact⟨x,d,⟨i,c,x,v,f,d,rfl⟩,z,d9t.1 A⟩
 ·exact(@mR (bQ b ν) _ _ _ _ hp.2).trans hv
 ·obtain⟨k,c,x,j,t,o,r⟩:=l;have a:=hp.1;simp only[c8p,aD] at a;obtain⟨i,C,u,D,E⟩:=nA a.1.1.1 k c j;have f:=(pC (w:=w) (x:=x) (G:=G) E).1.2;exact⟨i,C,x,xY j u,D,f,by have:(bT p.ρ k).bind G=some x:=o;rw[u] at this;exact this,r⟩
theorem yJ {w:World} {G:GM} {O:Nat→Prop} {H:Hp} {nx:Nat} (h:@gP (cA b ν st) w G O H nx):∀ {ps:List mM} {vss:List (List Value)},(∀ p∈ps,p.ok H nx=true)→lD (jR ps)=true→d6n b ν G ps vss →
  ∃ F',cW (c1i b ν ps vss) w F'∧(∀ y,F' y→O y)∧∀ y,F' y→∃ i c x,i∈jR ps∧cK H i=some c∧c.live∧G i=some x∧y=x.g
 | [],[],_,_,_=>⟨fun _=>False,⟨fun _ _=>False,⟨fun i A hi=>(by cases i<;>cases hi),fun i j x hi=>hi.elim,fun i _ x hx=>hx⟩,fun x=>⟨fun q=>q.elim,fun ⟨_,q⟩=>q⟩⟩,fun y q=>q.elim,fun y q=>q.elim⟩
 | [],_::_,_,_,h=>h.elim
 | _::_,[],_,_,h=>h.elim
 | p::ps,v::vss,hp,hn,hv=>by
  letI:fP:=cA b ν st
  obtain⟨s,t⟩:=uY hn;obtain⟨u,B,C,m⟩:=c4x h (hp p (aR ..)) hv.1;obtain⟨D,E,F,o⟩:=yJ h (fun q S=>hp q (aT _ S)) s hv.2;refine⟨fun x=>u x∨D x,cW.join (l:=[_]) (cW.one.2 B) E (fun x hx f=>?_) (fun _=>Iff.rfl),fun y f=>f.elim (C y) (F y),fun y f=>?_⟩
  ·obtain⟨i,c,z,a,I,J,K,L⟩:=m x hx;obtain⟨j,d,y,M,N,P,Q,R⟩:=o x f;have:=@Sat0.inj (cA b ν st) _ _ _ _ h.toSat0 i j c d z y I J N P K Q (by rw[← L,← R]);subst this;exact t i a M
  ·rcases f with q|q
   ·obtain⟨i,c,z,a,r⟩:=m y q;exact⟨i,c,z,List.mem_append_left _ a,r⟩
   ·obtain⟨i,c,z,a,r⟩:=o y q;exact⟨i,c,z,List.mem_append_right _ a,r⟩
theorem iT {P:Program} {E:iU} (hE:@sL (cA b ν st) P E) {fuel:Nat} {f:FuncId} {args:List AV} {H:Hp} {n k0 kf:Nat} {as0 asf rt:List AV} {vf:AV} {ps:List mM}
  (hev:eX (call E fuel f args ⟨[],(0,.gho k0 as0)::H,n,[],[]⟩) vf kf asf ps=true) (hn:0 < n) (h0:cK H 0=none)
  {w:World} {F:Nat→Prop} {gs us vals:List Value} (hb:b≤w.heap.size) (h:cW (st k0 gs++[cY b ν H n rt vals]) w F)
  (hg:∀ G:GM,@dG (bQ b ν) G rt=some vals→@dG (bQ b ν) G as0=some gs∧@uS (bQ b ν) G args us) :
  Calls P f us.toArray w fun e w'=>∃ u gs' G,e = .returned u∧@dv (bQ b ν) G vf=some u∧@dG (bQ b ν) G asf=some gs'∧(∃ F0,cW (st kf gs') w' F0)∧(∀ vss,d6n b ν G ps vss→∃ F',cW (st kf gs'++c1i b ν ps vss) w' F'∧∀ x,F' x→F x∨w.heap.size≤x)∧cJ F w w'∧∃ G0:GM,lK G0 G∧@dG (bQ b ν) G0 rt=some vals:=by
 letI:fP:=cA b ν st
 obtain⟨G0,A,t⟩:=a2d (k:=k0) (az:=as0) hn hb h0 h (fun G q=>(hg G q).1);unfold eX at hev;split at hev
 ·rename_i B S C;simp only[aD] at hev;obtain⟨⟨⟨⟨D,a⟩,I⟩,J⟩,K⟩:=hev;have z:S.obs=[]:=by simpa using K
  refine((@a0r (cA b ν st) P E hE fuel f args _ S B C).2.2 (by rw[z];intro p m;cases m) (b5t _ _ _ (hg G0 t).2) A).mono ?_;rintro e w' ⟨u,G,O,rfl,L,v,j⟩;have l:cK S.H 0=some (.gho kf asf):=by
   unfold c8u at a;split at a
   ·rename_i k' M he;rw[aD] at a;rw[he,aC a.1,mK a.2]
   ·cases a
  obtain⟨gs',r,N,d,Q,R⟩:=v.gh kf asf l;have d:cW (st kf gs') w' r:=d;refine⟨u,gs',G,rfl,by rw[a7i D,← c9j (st:=st)];exact L,by rw[← yA (st:=st)];exact N,⟨r,d⟩,fun vss hv=>?_,j.u,G0,j.g,t⟩;obtain⟨T,U,V,W⟩:=yJ v (fun p m=>bB.1 I p m) J hv;refine⟨fun x=>r x∨T x,d.join U (fun x s hy=>?_) (fun _=>Iff.rfl),fun x s=>s.elim (fun q=>j.o x (Q x q).1) fun q=>j.o x (V x q)⟩;obtain⟨i,c,y,e0,X,Y,Z,e4⟩:=W x hy;subst e4;exact R i c y X Y Z s
 ·cases hev
end
end Go.Eng
namespace Go.Eng
def c0:oW := .c (.int .i64 0)
def e6j:TS:=⟨16,0,[],[.ptr],.s (.at 0),[.at 0],1⟩
def e6k:TS:=⟨17,1,[],[.ptr],.s (.at 1),[.at 0,.at 1],2⟩
def e1t:TS:=⟨49,2,[.s (.at 1)],[.ptr],.t [.at 2,c0],[.at 0,.at 1,.at 2],3⟩
def e1u:TS:=⟨50,3,[.s (.at 1)],[.ptr],.t [.at 3,c0],[.at 0,.at 1,.at 2,.at 3],4⟩
def e6l:TS:=⟨53,4,[.s (.at 3),.s (.num 0 12)],[],.s (.c (.str ⟨#[]⟩)),[.at 0,.at 1,.at 2,.at 3],4⟩
def c1j:List TS:=[e6j,e6k,e1t,e1u,e6l]
def lt (i:Nat):AV:=lin 0 [(i,1)]
def f0z (i:Nat):AV := .sym .u32 ⟨0,[(i,1)]⟩
def i0:oW := .c (.int .i64 0)
def i1:oW := .c (.int .i64 1)
def ats (n:Nat):List oW:=(List.range n).map oW.at
def d9w (k k' n:Nat):TS:=⟨20,k,[.s (.at 1)],[],.t [],ats n,k'⟩
def dD (k n:Nat) (e:TypeId) (str:Nat) (keep:List oW):TS:=⟨76,k,[.s (.at 3),.sl e 1 [i1,.at str]],[],.s i0,keep,k+1⟩
def hW (t:Hp):Hp:=[(6,.row 67 [.ptr 1 0,.ptr 2 0,.ptr 7 0]),(7,.row 98 [.ptr 1 0,.ptr 5 0,.ptr 3 0,.ptr 4 0,.ptr 8 0,.ptr 9 0])]++t
def hW0:Hp:=hW [(8,.row 142 [.nils])]
def as5:List AV:=[.ptr 1 0,.ptr 2 0,.ptr 3 0,.ptr 4 0,.ptr 5 0]
def f1a (hl hs at_ ln pl:AV):List AV:=[i6 1,.bool true,i6 1,i6 1,hl,hs,at_,ln,.opq 7,.bool false,i6 0,i6 0,.nils,.nils,i6 0,.nils,.nils,pl,.opq 6,.nils,i6 0,.nils]
def hP (hl hs at_ ln pl:AV):Hp:=[(8,.row 67 [.ptr 1 0,.ptr 2 0,.ptr 9 0]),(9,.row 98 [.ptr 1 0,.ptr 5 0,.ptr 3 0,.ptr 4 0,.ptr 10 0,.ptr 12 0]),(10,.row 142 [.slc 11 0 1]),(11,.gro 139 22 (f1a hl hs at_ ln pl))]
def hP1:Hp:=hP (lt 10) (f0z 11) (lt 12) (lt 13) (lt 14)
end Go.Eng
namespace Go.Proofs.YthgnlfikneipiaaGreat
open Go.RowKit
def kM (l:List UInt8):BitVec 32:=wH 0 (l.take 16)
def b2u (l:List UInt8):Value := .agg #[.int .i64 ((min l.length 16:Nat):Int),.int .u32 ((kM l).toNat:Int)]
theorem a3b (w:World) (v:Value) (l:List UInt8) (h:eQ w v l) :
  Calls Tryz.prog 110 #[v] w fun e w'=>e = .returned (b2u l)∧bR [] w w':=by
 have d:=h;obtain⟨a,c,rfl,m,g,o⟩:=h;have j:c≤9223372036854775807:=g;clear g o;by_cases i:l.length≤16
 ·have q:(l.length:Int)≤16:=by omega
  have H:=bG d;have b:b2u l = .agg #[.int .i64 (l.length:Int),.int .u32 ((wH 0 l).toNat:Int)]:=by
   unfold b2u kM;rw[Nat.min_eq_left i,aZ i]
  have f:=bG b;clear d b;go_enter Tryz.func110,Tryz.ntmps110;go_wp2_with fail
  refine(a7u _ [l] _ (mF.one _ _ (by simp) rfl rfl rfl (H.out.alloc _))).mono ?_;rintro e w' ⟨rfl,rfl⟩;go_wp2_with fail
  exact bodyPost_ret (v := .agg #[.int .i64 (l.length:Int),.int .u32 ((wH 0 l).toNat:Int)]) (by simp[results,Tryz.results110,go_sem];try rfl) rfl ⟨by rw[f.out],by exact by repeat (first|exact bR.refl _ _|apply bR.alloc|apply bR.drew|(refine bR.setCell ?_ _ _ (.inr (by simp))))⟩
 ·have q:(16:Int) < l.length:=by omega
  have p:(16:Int)≤c:=by omega
  have H:=bG (d.take 16 (by omega));have b:b2u l = .agg #[.int .i64 16,.int .u32 ((wH 0 (l.take 16)).toNat:Int)]:=by
   unfold b2u kM;rw[Nat.min_eq_right (by omega)];rfl
  have f:=bG b;clear d b;generalize l.take 16=l2 at *
  go_enter Tryz.func110,Tryz.ntmps110;go_wp2_with fail
  refine(a7u _ [l2] _ (mF.one _ _ (by simp) rfl rfl rfl (H.out.alloc _))).mono ?_;rintro e w' ⟨rfl,rfl⟩;go_wp2_with fail
  exact bodyPost_ret (v := .agg #[.int .i64 16,.int .u32 ((wH 0 l2).toNat:Int)]) (by simp[results,Tryz.results110,go_sem];try rfl) rfl ⟨by rw[f.out],by exact by repeat (first|exact bR.refl _ _|apply bR.alloc|apply bR.drew|(refine bR.setCell ?_ _ _ (.inr (by simp))))⟩
theorem b7k (a b:BitVec 32):((a.toNat:Int)==(b.toNat:Int))=decide (a=b):=by
 by_cases h:a=b
 ·rw[h];simp
 ·rw[decide_eq_false h,bJ];intro e;exact h (BitVec.eq_of_toNat_eq (by omega))
theorem b7l (w:World) (m:Nat) (s:BitVec 32) (at_ size:Int) (v:Value) (l:List UInt8) (h:eQ w v l) (h1:at_≤size) (h3:m≤16) (h4:m≤l.length) (hs:wH 0 (l.take m)=s) :
  Calls Tryz.prog 108 #[.agg #[.int .i64 (m:Int),.int .u32 (s.toNat:Int)],.int .i64 at_,.int .i64 size,v] w fun e w'=>e = .returned (.bool true)∧bR [] w w':=by
 have d:=h;obtain⟨a,c,rfl,o,f,p⟩:=h;have g:c≤9223372036854775807:=f;clear f p;have i:=bG hs;have j:=bG (b7k (rO [l.take m]) s);have H:=bG (d.take m (by omega));have r:(m:Int)≤c:=by omega
 clear d;generalize l.take m=l2 at *
 go_enter Tryz.func108,Tryz.ntmps108;go_wp2_with fail
 go_region_held3 (fun w'=>w'.cell? ⟨w.heap.size,0,none⟩=some (.int .i64 (m:Int))∧w'.cell? ⟨w.heap.size,1,none⟩=some (.int .u32 (s.toNat:Int))) (go_keep)
  (first|(go_at_call 144;refine(a7u _ [l2] _ (mF.one _ l2 (by simp) rfl rfl rfl (H.out.alloc _)).drew).mono ?_;rintro e w' ⟨rfl,rfl⟩;dsimp only)|fail)
 go_wp2_with fail
 go_ret;exact⟨congrArg (fun b=>Ending.returned (.bool b)) (by rw[j.out];exact decide_eq_true i.out),by repeat (first|exact bR.refl _ _|apply bR.alloc|apply bR.drew|apply bR.drewN)⟩
end Go.Proofs.YthgnlfikneipiaaGreat
namespace Go.Eng
def e1v:Nat→List oW
 | 0=>[]
 | j+1 => .c (.int .i32 65533) :: .c (.int .i64 1)::e1v j
def d9x (j:Nat):TS:=⟨205,0,[.s (.at 0)],[.opl ⟨j,[]⟩],.s (.at 1),[.at 0,.at 1],1⟩
def f1b:TS:=⟨141,1,[.s (.at 1)],[.ptr],.t [.at 2,.c (.int .i64 0)],[.at 0,.at 2],2⟩
def a6b:Nat→TS
 | 0=>⟨290,2,[.s (.at 1)],[.opl ⟨0,[]⟩],.s (.at 2),[.at 0],3⟩
 | j+1=>⟨290,2,[.s (.at 1)],[],.row 333 2 (j+1) (e1v (j+1)),[.at 0],3⟩
def c1k (j:Nat):List TS:=[d9x j,f1b,a6b j]
def lsN:Hp:=[(1,.gro 290 12 (.bool false::c8z++[.nils]))]
def lsY:Hp:=[(1,.gro 290 12 (.bool true::l6 0 [(1,1)]::l6 0 [(2,1)]::n6s [-1,-1,-1,-1,-1,-1,-1,-1]++[.nils]))]
end Go.Eng
namespace Go.Eng
def yK:Hp:=[(1,.row 378 [.int .u8 0,.int .u8 0,.int .u8 0,.int .u8 0,.int .i64 0])]
def z5:Sb:=[kx 0 [],kx 0 [],kx 0 []]
end Go.Eng
namespace Go.Eng
def bdS:Bd:=[(0,200),(0,200),(0,200)]
def f1c:Xk→Hp
 | .S0 | .S1 | .S2=>lsN
 | .H | .H2=>gJ [kx 0 [(0,1)],kx 0 [(1,1)],kx 0 [(0,1)]] lsY
 | _=>lsY
def e1w:Xk→Nat→Nat
 | .S0,j | .S1,j | .S2,j=>42+28*j
 | .H,j | .H2,j=>40+7*j
 | _,j=>28+7*j
noncomputable def b2v (k:Xk) (j:Nat):Bool:=eX (call (oL bdS (hks bdS (c1k j))) 300 264 [.ptr 1 0] ⟨[],(0,.gho 0 [.ptr 2 0])::fF k,13,[],[]⟩) (.slc (e1w k j) 0 1) 3 [.ptr 2 0]
 [⟨List.range 13,fF k,13,rX,rX⟩,⟨[0,e1w k j],f1c k,2,[.slc 1 0 1],[.slc (e1w k j) 0 1]⟩]
theorem e1x:(List.range 4).all (b2v .S0)=true:=by kernel_rfl
theorem e1y:(List.range 4).all (b2v .S1)=true:=by kernel_rfl
theorem e1z:(List.range 4).all (b2v .S2)=true:=by kernel_rfl
theorem e6m:(List.range 4).all (b2v .H)=true:=by kernel_rfl
theorem e2a:(List.range 4).all (b2v .H2)=true:=by kernel_rfl
theorem e6n:(List.range 4).all (b2v .D)=true:=by kernel_rfl
theorem e2b:(List.range 4).all (b2v .D2)=true:=by kernel_rfl
theorem e2c:(List.range 4).all (b2v .D3)=true:=by kernel_rfl
end Go.Eng
namespace Go.Proofs.YthgnlfikneipiaaGreat
open Go.RowKit
theorem a4k {P:Program} (w:World) (dT sT ty elem:TypeId) (g o dLen dCap:Nat) (a:Option Addr) (sCap:Nat) {sz:Nat} (hu:P.underlying dT=some (.slice elem)) (hs:(P.info? elem).map (·.size)=some sz) :
  (Builtin.copy_ #[dT,sT] ty #[.slice (some ⟨g,o,none⟩) dLen dCap,.slice a 0 sCap]).run P w = .ok (goInt 0) w:=by
 cases b:P.info? elem with
 | none=>simp[b] at hs
 | some i =>
  have c:i.size=sz:=by simpa [b] using hs
  cases a<;>simp[Builtin.copy_,run_underlying hu,Builtin.lenOf,Builtin.firstCells,sizeOf,typeInfo,b,c,go_sem]
theorem d6o {w w':World} {a:Addr} {v:Value} (hu:bR [] w w') (h:w.cell? a=some v):w'.cell? a=some v:=hu.cell h (by simp)
theorem yL (w:World) (v:Value) (l:List UInt8) (hv:eQ w v l) (hl:l.length≤4) (hb:l=[]∨(iZ l).2=true) :
  Calls Tryz.prog 141 #[v] w fun e w'=>∃ g,e = .returned (.tuple #[.pointer (some ⟨g,0,none⟩),.int .i64 0])∧w.heap.size≤g∧qX w' g l∧bR [] w w':=by
 obtain⟨a,k,rfl,a0,a1,p⟩:=id hv;have HV:=bG hv;obtain⟨n,O,y⟩:∃ n b,iZ l=(n,b):=⟨_,_,rfl⟩
 have G:=bG y;have i:O=true∨(O=false∧l.length=0):=by
  rw[y] at hb;rcases hb with rfl|h
  ·have:iZ []=(n,O):=y;exact .inr ⟨(Prod.mk.inj this).2.symm,rfl⟩
  ·exact .inl h
 have HC:=bG p;have U:¬ (0:Int) < l.length∨O=true:=by rcases i with h|⟨-,h⟩;exact .inr h;exact .inl (by omega)
 clear hv y p hb;go_enter Tryz.func141,Tryz.ntmps141;go_wp2_with fail
 (with_reducible refine(a2k w _ l HV.out).mono ?_)
 rw[G.out];rintro e z ⟨r,rfl,-,-,rfl⟩;rcases i with rfl|⟨rfl,hz⟩
 ·have I:l≠[]:=fun q=>by
   have:=G.out;rw[q] at this;exact absurd (Prod.mk.inj (show ((0:Int),false)=(n,true) from this)).2 (by simp)
  obtain⟨b,K,rfl,X⟩:=HC.out I;have R:=bG X;clear X U I;go_wp2_with fail
  (with_reducible refine(a2o z).mono ?_)
  rintro e s ⟨rfl,hd,d⟩;have S:=bG d;generalize E:z.heap.size=g at *
  have C:Hid (z.heap.size≤g):=by unfold Hid;omega
  obtain⟨A,L,Y,Q,M⟩:=hd.ex;have V:=bG M;have m:Hid (∀ F,(Builtin.copy_ #[33,33] F #[.slice (some ⟨g,0,none⟩) 4 4,.slice (some ⟨b,K,none⟩) l.length k]).run Tryz.prog s = .ok (goInt (l.length:Int)) (s.setRow g (iE (A.map bv++[Value.int .i64 (([]:List UInt8).length:Int)]).toArray 0 (l.map bv)))):=fun F =>
   jA (P:=Tryz.prog) (sz:=1) (t:=378) Tryz.underlying33 (by kernel_rfl) s V.out (by simp only[Nat.min_def];split<;>omega) (by rw[aP];omega) (fun j u d=>by
    rw[List.getElem?_map] at d;by_cases T:j < l.length
    ·rw[aO T] at d;simp at d;have he:=d6o S.out (R.out j T);rw[cO _ _ T] at he;rw[← d,dB];exact he
    ·rw[List.getElem?_eq_none (by omega)] at d;simp at d) (by simp[L];omega) (fun u d=>by
    obtain⟨x,-,rfl⟩:=List.mem_map.1 d;rfl)
  have B:iE (A.map bv++[Value.int .i64 (([]:List UInt8).length:Int)]).toArray 0 (l.map bv)=((l++A.drop l.length).map bv++[Value.int .i64 0]).toArray:=by
   unfold iE;rw[List.take_zero,List.nil_append,aP,aM,List.drop_append_of_le_length (by rw[aP];omega),List.map_append,List.map_drop,bN];rfl
  have hb:cU (s.setRow g (iE (A.map bv++[Value.int .i64 (([]:List UInt8).length:Int)]).toArray 0 (l.map bv))) g 378 ((l++A.drop l.length).map bv++[Value.int .i64 0]):=by
   have:=setRow_heap s g _ (iE (A.map bv++[Value.int .i64 (([]:List UInt8).length:Int)]).toArray 0 (l.map bv)) _ _ V.out;rw[B] at this ⊢;exact this
  have D:bR [] z (s.setRow g (iE (A.map bv++[Value.int .i64 (([]:List UInt8).length:Int)]).toArray 0 (l.map bv))):=S.out.setRow g _ (.inr (by omega));obtain⟨N,Z⟩:∃ N,s.setRow g (iE (A.map bv++[Value.int .i64 (([]:List UInt8).length:Int)]).toArray 0 (l.map bv))=N:=⟨_,rfl⟩
  rw[Z] at m hb D;have o:((l++A.drop l.length).map bv).length=4:=by rw[aP,aE,aH];omega
  have c4:N.cell? ⟨g,4,none⟩=some (.int .i64 0):=by
   have:=hb.cell 4;rw[List.getElem?_append_right (by rw[o];exact aF _),o] at this;exact this
  have f4:=hb.frozen 4;have hs:=hb.set_ 4 (.int .i64 (l.length:Int));rw[List.set_append_right _ _ (by rw[o];exact aF _),o,show 4-4=0 from rfl,List.set_cons_zero] at hs;have J:Hid (qX (N.setCell ⟨g,4,none⟩ (.int .i64 (l.length:Int))) g l∧bR [] z (N.setCell ⟨g,4,none⟩ (.int .i64 (l.length:Int)))):=⟨⟨l++A.drop l.length,by rw[← aP (f:=bv)];exact o,hl,by rw[List.take_append_of_le_length (aF _),aV],hs⟩,D.setCell _ _ (.inr (by dsimp only;omega))⟩
  have c:=m;clear hd d Q M m B hb D Z hs E;go_wp2_with (with_reducible refine eG rfl (.tmp 26) (.tmp 27) 33 33 rfl (.slice (some ⟨g,0,none⟩) 4 4) (.slice (some ⟨b,K,none⟩) l.length k) rfl rfl (c.out _) ?_)
  go_ret2
  exact⟨g,rfl,C.out,J.out.1,J.out.2⟩
 ·obtain rfl:l=[]:=List.eq_nil_of_length_eq_zero hz;have c:Hid (∀ F (g:Nat) (W:World),(Builtin.copy_ #[33,33] F #[.slice (some ⟨g,0,none⟩) 4 4,.slice a 0 k]).run Tryz.prog W = .ok (goInt 0) W):=fun F g W=>a4k W _ _ F _ g 0 4 4 a k Tryz.underlying33 (sz:=1) (by kernel_rfl)
  clear U hz;go_wp2_with fail
  (with_reducible refine(a2o z).mono ?_)
  rintro e s ⟨rfl,hd,d⟩;have S:=bG d;obtain⟨c4,f4,-⟩:=hd.n;generalize E:z.heap.size=g at *
  have C:Hid (z.heap.size≤g):=by unfold Hid;omega
  obtain⟨A,L,Y,Q,M⟩:=hd.ex;have hs:=M.set_ 4 (.int .i64 0);rw[List.set_append_right _ _ (by rw[aP,L];exact aF _),aP,L,show 4-4=0 from rfl,List.set_cons_zero] at hs;have J:Hid (qX (s.setCell ⟨g,4,none⟩ (.int .i64 0)) g []∧bR [] z (s.setCell ⟨g,4,none⟩ (.int .i64 0))):=⟨⟨A,L,Y,Q,hs⟩,d.setCell _ _ (.inr (by dsimp only;omega))⟩
  clear hd d Q M hs E;go_wp2_with (with_reducible refine eG rfl (.tmp 26) (.tmp 27) 33 33 rfl (.slice (some ⟨g,0,none⟩) 4 4) (.slice a 0 k) rfl rfl (c.out _ _ _) ?_)
  go_ret2
  exact⟨g,rfl,C.out,J.out.1,J.out.2⟩
end Go.Proofs.YthgnlfikneipiaaGreat
