/- Texts of the proof, joined. -/
import Derived.Test.YthgnlfikneipiaaGreatMz10
import Derived.Test.YthgnlfikneipiaaGreatMz6
import Derived.Test.YthgnlfikneipiaaGreatMz1
import Derived.Deep.RegionHeld3
import Derived.Test.YthgnlfikneipiaaGreatMz9
import Derived.Test.YthgnlfikneipiaaGreatMz7
set_option linter.unusedSimpArgs false
set_option linter.unusedVariables false
set_option linter.unusedSectionVars false
namespace Go.Proofs.YthgnlfikneipiaaGreat
open Go.RowKit
section
variable {w0 w w' : World} {gd gj : Nat} {F G : List Nat} {t t' : JS} {s s' : DS}
theorem JD.cells (h:JD w0 w gd gj F G t s):∃ gt F0,w.cell? ⟨gj,0,none⟩=some (.pointer (some ⟨gd,0,none⟩))∧w.cell? ⟨gj,1,none⟩=some (.pointer (some ⟨gt,0,none⟩))∧TXIS w0 w gt F0 t∧F=gj::F0:=by
 obtain ⟨gt,F0,hc,hF⟩:=h.jc
 exact ⟨gt,F0,hc.top.cell 0,hc.top.cell 1,hc.tab,hF⟩
set_option maxRecDepth 20000 in
set_option maxHeartbeats 1000000 in
theorem jGet_any (k:Int) (hk:I64 k) (h:JD w0 w gd gj F G t s) :
  Calls Tryz.prog 53 #[.pointer (some ⟨gj,0,none⟩),.int .i64 k] w fun e w'=>e = .returned (.string (jGet t k))∧Upd [] w w':=by
 obtain ⟨gt,F0,-,c1,ht,-⟩:=h.cells
 have hlen:=h.jt.len
 have HT:=Lib.hid ht
 have HK:=Lib.hid hk
 obtain ⟨y,b,hg⟩:∃ y b,tGet ltI s0 t k=(y,b):=⟨_,_,rfl⟩
 have HG:=Lib.hid hg
 have HY:Hid (jGet t k=y):=by unfold Hid jGet;rw [hg]
 clear h ht hk hg
 go_enter Tryz.func53,Tryz.ntmps53
 go_wp2_with fail
 (with_reducible refine (txIS_Get k y b HT.out (by omega) HK.out HG.out).mono ?_)
 rintro e w1 ⟨rfl,hu1⟩
 have HU:=Lib.hid hu1
 clear hu1
 go_wp2_with fail
 go_ret
 exact ⟨by rw [HY.out];rfl,HU.out⟩
def jLen (s:DS) (nm:ByteArray):Nat:=(dGet s.now nm).1.length
set_option maxRecDepth 20000 in
set_option maxHeartbeats 1000000 in
theorem jsize_any (nm:ByteArray) (h:JD w0 w gd gj F G t s) (hn:s.now.length≤100000) :
  Calls Tryz.prog 130 #[.pointer (some ⟨gj,0,none⟩),sv nm] w fun e w'=>e = .returned (.int .i64 (jLen s nm:Int))∧Upd [] w w':=by
 obtain ⟨gt,F0,c0,-,-,-⟩:=h.cells
 have HD:=Lib.hid h.dd
 have HN:=Lib.hid hn
 have HL:Hid (jLen s nm=(dGet s.now nm).1.length):=rfl
 obtain ⟨b,ok,hb⟩:∃ b ok,dGet s.now nm=(b,ok):=⟨_,_,rfl⟩
 have HB:=Lib.hid hb
 rw [hb] at HL
 clear h hn hb
 go_enter Tryz.func130,Tryz.ntmps130
 go_wp2_with fail
 (with_reducible refine (dkRead_any nm HD.out HN.out).mono ?_)
 rw [HB.out]
 rintro e w1 ⟨v,rfl,ho,hu1⟩
 have HU:=Lib.hid hu1
 obtain ⟨a,k,rfl,-⟩:=ho.rd
 clear hu1 ho
 go_wp2_with fail
 go_ret
 exact ⟨by rw [HL.out];rfl,HU.out⟩
end
end Go.Proofs.YthgnlfikneipiaaGreat
namespace Go.Proofs.YthgnlfikneipiaaGreat
open Go.RowKit
section
variable {w0 w w' : World} {gd gj : Nat} {F G G1 : List Nat} {t t' : JS} {s s1 s2 : DS}
theorem jopen_done {W W':World} (h:JD w0 W gd gj F G1 t s1) (hu:Upd G w W) (hf:∀ x∈F,w.heap.size≤x) (hg:∀ x∈G1,x∈G∨w.heap.size≤x) (hd:DOut w0 W gd G1 s2 W'):JOut w0 w gd gj G t s2 W':=by
 obtain ⟨F',G',k1,k2,k3,k4⟩:=(show ∃ F' G',_ from h.disk hd)
 have hs:=hu.size
 have hin:∀ x∈F++G1,x∈G∨w.heap.size≤x:=fun x hx=>by
  rcases List.mem_append.1 hx with q|q
  ·exact .inr (hf x q)
  ·exact hg x q
 have key:∀ x,x∈F++G1∨W.heap.size≤x→x∈G∨w.heap.size≤x:=fun x hx=>by
  rcases hx with q|q
  ·exact hin x q
  ·exact .inr (by omega)
 exact ⟨F',G',k1,hu.trans k2 (fun x hx=>hx) hin,fun x hx=>key x (k3 x hx),fun x hx=>key x (k4 x hx)⟩
end
end Go.Proofs.YthgnlfikneipiaaGreat
namespace Go.Proofs.YthgnlfikneipiaaGreat
open Go.RowKit
section
variable {B : List Nat} {K : KB} {s : Sl} {l : List UInt8}
theorem Sh.take_ (h:Sh B K s l) (m:Nat) (hm:m≤l.length):Sh B K ⟨s.a,m,s.k⟩ (l.take m):=by
 have h1:=h.n
 have h2:=h.k
 refine ⟨by rw [List.length_take];show m=_;omega,by show m≤s.k;omega,h.m,h.nul,fun hne=>?_⟩
 have hl:l≠[]:=fun q=>hne (by rw [q];simp)
 obtain ⟨b,off,e1,e2,e3,e4⟩:=h.ex hl
 refine ⟨b,off,e1,e2,by rw [List.length_take];omega,?_⟩
 rw [List.length_take,Nat.min_eq_left hm]
 conv=>rhs;rw [← e4]
 rw [List.take_take,Nat.min_eq_left hm]
theorem Sh.drop_ (h:Sh B K s l) (m:Nat) (hm:m≤l.length):Sh B K ⟨if s.k=m then s.a else s.a.map (·.add m),l.length-m,s.k-m⟩ (l.drop m):=by
 have h1:=h.n
 have h2:=h.k
 refine ⟨by rw [List.length_drop],by show l.length-m≤s.k-m;omega,by have:=h.m;show s.k-m≤_;omega,fun q=>?_,fun hne=>?_⟩
 ·dsimp only at q ⊢
  split at q
  ·have:=h.nul q;omega
  ·have:=h.nul (by simpa using q);omega
 ·have hlt:m < l.length:=by
   rcases Nat.lt_or_ge m l.length with q|q
   ·exact q
   ·exact absurd (List.drop_eq_nil_of_le q) hne
  obtain ⟨b,off,e1,e2,e3,e4⟩:=h.ex (fun q=>by rw [q] at hlt;simp at hlt)
  refine ⟨b,off+m,?_,e2,by rw [List.length_drop];omega,?_⟩
  ·show (if s.k=m then s.a else s.a.map (·.add m))=_
   rw [if_neg (by omega),e1];simp [add_none]
  ·rw [List.length_drop]
   conv=>rhs;rw [← e4]
   rw [List.drop_take,List.drop_drop]
end
structure DP (w0 w:World) (gd:Nat) (G:List Nat) (s:DS) (sl:Sl) (l:List UInt8):Prop where
 ex:∃ gn gm Fn Fm B K cn cm lv lg,DC w0 w gd gn gm Fn Fm B K cn cm lv lg∧s=⟨dfOf cn,dfOf cm,lg.map (·.1)⟩∧DOk s∧G=dfoot gd Fn Fm B lv∧Sh B K sl l
section
variable {w0 w w' : World} {gd : Nat} {G : List Nat} {s : DS} {sl sl' : Sl} {l l' : List UInt8}
theorem DP.dd (h:DP w0 w gd G s sl l):DD w0 w gd G s:=by
 obtain ⟨gn,gm,Fn,Fm,B,K,cn,cm,lv,lg,hc,e,ho,eG,hs⟩:=h.ex
 exact ⟨gn,gm,Fn,Fm,B,K,cn,cm,lv,lg,hc,e,ho,eG⟩
theorem DP.drop_ (h:DP w0 w gd G s sl l) (m:Nat) (hm:m≤l.length):DP w0 w gd G s ⟨if sl.k=m then sl.a else sl.a.map (·.add m),l.length-m,sl.k-m⟩ (l.drop m):=by
 obtain ⟨gn,gm,Fn,Fm,B,K,cn,cm,lv,lg,hc,e,ho,eG,hs⟩:=h.ex
 exact ⟨gn,gm,Fn,Fm,B,K,cn,cm,lv,lg,hc,e,ho,eG,hs.drop_ m hm⟩
theorem DP.form (h:DP w0 w gd G s sl l):sl.n=l.length∧sl.n≤sl.k∧sl.k≤maxLen:=by
 obtain ⟨gn,gm,Fn,Fm,B,K,cn,cm,lv,lg,hc,e,ho,eG,hs⟩:=h.ex
 exact ⟨hs.n,hs.k,hs.m⟩
theorem DD.bytes (h:DD w0 w gd G s) {v:Value} (ho:Own bv w.heap.size 5 w' v l) (hu:Upd [] w w'):∃ sl G',v = .slice sl.a sl.n sl.k∧DP w0 w' gd G' s sl l∧(∀ x∈G',x∈G∨w.heap.size≤x)∧(∀ x∈G,x∈G'):=by
 obtain ⟨gn,gm,Fn,Fm,B,K,cn,cm,lv,lg,hc,e,hok,rfl⟩:=h.ex
 obtain ⟨sl,B',K',rfl,h1,h2,h3,h4,h5,h6,h7⟩:=hc.bks.new ho hu hc.old.size
 have hd:=hc.upd0 hu
 refine ⟨sl,_,rfl,⟨gn,gm,Fn,Fm,B',K',cn,cm,lv,lg,⟨hd.dk,hd.gdb,hd.now.keep h2 h7,hd.mark.keep h2 h7,hd.full,hd.apt,h1,hd.log,fun x hx=>(hd.lsh x hx).ext h2⟩,e,hok,rfl,h4⟩,fun x hx=>?_,fun x hx=>?_⟩
 ·rcases (dfoot_mem _ _ _ _ _ _).1 hx with rfl|hx|hx|hx|hx
  ·exact .inl ((dfoot_mem _ _ _ _ _ _).2 (.inl rfl))
  ·exact .inl ((dfoot_mem _ _ _ _ _ _).2 (.inr (.inl hx)))
  ·exact .inl ((dfoot_mem _ _ _ _ _ _).2 (.inr (.inr (.inl hx))))
  ·exact (h3 x hx).imp (fun q=>(dfoot_mem _ _ _ _ _ _).2 (.inr (.inr (.inr (.inl q))))) id
  ·exact .inl ((dfoot_mem _ _ _ _ _ _).2 (.inr (.inr (.inr (.inr hx)))))
 ·rcases (dfoot_mem _ _ _ _ _ _).1 hx with rfl|hx|hx|hx|hx
  ·exact (dfoot_mem _ _ _ _ _ _).2 (.inl rfl)
  ·exact (dfoot_mem _ _ _ _ _ _).2 (.inr (.inl hx))
  ·exact (dfoot_mem _ _ _ _ _ _).2 (.inr (.inr (.inl hx)))
  ·exact (dfoot_mem _ _ _ _ _ _).2 (.inr (.inr (.inr (.inl (h2.sub x hx)))))
  ·exact (dfoot_mem _ _ _ _ _ _).2 (.inr (.inr (.inr (.inr hx))))
theorem dpPut_any (nm:ByteArray) (m:Nat) (h:DP w0 w gd G s sl l) (hm:m≤l.length) (hx:WrOk (wPut nm (l.take m)) s.now) (hl:s.log.length≤1000000000) :
  Calls Tryz.prog 148 #[.pointer (some ⟨gd,0,none⟩),wrv (wPut nm (l.take m)) ⟨sl.a,m,sl.k⟩] w fun e w'=>e = .returned (.tuple #[])∧∃ G',DP w0 w' gd G' (dDo (wPut nm (l.take m)) s) sl l∧Upd G w w'∧(∀ x∈G',x∈G∨w.heap.size≤x):=by
 obtain ⟨gn,gm,Fn,Fm,B,K,cn,cm,lv,lg,hc,rfl,ho,rfl,hs⟩:=h.ex
 refine (do_any (wPut nm (l.take m)) ⟨sl.a,m,sl.k⟩ hc hx (hs.take_ m hm) (by simpa using hl)).mono ?_
 rintro e w' ⟨rfl,Fn',B',K',cn',lv',h1,h2,h3,h4,h5⟩
 exact ⟨rfl,_,⟨gn,gm,Fn',Fm,B',K',cn',cm,lv',_,h1,by unfold dDo;rw [h3];simp,ho.do_ hx,rfl,hs.ext h2⟩,h4,h5⟩
def lenV:Value→Nat
 | .slice _ n _=>n
 | _=>0
theorem bytes_upd {w w':World} {v:Value} {l:List UInt8} (h:Bytes w v l) {S:List Nat} (hu:Upd S w w') (hs:l≠[]→∀ x∈blk v,x∉S):Bytes w' v l:=by
 by_cases hne:l=[]
 ·obtain ⟨a,k,e,h1,h2,h3⟩:=h
  exact ⟨a,k,e,h1,h2,fun q=>absurd hne q⟩
 ·exact h.upd hu (hs hne)
theorem DOut.dp {w1 w2:World} {G1 G2:List Nat} (h:DP w0 w2 gd G2 s sl l) (hu:Upd G w w1) (hf:∀ x∈G1,x∈G∨w.heap.size≤x) (hu2:Upd G1 w1 w2) (hf2:∀ x∈G2,x∈G1∨w1.heap.size≤x):DOut w0 w gd G s w2 :=
 ⟨G2,h.dd,hu.trans hu2 (fun x hx=>hx) hf,fun x hx=>by
  have:=hu.size
  rcases hf2 x hx with q|q
  ·exact hf x q
  ·exact .inr (by omega)⟩
set_option maxRecDepth 20000 in
set_option maxHeartbeats 4000000 in
theorem dAppend_any (nm:ByteArray) (v:Value) (p:List UInt8) (hp:Bytes w v p) (hap:p≠[]→∀ x∈blk v,x∉G) (h:DD w0 w gd G s) (hpl:p.length≤100000000) (hn:s.now.length≤4999) (hl:s.log.length≤500000000) :
  Calls Tryz.prog 128 #[.pointer (some ⟨gd,0,none⟩),sv nm,v] w (DDoes w0 w gd G (dAppend s nm p)):=by
 have HP:=Lib.hid hp
 obtain ⟨ap,cp,rfl,hp1,hp2,-⟩:=hp
 have hcp:cp≤9223372036854775807:=by unfold maxLen at hp2;omega
 obtain ⟨gn,oa,on,ok,c0,-,hget⟩:=h.look nm (by omega)
 have HGET:=Lib.hid hget
 have C0:=Lib.hid c0
 have HD:=Lib.hid h
 have HL:=Lib.hid hl
 have HNL:=Lib.hid hn
 have HAP:=Lib.hid hap
 have htot:=h.ok.tot
 clear hget h hl hn hp2 c0 hap
 cases hok:nameOk nm with
 | false =>
  have HR:Hid (dAppend s nm p=(14,s)):=by unfold Hid dAppend;rw [hok];rfl
  have HOK:=Lib.hid hok
  clear hok
  go_enter Tryz.func128,Tryz.ntmps128
  go_wp2_with fail
  (with_reducible refine (dnamed_any w nm).mono ?_)
  rw [HOK.out]
  rintro e w1 ⟨rfl,rfl⟩
  go_wp2_with fail
  go_ret
  exact ⟨by rw [HR.out];rfl,by rw [HR.out];exact HD.out.out0 (Upd.refl _ _)⟩
 | true =>
  have HOK:=Lib.hid hok
  have HTOT:Hid (s.now.length≤100000):=by have:=HNL.out;unfold Hid;omega
  by_cases hfull:16777216 < dTotal s.now+p.length
  ·have HR:Hid (dAppend s nm p=(9,s)):=by unfold Hid dAppend;rw [hok,if_pos rfl,if_pos hfull]
   have q:(16777216:Int)-(dTotal s.now:Int) < p.length:=by omega
   have hwr:IntKind.i64.wrap (16777216-(dTotal s.now:Int))=16777216-(dTotal s.now:Int):=by rw [IntKind.wrap_i64];omega
   clear hok
   go_enter Tryz.func128,Tryz.ntmps128
   go_wp2_with fail
   (with_reducible refine (dnamed_any w nm).mono ?_)
   rw [HOK.out]
   rintro e w1 ⟨rfl,rfl⟩
   go_wp2_with fail
   (with_reducible refine (dTotal_any HD.out HTOT.out).mono ?_)
   rintro e w2 ⟨rfl,hu2⟩
   have HU2:=Lib.hid hu2
   clear hu2
   go_wp2_with fail
   go_ret
   exact ⟨by rw [HR.out];rfl,by rw [HR.out];exact HD.out.out0 HU2.out⟩
  ·have q:¬ (16777216:Int)-(dTotal s.now:Int) < p.length:=by omega
   have hwr:IntKind.i64.wrap (16777216-(dTotal s.now:Int))=16777216-(dTotal s.now:Int):=by rw [IntKind.wrap_i64];omega
   have HT:Hid (dTotal s.now+p.length≤16777216):=by unfold Hid;omega
   cases hin:inD s.now nm with
   | true =>
    have HR:Hid (dAppend s nm p=(0,dPut nm s (chunks p))):=by unfold Hid dAppend;rw [hok,if_pos rfl,if_neg hfull,hin,if_pos rfl]
    rw [hin] at HGET
    have HIN1:=Lib.hid hin
    clear hok hin hfull
    go_enter Tryz.func128,Tryz.ntmps128
    go_wp2_with fail
    (with_reducible refine (dnamed_any w nm).mono ?_)
    rw [HOK.out]
    rintro e w1 ⟨rfl,rfl⟩
    go_wp2_with fail
    (with_reducible refine (dTotal_any HD.out HTOT.out).mono ?_)
    rintro e w2 ⟨rfl,hu2⟩
    have HU2:=Lib.hid hu2
    have c0:=hu2.cell C0.out (by simp)
    clear hu2
    go_wp2_with fail
    (with_reducible refine (HGET.out w2 HU2.out).mono ?_)
    rintro e w3 ⟨rfl,hu3⟩
    have HU3:=Lib.hid (HU2.out.seq hu3)
    have D1:=Lib.hid (HD.out.upd0 HU3.out)
    have HP1:=Lib.hid (HP.out.upd0 HU3.out)
    have HLN1:Hid (s.now.length≤5000):=by have:=HNL.out;unfold Hid;omega
    have HTT1:Hid (dTotal s.now+p.length≤16777216):=HT.out
    have HLG1:Hid (s.log.length≤500000001):=by have:=HL.out;unfold Hid;omega
    clear hu3 c0 q hwr htot
    have HRUN:=Lib.hid (fun ty=>run_app (P:=Tryz.prog) (w:=w3) (ty:=ty) bv_one Tryz.underlying33 infoB8 rfl (.slice none 0 0) (.slice ap p.length cp) [] p (World.ownsRow_nil w3 (w3.heap).size _ 1) HP1.out (by simp;omega) (by simp [maxLen];omega) (Nat.le_refl _))
    go_wp2_with (at_builtin;go_must (refine wpList_app_of rfl _ _ rfl (.slice none 0 0) (.slice ap p.length cp) rfl rfl (HRUN.out _) ?_;rintro v2 w2 ⟨ho2,hu2,hk2⟩;have HU2:=Lib.hid (hu2.mono (T:=[]) (by simp [blk]));obtain ⟨⟨a2,n2,k2⟩,G2,rfl,hd2,hg2,hg2'⟩:=D1.out.bytes (l:=p) ho2 HU2.out;have HD2:=Lib.hid hd2;have HG2:=Lib.hid hg2;have HG2':=Lib.hid hg2';clear ho2 hu2 hk2 hd2 hg2 hg2' HRUN;dsimp only))
    go_loopw [2] (fun v wr=>∃ (k:Nat) (sl:Sl) (G':List Nat),k≤(chunks p).length∧v = .slice sl.a sl.n sl.k∧Hid (DP w0 wr gd G' (dPut nm s ((chunks p).take k)) sl (p.drop (32*k)))∧Hid (Upd G w3 wr)∧Hid (∀ x∈G',x∈G∨(w3.heap).size≤x)) (fun v _=>lenV v)
    case atStart=>exact ⟨0,⟨a2,n2,k2⟩,G2,Nat.zero_le _,rfl,HD2.out,HU2.out.mono (by simp),HG2.out⟩
    case round =>
     obtain ⟨k,⟨sa,sn,sk⟩,G',hk,rfl,hd,hu,hg⟩:=hrel
     clear HD2 HU2 HG2 HG2'
     have hform:=hd.out.form
     dsimp only at hform
     obtain ⟨hf1,hf2,hf3⟩:=hform
     rw [List.length_drop] at hf1
     have hcl:=chunks_len p
     by_cases hlt:k < (chunks p).length
     ·have hpos:32*k < p.length:=by omega
      obtain ⟨hw0,hstep⟩:WrOk (wPut nm ((p.drop (32*k)).take 32)) (dPut nm s ((chunks p).take k)).now∧(dPut nm s ((chunks p).take k)).log.length≤1000000000:=by
       have ih:=PutOk.all p D1.out.ok HIN1.out HLN1.out HTT1.out k hk
       have hcl2:((p.drop (32*k)).take 32).length=min 32 (p.length-32*k):=by rw [List.length_take,List.length_drop]
       have htt:=HTT1.out
       refine ⟨(ih.step ((p.drop (32*k)).take 32) (fun q=>by rw [q] at hcl2;simp at hcl2;omega) HLN1.out (by rw [hcl2];omega)).1,?_⟩
       have:=ih.log
       have:=HLG1.out
       omega
      have HWO:=Lib.hid hw0
      have HLO:=Lib.hid hstep
      have HDT:=Lib.hid (dPut_take nm s p k hlt)
      obtain ⟨m,hmd⟩:∃ m,m=min sn 32:=⟨_,rfl⟩
      have HM1:Hid ((p.drop (32*k)).take 32=(p.drop (32*k)).take m):=by
       unfold Hid
       rcases Nat.lt_or_ge sn 32 with q|q
       ·rw [List.take_of_length_le (by rw [List.length_drop];omega),List.take_of_length_le (by rw [List.length_drop];omega)]
       ·rw [show m=32 by omega]
      have HM2:Hid ((p.drop (32*k)).drop m=p.drop (32*(k+1))):=by
       unfold Hid
       rw [List.drop_drop]
       rcases Nat.lt_or_ge sn 32 with q|q
       ·rw [List.drop_of_length_le (by omega),List.drop_of_length_le (by omega)]
       ·rw [show 32*k+m=32*(k+1) by omega]
      have HM3:Hid (m≤(p.drop (32*k)).length):=by unfold Hid;rw [List.length_drop];omega
      have hm1:m≤sn:=by omega
      have hm0:0 < m:=by omega
      have HLD:Hid ((p.drop (32*k)).length=sn):=by unfold Hid;rw [List.length_drop];omega
      obtain ⟨A,hA,hcut2⟩:∃ A:Option Addr,A=(if sk=m then sa else sa.map (·.add m))∧∀ W,(Instr.slice 33 (.slice sa sn sk) (some (.int .i64 (m:Int))) none none).run Tryz.prog W = .ok (.slice A (sn-m) (sk-m)) W :=
       ⟨_,rfl,fun W=>by have h:=run_cut (P:=Tryz.prog) (size:=1) Tryz.underlying33 (by kernel_rfl) sa sn sk m hm1 W;simpa using h⟩
      have hcut1:=fun W=>run_cut_h (P:=Tryz.prog) (size:=1) Tryz.underlying33 (by kernel_rfl) sa sn sk m (by omega) W
      have HA:=Lib.hid hA
      have hpz:(0:Int) < sn:=by omega
      have HMD:=Lib.hid hmd
      clear hw0 hstep hA hf1 hcl
      have fin:Hid (∀ w' G2,DP w0 w' gd G2 (dDo (wPut nm ((p.drop (32*k)).take m)) (dPut nm s ((chunks p).take k))) ⟨sa,sn,sk⟩ (p.drop (32*k))→DP w0 w' gd G2 (dPut nm s ((chunks p).take (k+1))) ⟨A,sn-m,sk-m⟩ (p.drop (32*(k+1)))):=fun w' G2 h=>by
       have h2:=h.drop_ m HM3.out
       rw [HM2.out,HLD.out] at h2
       dsimp only at h2
       rw [← HA.out] at h2
       rw [HDT.out,HM1.out];exact h2
      rw [HM1.out] at HWO
      rcases Nat.lt_or_ge 32 sn with q|q
      ·obtain rfl:m=32:=by omega
       have q1:(32:Int) < sn:=by omega
       clear q hmd
       go_wp2_with fail
       (with_reducible refine (dpPut_any nm _ hd.out HM3.out HWO.out HLO.out).mono ?_)
       rintro e w4 ⟨rfl,G4,h4,hu4,hg4⟩
       have H4:=Lib.hid (fin.out w4 G4 h4)
       try rw [Nat.sub_self] at H4
       have HU4:Hid (Upd G w3 w4):=hu.out.trans hu4 (fun x hx=>hx) hg.out
       have HG4:Hid (∀ x∈G4,x∈G∨(w3.heap).size≤x):=fun x hx=>by
        have:=hu.out.size
        rcases hg4 x hx with r|r
        ·exact hg.out x r
        ·exact .inr (by omega)
       clear h4 hu4 hg4 fin
       go_wp2_with fail
       go_roundw
       case rel=>exact ⟨k+1,⟨A,_,_⟩,G4,by omega,by first|rfl|(rw [HA.out,if_neg (by omega)];rfl),H4,HU4,HG4⟩
       case measure=>simp [lenV];omega
      ·obtain rfl:m=sn:=by omega
       have q1:¬ (32:Int) < m:=by omega
       clear q hmd
       go_wp2_with fail
       (with_reducible refine (dpPut_any nm _ hd.out HM3.out HWO.out HLO.out).mono ?_)
       rintro e w4 ⟨rfl,G4,h4,hu4,hg4⟩
       have H4:=Lib.hid (fin.out w4 G4 h4)
       try rw [Nat.sub_self] at H4
       have HU4:Hid (Upd G w3 w4):=hu.out.trans hu4 (fun x hx=>hx) hg.out
       have HG4:Hid (∀ x∈G4,x∈G∨(w3.heap).size≤x):=fun x hx=>by
        have:=hu.out.size
        rcases hg4 x hx with r|r
        ·exact hg.out x r
        ·exact .inr (by omega)
       clear h4 hu4 hg4 fin
       go_wp2_with fail
       go_roundw
       case rel=>exact ⟨k+1,⟨A,_,_⟩,G4,by omega,by first|rfl|(rw [HA.out,if_neg (by omega)];rfl),H4,HU4,HG4⟩
       case measure=>simp [lenV];omega
     ·obtain rfl:k=(chunks p).length:=by omega
      have hz:sn=0:=by omega
      have HF:Hid (DP w0 wr gd G' (dPut nm s (chunks p)) ⟨sa,sn,sk⟩ (p.drop (32*(chunks p).length))):=by have:=hd.out;rwa [List.take_length] at this
      have HFO:=Lib.hid hf1
      clear hf1 hcl hd
      subst hz
      go_wp2_with fail
      go_ret
      exact ⟨by rw [HR.out];rfl,by rw [HR.out];exact DOut.dp HF.out (HU3.out.mono (by simp)) (fun x hx => .inl hx) hu.out hg.out⟩
   | false =>
    have HR:Hid (dAppend s nm p=(0,dPut nm (dDo (wMake nm) s) (chunks p))):=by unfold Hid dAppend;rw [hok,if_pos rfl,if_neg hfull,hin,if_neg (by simp)]
    rw [hin] at HGET
    obtain ⟨hw,hk1,hk2,hk3,hk4⟩:=HD.out.ok.make nm hin (by have:=HNL.out;omega)
    have HW:=Lib.hid hw
    have HIN1:=Lib.hid hk2
    have HLN1:Hid ((dDo (wMake nm) s).now.length≤5000):=by have:=HNL.out;unfold Hid;omega
    have HTT1:Hid (dTotal (dDo (wMake nm) s).now+p.length≤16777216):=by unfold Hid;rw [hk3];exact HT.out
    have HLG1:Hid ((dDo (wMake nm) s).log.length≤500000001):=by have:=HL.out;unfold Hid dDo;simp;omega
    have HLL:Hid (s.log.length≤1000000000):=by have:=HL.out;unfold Hid;omega
    clear hok hin hfull hw hk1 hk2 hk3 hk4
    go_enter Tryz.func128,Tryz.ntmps128
    go_wp2_with fail
    (with_reducible refine (dnamed_any w nm).mono ?_)
    rw [HOK.out]
    rintro e w1 ⟨rfl,rfl⟩
    go_wp2_with fail
    (with_reducible refine (dTotal_any HD.out HTOT.out).mono ?_)
    rintro e w2 ⟨rfl,hu2⟩
    have HU2:=Lib.hid hu2
    have c0:=hu2.cell C0.out (by simp)
    clear hu2
    go_wp2_with fail
    (with_reducible refine (HGET.out w2 HU2.out).mono ?_)
    rintro e w3 ⟨rfl,hu3⟩
    have HU3:=Lib.hid (HU2.out.seq hu3)
    clear hu3 c0 q hwr htot
    go_wp2_with fail
    (with_reducible refine (dDo_any (wMake nm) (HD.out.upd0 HU3.out) HW.out rfl HLL.out).mono ?_)
    rintro e w5 ⟨rfl,ho5⟩
    have HO5:=Lib.hid (ho5.later HU3.out)
    obtain ⟨G5,hd5,hu5,hg5⟩:=HO5.out
    have D1:=Lib.hid hd5
    have HU5:=Lib.hid hu5
    have HG5:=Lib.hid hg5
    have HP1:=Lib.hid (bytes_upd HP.out hu5 HAP.out)
    clear ho5 hd5 hu5 hg5 HO5
    have HRUN:=Lib.hid (fun ty=>run_app (P:=Tryz.prog) (w:=w5) (ty:=ty) bv_one Tryz.underlying33 infoB8 rfl (.slice none 0 0) (.slice ap p.length cp) [] p (World.ownsRow_nil w5 (w5.heap).size _ 1) HP1.out (by simp;omega) (by simp [maxLen];omega) (Nat.le_refl _))
    go_wp2_with (at_builtin;go_must (refine wpList_app_of rfl _ _ rfl (.slice none 0 0) (.slice ap p.length cp) rfl rfl (HRUN.out _) ?_;rintro v2 w2 ⟨ho2,hu2,hk2⟩;have HU2:=Lib.hid (hu2.mono (T:=[]) (by simp [blk]));obtain ⟨⟨a2,n2,k2⟩,G2,rfl,hd2,hg2,hg2'⟩:=D1.out.bytes (l:=p) ho2 HU2.out;have HD2:=Lib.hid hd2;have HG2:=Lib.hid hg2;have HG2':=Lib.hid hg2';clear ho2 hu2 hk2 hd2 hg2 hg2' HRUN;dsimp only))
    go_loopw [2] (fun v wr=>∃ (k:Nat) (sl:Sl) (G':List Nat),k≤(chunks p).length∧v = .slice sl.a sl.n sl.k∧Hid (DP w0 wr gd G' (dPut nm (dDo (wMake nm) s) ((chunks p).take k)) sl (p.drop (32*k)))∧Hid (Upd G5 w5 wr)∧Hid (∀ x∈G',x∈G5∨(w5.heap).size≤x)) (fun v _=>lenV v)
    case atStart=>exact ⟨0,⟨a2,n2,k2⟩,G2,Nat.zero_le _,rfl,HD2.out,HU2.out.mono (by simp),HG2.out⟩
    case round =>
     obtain ⟨k,⟨sa,sn,sk⟩,G',hk,rfl,hd,hu,hg⟩:=hrel
     clear HD2 HU2 HG2 HG2'
     have hform:=hd.out.form
     dsimp only at hform
     obtain ⟨hf1,hf2,hf3⟩:=hform
     rw [List.length_drop] at hf1
     have hcl:=chunks_len p
     by_cases hlt:k < (chunks p).length
     ·have hpos:32*k < p.length:=by omega
      obtain ⟨hw0,hstep⟩:WrOk (wPut nm ((p.drop (32*k)).take 32)) (dPut nm (dDo (wMake nm) s) ((chunks p).take k)).now∧(dPut nm (dDo (wMake nm) s) ((chunks p).take k)).log.length≤1000000000:=by
       have ih:=PutOk.all p D1.out.ok HIN1.out HLN1.out HTT1.out k hk
       have hcl2:((p.drop (32*k)).take 32).length=min 32 (p.length-32*k):=by rw [List.length_take,List.length_drop]
       have htt:=HTT1.out
       refine ⟨(ih.step ((p.drop (32*k)).take 32) (fun q=>by rw [q] at hcl2;simp at hcl2;omega) HLN1.out (by rw [hcl2];omega)).1,?_⟩
       have:=ih.log
       have:=HLG1.out
       omega
      have HWO:=Lib.hid hw0
      have HLO:=Lib.hid hstep
      have HDT:=Lib.hid (dPut_take nm (dDo (wMake nm) s) p k hlt)
      obtain ⟨m,hmd⟩:∃ m,m=min sn 32:=⟨_,rfl⟩
      have HM1:Hid ((p.drop (32*k)).take 32=(p.drop (32*k)).take m):=by
       unfold Hid
       rcases Nat.lt_or_ge sn 32 with q|q
       ·rw [List.take_of_length_le (by rw [List.length_drop];omega),List.take_of_length_le (by rw [List.length_drop];omega)]
       ·rw [show m=32 by omega]
      have HM2:Hid ((p.drop (32*k)).drop m=p.drop (32*(k+1))):=by
       unfold Hid
       rw [List.drop_drop]
       rcases Nat.lt_or_ge sn 32 with q|q
       ·rw [List.drop_of_length_le (by omega),List.drop_of_length_le (by omega)]
       ·rw [show 32*k+m=32*(k+1) by omega]
      have HM3:Hid (m≤(p.drop (32*k)).length):=by unfold Hid;rw [List.length_drop];omega
      have hm1:m≤sn:=by omega
      have hm0:0 < m:=by omega
      have HLD:Hid ((p.drop (32*k)).length=sn):=by unfold Hid;rw [List.length_drop];omega
      obtain ⟨A,hA,hcut2⟩:∃ A:Option Addr,A=(if sk=m then sa else sa.map (·.add m))∧∀ W,(Instr.slice 33 (.slice sa sn sk) (some (.int .i64 (m:Int))) none none).run Tryz.prog W = .ok (.slice A (sn-m) (sk-m)) W :=
       ⟨_,rfl,fun W=>by have h:=run_cut (P:=Tryz.prog) (size:=1) Tryz.underlying33 (by kernel_rfl) sa sn sk m hm1 W;simpa using h⟩
      have hcut1:=fun W=>run_cut_h (P:=Tryz.prog) (size:=1) Tryz.underlying33 (by kernel_rfl) sa sn sk m (by omega) W
      have HA:=Lib.hid hA
      have hpz:(0:Int) < sn:=by omega
      have HMD:=Lib.hid hmd
      clear hw0 hstep hA hf1 hcl
      have fin:Hid (∀ w' G2,DP w0 w' gd G2 (dDo (wPut nm ((p.drop (32*k)).take m)) (dPut nm (dDo (wMake nm) s) ((chunks p).take k))) ⟨sa,sn,sk⟩ (p.drop (32*k))→DP w0 w' gd G2 (dPut nm (dDo (wMake nm) s) ((chunks p).take (k+1))) ⟨A,sn-m,sk-m⟩ (p.drop (32*(k+1)))):=fun w' G2 h=>by
       have h2:=h.drop_ m HM3.out
       rw [HM2.out,HLD.out] at h2
       dsimp only at h2
       rw [← HA.out] at h2
       rw [HDT.out,HM1.out];exact h2
      rw [HM1.out] at HWO
      rcases Nat.lt_or_ge 32 sn with q|q
      ·obtain rfl:m=32:=by omega
       have q1:(32:Int) < sn:=by omega
       clear q hmd
       go_wp2_with fail
       (with_reducible refine (dpPut_any nm _ hd.out HM3.out HWO.out HLO.out).mono ?_)
       rintro e w4 ⟨rfl,G4,h4,hu4,hg4⟩
       have H4:=Lib.hid (fin.out w4 G4 h4)
       try rw [Nat.sub_self] at H4
       have HU4:Hid (Upd G5 w5 w4):=hu.out.trans hu4 (fun x hx=>hx) hg.out
       have HG4:Hid (∀ x∈G4,x∈G5∨(w5.heap).size≤x):=fun x hx=>by
        have:=hu.out.size
        rcases hg4 x hx with r|r
        ·exact hg.out x r
        ·exact .inr (by omega)
       clear h4 hu4 hg4 fin
       go_wp2_with fail
       go_roundw
       case rel=>exact ⟨k+1,⟨A,_,_⟩,G4,by omega,by first|rfl|(rw [HA.out,if_neg (by omega)];rfl),H4,HU4,HG4⟩
       case measure=>simp [lenV];omega
      ·obtain rfl:m=sn:=by omega
       have q1:¬ (32:Int) < m:=by omega
       clear q hmd
       go_wp2_with fail
       (with_reducible refine (dpPut_any nm _ hd.out HM3.out HWO.out HLO.out).mono ?_)
       rintro e w4 ⟨rfl,G4,h4,hu4,hg4⟩
       have H4:=Lib.hid (fin.out w4 G4 h4)
       try rw [Nat.sub_self] at H4
       have HU4:Hid (Upd G5 w5 w4):=hu.out.trans hu4 (fun x hx=>hx) hg.out
       have HG4:Hid (∀ x∈G4,x∈G5∨(w5.heap).size≤x):=fun x hx=>by
        have:=hu.out.size
        rcases hg4 x hx with r|r
        ·exact hg.out x r
        ·exact .inr (by omega)
       clear h4 hu4 hg4 fin
       go_wp2_with fail
       go_roundw
       case rel=>exact ⟨k+1,⟨A,_,_⟩,G4,by omega,by first|rfl|(rw [HA.out,if_neg (by omega)];rfl),H4,HU4,HG4⟩
       case measure=>simp [lenV];omega
     ·obtain rfl:k=(chunks p).length:=by omega
      have hz:sn=0:=by omega
      have HF:Hid (DP w0 wr gd G' (dPut nm (dDo (wMake nm) s) (chunks p)) ⟨sa,sn,sk⟩ (p.drop (32*(chunks p).length))):=by have:=hd.out;rwa [List.take_length] at this
      have HFO:=Lib.hid hf1
      clear hf1 hcl hd
      subst hz
      go_wp2_with fail
      go_ret
      exact ⟨by rw [HR.out];rfl,by rw [HR.out];exact DOut.dp HF.out HU5.out HG5.out hu.out hg.out⟩
end
end Go.Proofs.YthgnlfikneipiaaGreat
namespace Go.Proofs.YthgnlfikneipiaaGreat
open Go.RowKit
theorem ch_one {w:World} {C:Array Value} {g:Nat} (c:Ch) (hg:g=w.heap.size) (hC:C=(chCells c).toArray):RdN 2 chCells (w.alloc (.cells C 190)) (.slice (some ⟨g,0,none⟩) 1 1) [c]:=by
 subst hg;subst hC
 have hb:=Blk.new w 190 (chCells c)
 refine ⟨_,1,rfl,by simp,by simp [maxLen],fun _=>⟨w.heap.size,0,rfl,fun j hj i hi=>?_⟩⟩
 have hj0:j=0:=by simpa using hj
 subst hj0
 rw [Nat.zero_mul,Nat.zero_add,Nat.zero_add,hb.cell,nth_cons_zero]
theorem putF_le (p:List UInt8):(putF [] p).length≤262152:=by
 unfold putF
 split
 ·simp
 ·rw [List.nil_append,frameOf_len];omega
structure More (k:Nat) (s s':DS):Prop where
 ok:DOk s'
 now:s'.now.length≤s.now.length+k
 log:s'.log.length≤s.log.length+262160*k
theorem More.zero {s:DS} (h:DOk s):More 0 s s:=⟨h,by omega,by omega⟩
theorem More.append {k:Nat} {s s':DS} (h:More k s s') (nm:ByteArray) (p:List UInt8) (hp:p.length≤262152) (hn:s'.now.length≤4999):More (k+1) s (dAppend s' nm p).2:=by
 have h1:=grows_append h.ok nm p hn
 have h2:=h1.now
 have h3:=h1.log
 have h4:=h.now
 have h5:=h.log
 exact ⟨h.ok.append nm p hn,by omega,by omega⟩
theorem jLay_drop (t:JS) (k:Nat) (e:Int) (s:DS) (hk:k < t.length) (he:e=0):jLay (t.drop k) (e,s)=jLay (t.drop (k+1)) (dAppend s nmN (putF [] (encChs [nth t k]))):=by
 rw [List.drop_eq_getElem_cons hk,nth_get t k hk]
 show (if e=0 then _ else _)=_
 rw [if_pos he]
theorem jLay_stop (u:JS) (e:Int) (s:DS) (he:e≠0):jLay u (e,s)=(e,s):=by
 cases u with
 | nil=>rfl
 | cons r u=>show (if e=0 then _ else _)=_;rw [if_neg he]
section
variable {w0 w w' : World} {gd gj : Nat} {F G : List Nat} {t t' : JS} {s s' : DS}
theorem JD.app (h:JD w0 w gd gj F G t s) {v:Value} {p:List UInt8} (nm:ByteArray) (hp:Bytes w v p) (hap:p≠[]→∀ x∈blk v,x∉G) (hpl:p.length≤100000000) (hn:s.now.length≤4999) (hl:s.log.length≤500000000) {r:Int} (he:dAppend s nm p=(r,s')) :
  Calls Tryz.prog 128 #[.pointer (some ⟨gd,0,none⟩),sv nm,v] w fun e w'=>e = .returned (.int .i64 r)∧JOut w0 w gd gj (F++G) t s' w':=by
 refine (dAppend_any nm v p hp hap h.dd hpl hn hl).mono ?_
 rw [he]
 rintro e w' ⟨rfl,ho⟩
 exact ⟨rfl,h.disk ho⟩
theorem JOut.cell0 {S:List Nat} (h:JOut w0 w gd gj S t s w'):w'.cell? ⟨gj,0,none⟩=some (.pointer (some ⟨gd,0,none⟩)):=by
 obtain ⟨F',G',h1,-⟩:=h
 obtain ⟨gt,F0,c0,-⟩:=h1.cells
 exact c0
theorem jout_done {W W':World} {F1 G1:List Nat} {s1 s2:DS} (h:JD w0 W gd gj F1 G1 t s1) (hu:Upd (F++G) w W) (hf:∀ x∈F1,x∈F++G∨w.heap.size≤x) (hg:∀ x∈G1,x∈F++G∨w.heap.size≤x) (hd:DOut w0 W gd G1 s2 W'):JOut w0 w gd gj (F++G) t s2 W':=by
 obtain ⟨F',G',k1,k2,k3,k4⟩:=(show ∃ F' G',_ from h.disk hd)
 have hs:=hu.size
 have hin:∀ x∈F1++G1,x∈F++G∨w.heap.size≤x:=fun x hx=>by
  rcases List.mem_append.1 hx with q|q
  ·exact hf x q
  ·exact hg x q
 have key:∀ x,x∈F1++G1∨W.heap.size≤x→x∈F++G∨w.heap.size≤x:=fun x hx=>by
  rcases hx with q|q
  ·exact hin x q
  ·exact .inr (by omega)
 exact ⟨F',G',k1,hu.trans k2 (fun x hx=>hx) hin,fun x hx=>key x (k3 x hx),fun x hx=>key x (k4 x hx)⟩
set_option maxRecDepth 20000 in
set_option maxHeartbeats 8000000 in
theorem anew_any (h:JD w0 w gd gj F G t s) (hn:s.now.length≤4900) (hl:s.log.length≤480000000) :
  Calls Tryz.prog 131 #[.pointer (some ⟨gj,0,none⟩)] w fun e w'=>e = .returned (.tuple #[])∧JOut w0 w gd gj (F++G) t (jAnew t s) w':=by
 obtain ⟨e0,s0',hap0⟩:∃ e s',dAppend s nmN []=(e,s'):=⟨_,_,rfl⟩
 obtain ⟨e9,s9,hlay⟩:∃ e s',jLay t (e0,s0')=(e,s'):=⟨_,_,rfl⟩
 have HLAY:Hid (jLay (t.drop 0) (e0,s0')=(e9,s9)):=hlay
 have HAN:Hid (jAnew t s=if e9≠0 then (dRemove s9 nmN).2 else (dRename s9 nmN nmJ).2):=by unfold Hid jAnew;rw [hap0,hlay]
 have HM0:Hid (More 1 s s0'):=by
  have:=(More.zero h.dd.ok).append nmN [] (by simp) (by omega)
  rw [hap0] at this;exact this
 have HAP0:=Lib.hid hap0
 have HD:=Lib.hid h
 have HN:=Lib.hid hn
 have HL:=Lib.hid hl
 have HJT:=Lib.hid h.jt
 have ht41:=h.jt.len
 obtain ⟨gt,F0,c0,c1,-,-⟩:=h.cells
 clear h hn hl hap0 hlay
 go_enter Tryz.func131,Tryz.ntmps131
 go_wp2_with fail
 (with_reducible refine (HD.out.app nmN (Rd.nil w) (fun q=>absurd rfl q) (by simp) (by have:=HN.out;omega) (by have:=HL.out;omega) HAP0.out).mono ?_)
 rintro e w1 ⟨rfl,ho1⟩
 have HO1:=Lib.hid ho1
 clear ho1 c0 c1
 go_wp2_with fail
 go_loopw [2,3] (fun ve vi wr=>∃ (k:Nat) (e:Int) (sk:DS),ve = .int .i64 e∧vi = .int .i64 (k:Int)∧k≤t.length∧Hid (JOut w0 w gd gj (F++G) t sk wr)∧Hid (jLay (t.drop k) (e,sk)=(e9,s9))∧Hid (More (k+1) s sk)) (fun _ vi _=>t.length-(intOf vi).toNat)
 case atStart=>exact ⟨0,e0,s0',rfl,rfl,Nat.zero_le _,HO1,HLAY,HM0⟩
 case round =>
  clear HO1 HLAY HM0 HAP0
  obtain ⟨k,ek,sk,rfl,rfl,hk,ho,hlay,hm⟩:=hrel
  have hMn:=hm.out.now
  have hMl:=hm.out.log
  have HSZ:Hid (sk.now.length≤4990∧sk.log.length≤495000000):=by have:=HN.out;have:=HL.out;unfold Hid;omega
  clear hMn hMl
  obtain ⟨Fk,Gk,hj,hu,hf,hg⟩:=(show ∃ F' G',_ from ho.out)
  have HJ:=Lib.hid hj
  have HU:=Lib.hid hu
  have HF:=Lib.hid hf
  have HG:=Lib.hid hg
  obtain ⟨gt,F0,c0,c1,ht,-⟩:=hj.cells
  have HT:=Lib.hid ht
  clear hj hu hf hg ho ht
  by_cases hlt:k < t.length
  ·have q1:(k:Int) < t.length:=by omega
   by_cases he:ek=0
   ·subst he
    have hmem:=nth_mem (l:=t) k hlt
    have hok:=HJT.out.ks _ hmem
    have hat:=tAt_at (0:Int) s0 t k hlt
    have hdr:=jLay_drop t k 0 sk hlt rfl
    generalize nth t k=row at *
    obtain ⟨rk,rd⟩:=row
    have h1:=hok.lo
    have h2:=hok.hi
    have h3:=hok.sz
    dsimp only at h1 h2 h3 hat
    obtain ⟨e1,s1,hap⟩:∃ e s',dAppend sk nmN (putF [] (encChs [(rk,rd)]))=(e,s'):=⟨_,_,rfl⟩
    rw [hap] at hdr
    have HLAY:Hid (jLay (t.drop (k+1)) (e1,s1)=(e9,s9)):=by unfold Hid;rw [← hdr];exact hlay.out
    have HAP:=Lib.hid hap
    have HAT:=Lib.hid hat
    have hpl:=putF_le (encChs [(rk,rd)])
    have HM1:Hid (More (k+2) s s1):=by have:=hm.out.append nmN _ hpl (by have:=HSZ.out;omega);rw [hap] at this;exact this
    have HPL:=Lib.hid hpl
    have HROW:Hid (∀ c∈[(rk,rd)],I64 c.1∧c.2.size≤1000000):=by
     intro c hc
     simp at hc
     subst hc
     exact ⟨i64_mk (by dsimp only;omega) (by dsimp only;omega),by dsimp only;omega⟩
    have HEL:Hid ((encChs [(rk,rd)]).length≤140737488351232):=by
     have:=encCh_le rk rd (i64_mk (by omega) (by omega)) (by omega)
     have h9:=encNum_len 1
     have h8:=nb_le8 1 (by omega)
     unfold Hid;rw [encChs_one,List.length_append];omega
    have HI:Hid (I64 (k:Int)):=i64_mk (by omega) (by omega)
    clear hmem hok h1 h2 h3 hat hdr hap hpl hlay hm
    go_wp2_with fail
    (with_reducible refine (txIS_Len (t.length:Int) HT.out rfl).mono ?_)
    rintro e w2 ⟨rfl,rfl⟩
    go_wp2_with fail
    (with_reducible refine (txIS_At (k:Int) rk rd true HI.out HT.out (by omega) HAT.out).mono ?_)
    rintro e w3 ⟨rfl,hu3⟩
    have HJ3:=Lib.hid (HJ.out.upd0 hu3)
    have HU3:Hid (Upd (F++G) w w3):=HU.out.trans hu3 (fun x hx=>hx) (by simp)
    have d0:=hu3.cell c0 (by simp)
    have D0:=Lib.hid d0
    have HS3:Hid (∀ x∈Gk,x < w3.heap.size):=fun x hx=>(HJ3.out.dd.ge x hx).2
    clear hu3 HJ HU HT c0 c1
    have HC1:Hid (∀ W g,RdN 2 chCells W (.slice (some ⟨g,0,none⟩) 1 1) [(rk,rd)]→Upd [] w3 W→Calls Tryz.prog 127 #[.slice (some ⟨g,0,none⟩) 1 1] W fun e w'=>∃ a n k,e = .returned (.slice a n k)∧Hid (Own bv w3.heap.size 5 w' (.slice a n k) (encChs [(rk,rd)]))∧Upd [] w3 w'):=fun W g hr hW=>by
     refine (payload_any _ [(rk,rd)] W hr HROW.out (by simp)).mono ?_
     rintro e w' ⟨v,rfl,ho,hu⟩
     obtain ⟨a,k,rfl,-⟩:=ho.rd
     exact ⟨a,_,k,rfl,ho.base_le hW.size,hW.seq hu⟩
    have HC2:Hid (∀ W a n k,Own bv w3.heap.size 5 W (.slice a n k) (encChs [(rk,rd)])→Upd [] w3 W→Calls Tryz.prog 129 #[.slice none 0 0,.slice a n k] W fun e w'=>∃ a n k,e = .returned (.slice a n k)∧Hid (Own bv w3.heap.size 5 w' (.slice a n k) (putF [] (encChs [(rk,rd)])))∧Upd [] w3 w'):=fun W a n k ho hW=>by
     refine (fPut_any _ _ [] (encChs [(rk,rd)]) W (Rd.nil _) ho.rd (by simp) HEL.out).mono ?_
     rintro e w' ⟨v,rfl,ho2,hu⟩
     obtain ⟨a,k,rfl,-⟩:=ho2.rd
     exact ⟨a,_,k,rfl,ho2.base_le hW.size,hW.seq hu⟩
    have HC3:Hid (∀ W a n k,Own bv w3.heap.size 5 W (.slice a n k) (putF [] (encChs [(rk,rd)]))→Upd [] w3 W→Calls Tryz.prog 128 #[.pointer (some ⟨gd,0,none⟩),sv nmN,.slice a n k] W fun e w'=>e = .returned (.int .i64 e1)∧Hid (JOut w0 w3 gd gj (Fk++Gk) t s1 w')∧Upd (Fk++Gk) w3 w'):=fun W a n k ho hW=>by
     refine ((HJ3.out.upd0 hW).app nmN ho.rd (fun _ x hx hg=>by have:=(ho.ge x hx).1;have:=HS3.out x hg;omega) (by have:=HPL.out;omega) (by have:=HSZ.out;omega) (by have:=HSZ.out;omega) HAP.out).mono ?_
     rintro e w' ⟨rfl,hd⟩
     have h1:=JOut.later hW hd
     exact ⟨rfl,h1,by obtain ⟨F',G',k1,k2,k3,k4⟩:=(show ∃ F' G',_ from h1);exact k2⟩
    have ru:=Upd.refl [] w3
    go_wp2_with fail
    go_region_held3 (fun W=>W.cell? ⟨gj,0,none⟩=some (.pointer (some ⟨gd,0,none⟩))) (first|go_keep|exact ru.cell D0.out (by simp)|exact jc0)
     (first
      | (go_at_call 127;(with_reducible refine (HC1.out _ _ ?_ (Upd.seq ru ?_)).mono ?_);(first|exact ch_one _ (by simp) rfl|exact RdN.upd0 chCells_len (ch_one _ (by simp) rfl) (by repeat (first|exact Upd.refl _ _|apply Upd.drew|apply Upd.drewN)));(repeat (first|exact Upd.refl _ _|apply Upd.drew|apply Upd.drewN|apply Upd.alloc));(rintro _ W1 ⟨a1,n1,k1,rfl,ho1,ru⟩;dsimp only))
      | (go_at_call 129;(with_reducible refine (HC2.out _ a1 n1 k1 (Own.upd (S:=[]) ho1.out ?_ (by simp)) (Upd.seq ru ?_)).mono ?_);(repeat (first|exact Upd.refl _ _|apply Upd.drew|apply Upd.drewN|apply Upd.alloc));(rintro _ W2 ⟨a2,n2,k2,rfl,ho2,ru⟩;dsimp only))
      | (go_at_call 128;(with_reducible refine (HC3.out _ a2 n2 k2 (Own.upd (S:=[]) ho2.out ?_ (by simp)) (Upd.seq ru ?_)).mono ?_);(repeat (first|exact Upd.refl _ _|apply Upd.drew|apply Upd.drewN|apply Upd.alloc));(rintro _ W3 ⟨rfl,hd3,ru3⟩;have jc0:=JOut.cell0 hd3.out;dsimp only)))
    all_goals
     have HO3:Hid (JOut w0 w gd gj (F++G) t s1 W3):=by
      have hin:∀ x∈Fk++Gk,x∈F++G∨w.heap.size≤x:=fun x hx=>by
       rcases List.mem_append.1 hx with q|q
       ·exact HF.out x q
       ·exact HG.out x q
      obtain ⟨F',G',k1,k2,k3,k4⟩:=(show ∃ F' G',_ from hd3.out)
      have hs:=HU3.out.size
      have key:∀ x,x∈Fk++Gk∨w3.heap.size≤x→x∈F++G∨w.heap.size≤x:=fun x hx=>by
       rcases hx with q|q
       ·exact hin x q
       ·exact .inr (by omega)
      exact ⟨F',G',k1,HU3.out.trans k2 (fun x hx=>hx) hin,fun x hx=>key x (k3 x hx),fun x hx=>key x (k4 x hx)⟩
     clear hd3 ru3 ho1 ho2 ru HC1 HC2 HC3 d0 D0 HJ3 HU3 jc0
     go_wp2_with fail
     go_roundw
     case rel=>exact ⟨k+1,e1,s1,rfl,by go_num,by omega,HO3,HLAY,HM1⟩
     case measure=>simp [intOf];omega
   ·have t2:(ek==0)=false:=by rw [beq_eq_false_iff_ne];exact he
    have hst:=jLay_stop (t.drop k) ek sk he
    have HEQ:Hid (ek=e9∧sk=s9):=by
     have:=hlay.out
     rw [hst] at this
     injection this with h1 h2
     exact ⟨h1,h2⟩
    obtain ⟨rfl,rfl⟩:=HEQ.out
    have ez:(ek != 0)=true:=by rw [bne_iff_ne];exact he
    have HA2:Hid (jAnew t s=(dRemove sk nmN).2):=by unfold Hid;rw [HAN.out,if_pos he]
    clear hst he hlay hm
    go_wp2_with fail
    (with_reducible refine (txIS_Len (t.length:Int) HT.out rfl).mono ?_)
    rintro e w2 ⟨rfl,rfl⟩
    go_wp2_with fail
    (with_reducible refine (dRemove_any nmN HJ.out.dd (by have:=HSZ.out;omega) (by have:=HSZ.out;omega)).mono ?_)
    rintro e w5 ⟨rfl,hd5⟩
    have HZ:=Lib.hid (jout_done HJ.out HU.out HF.out HG.out hd5)
    clear hd5
    go_wp2_with fail
    ((try simp only [Exit.inBlock,Exit.then]);refine bodyPost_ret (results_none rfl _ _ _) rfl ?_)
    exact ⟨rfl,by rw [HA2.out];exact HZ.out⟩
  ·obtain rfl:k=t.length:=by omega
   have q1:¬ (t.length:Int) < t.length:=by omega
   have HEQ:Hid (ek=e9∧sk=s9):=by
    have:=hlay.out
    rw [List.drop_length] at this
    injection this with h1 h2
    exact ⟨h1,h2⟩
   obtain ⟨rfl,rfl⟩:=HEQ.out
   by_cases he:ek=0
   ·subst he
    have HA2:Hid (jAnew t s=(dRename sk nmN nmJ).2):=by unfold Hid;rw [HAN.out,if_neg (fun q=>q rfl)]
    clear hlay hm
    go_wp2_with fail
    (with_reducible refine (txIS_Len (t.length:Int) HT.out rfl).mono ?_)
    rintro e w2 ⟨rfl,rfl⟩
    go_wp2_with fail
    (with_reducible refine (dRename_any nmN nmJ HJ.out.dd (by have:=HSZ.out;omega) (by have:=HSZ.out;omega)).mono ?_)
    rintro e w5 ⟨rfl,hd5⟩
    have HZ:=Lib.hid (jout_done HJ.out HU.out HF.out HG.out hd5)
    clear hd5
    go_wp2_with fail
    go_end0
    exact ⟨rfl,by rw [HA2.out];exact HZ.out⟩
   ·have ez:(ek != 0)=true:=by rw [bne_iff_ne];exact he
    have HA2:Hid (jAnew t s=(dRemove sk nmN).2):=by unfold Hid;rw [HAN.out,if_pos he]
    clear he hlay hm
    go_wp2_with fail
    (with_reducible refine (txIS_Len (t.length:Int) HT.out rfl).mono ?_)
    rintro e w2 ⟨rfl,rfl⟩
    go_wp2_with fail
    (with_reducible refine (dRemove_any nmN HJ.out.dd (by have:=HSZ.out;omega) (by have:=HSZ.out;omega)).mono ?_)
    rintro e w5 ⟨rfl,hd5⟩
    have HZ:=Lib.hid (jout_done HJ.out HU.out HF.out HG.out hd5)
    clear hd5
    go_wp2_with fail
    ((try simp only [Exit.inBlock,Exit.then]);refine bodyPost_ret (results_none rfl _ _ _) rfl ?_)
    exact ⟨rfl,by rw [HA2.out];exact HZ.out⟩
end
end Go.Proofs.YthgnlfikneipiaaGreat
namespace Go.Proofs.YthgnlfikneipiaaGreat
open Go.RowKit
theorem chBad_no {l:List Ch} (h:∀ j,j < l.length→0≤(nth l j).1∧(nth l j).1≤40):chBad l=false:=by
 unfold chBad
 cases hb:l.any fun c=>decide (c.1 < 0∨40 < c.1) with
 | false=>rfl
 | true =>
  obtain ⟨x,hx,hd⟩:=List.any_eq_true.1 hb
  obtain ⟨j,hj,rfl⟩:=List.mem_iff_getElem.1 hx
  have h1:=h j hj
  rw [nth_get _ _ hj] at h1
  have h2:=of_decide_eq_true hd
  omega
theorem chBad_yes {l:List Ch} (j:Nat) (hj:j < l.length) (h:(nth l j).1 < 0∨40 < (nth l j).1):chBad l=true:=by
 unfold chBad
 rw [List.any_eq_true]
 exact ⟨nth l j,by rw [nth_get _ _ hj];exact List.getElem_mem _,decide_eq_true h⟩
theorem encCh_size (c:Ch):c.2.size≤(encCh c).length:=by
 have:=encText_len c.2
 unfold encCh
 rw [List.length_append];omega
theorem chs_size {l:List Ch} {c:Ch} (hc:c∈l):c.2.size≤(encChs l).length:=by
 have h1:=one_le hc
 have h2:=encCh_size c
 rw [encChs_one,List.length_append] at h1
 omega
section
variable {w0 w w' : World} {gd gj : Nat} {F G : List Nat} {t t' : JS} {s s' : DS}
set_option maxRecDepth 20000 in
set_option maxHeartbeats 8000000 in
theorem jset_any (u:Value) (l:List Ch) (h:JD w0 w gd gj F G t s) (hl:RdN 2 chCells w u l) (hap:∀ x∈blk u,x∉F++G) (hI:∀ c∈l,I64 c.1∧c.2.size≤1000000) (hn:s.now.length≤4890) (hlg:s.log.length≤470000000) :
  Calls Tryz.prog 76 #[.pointer (some ⟨gj,0,none⟩),u] w fun e w'=>e = .returned (.int .i64 (jSet t s l).1)∧JOut w0 w gd gj (F++G) (jSet t s l).2.1 (jSet t s l).2.2 w':=by
 have HL:=Lib.hid hl
 have HAP:=Lib.hid hap
 have HI:=Lib.hid hI
 have HD:=Lib.hid h
 have HN:=Lib.hid hn
 have HLG:=Lib.hid hlg
 obtain ⟨ua,uk,rfl,hlc,hm,-⟩:=hl
 have hm2:uk≤9223372036854775807:=by unfold maxLen at hm;omega
 clear h hap hI hn hlg hm
 by_cases hbad:l.length < 1∨41 < l.length
 ·have HE:Hid (jSet t s l=(1,t,s)):=by unfold Hid jSet;rw [if_pos hbad]
  go_enter Tryz.func76,Tryz.ntmps76
  rcases hbad with q|q
  ·have q1:(l.length:Int) < 1:=by omega
   clear q
   go_wp2_with fail
   go_ret
   exact ⟨by rw [HE.out];rfl,by rw [HE.out];exact HD.out.out0 (Upd.refl _ _)⟩
  ·have q1:¬ (l.length:Int) < 1:=by omega
   have q2:(41:Int) < l.length:=by omega
   clear q
   go_wp2_with fail
   go_ret
   exact ⟨by rw [HE.out];rfl,by rw [HE.out];exact HD.out.out0 (Upd.refl _ _)⟩
 ·have q1:¬ (l.length:Int) < 1:=by omega
  have q2:¬ (41:Int) < l.length:=by omega
  have HE:Hid (jSet t s l=if chBad l=true then (1,t,s) else if 262144 < (encChs l).length then (2,t,s) else if (dAppend s nmJ (putF [] (encChs l))).1≠0 then ((dAppend s nmJ (putF [] (encChs l))).1,t,(dAppend s nmJ (putF [] (encChs l))).2) else (0,jAll t l,if 262144 < (dGet (dAppend s nmJ (putF [] (encChs l))).2.now nmJ).1.length then jAnew (jAll t l) (dAppend s nmJ (putF [] (encChs l))).2 else (dAppend s nmJ (putF [] (encChs l))).2)):=by
   unfold Hid;exact if_neg hbad
  have hl41:l.length≤41:=by omega
  have hl1:1≤l.length:=by omega
  clear hbad
  go_enter Tryz.func76,Tryz.ntmps76
  go_wp2_with fail
  go_loopw [6,19] (fun y i wr=>∃ k:Nat,i = .int .i64 (k:Int)∧k≤l.length∧Hid (Upd [] w wr)∧Hid (∀ j,j < k→0≤(nth l j).1∧(nth l j).1≤40)) (fun _ i _=>l.length-(intOf i).toNat)
  case atStart=>exact ⟨0,rfl,Nat.zero_le _,Upd.refl _ _,fun j hj=>absurd hj (by omega)⟩
  case round =>
   obtain ⟨k,rfl,hk,hu,hgood⟩:=hrel
   by_cases hlt:k < l.length
   ·have hrd:=HL.out.upd0 chCells_len hu.out
    obtain ⟨a9,c9,he9,-,-,hca⟩:=hrd
    injection he9 with e1 e2 e3
    subst e1;subst e3
    obtain ⟨b,off,rfl,hcb⟩:=hca (by intro e;rw [e] at hlt;simp at hlt)
    have hc0:∀ i,i < 2→wr.cell? ⟨b,off+(k*2+i),none⟩=(chCells (nth l k))[i]?:=hcb k hlt
    have HBD:Hid (((nth l k).1 < 0∨40 < (nth l k).1)→chBad l=true):=fun q=>chBad_yes k hlt q
    have HGD:Hid (0≤(nth l k).1∧(nth l k).1≤40→∀ j,j < k+1→0≤(nth l j).1∧(nth l j).1≤40):=fun q j hj=>by
     rcases Nat.lt_or_eq_of_le (Nat.le_of_lt_succ hj) with r|r
     ·exact hgood.out j r
     ·subst r;exact q
    generalize nth l k=x at *
    obtain ⟨ck,cd⟩:=x
    dsimp only at HBD HGD
    have c0:wr.cell? ⟨b,off+k*2,none⟩=some (.int .i64 ck):=hc0 0 (by omega)
    have c1:wr.cell? ⟨b,off+k*2+1,none⟩=some (.string cd):=hc0 1 (by omega)
    have q3:(0:Int)≤k:=by omega
    have q4:(k:Int) < l.length:=by omega
    have hu5:Upd [] wr (wr.alloc (.cells #[.int .i64 ck,.string cd] 190)):=(Upd.refl [] wr).alloc _
    have HU5:=Lib.hid (hu.out.seq hu5)
    clear hca hcb hc0 hgood hu5
    by_cases hlo:ck < 0
    ·have HE2:Hid (jSet t s l=(1,t,s)):=by unfold Hid;rw [HE.out,if_pos (HBD.out (.inl hlo))]
     clear HBD HGD
     go_wp2_with fail
     go_ret
     exact ⟨by rw [HE2.out];rfl,by rw [HE2.out];exact HD.out.out0 HU5.out⟩
    ·by_cases hhi:40 < ck
     ·have HE2:Hid (jSet t s l=(1,t,s)):=by unfold Hid;rw [HE.out,if_pos (HBD.out (.inr hhi))]
      clear HBD HGD
      go_wp2_with fail
      go_ret
      exact ⟨by rw [HE2.out];rfl,by rw [HE2.out];exact HD.out.out0 HU5.out⟩
     ·have HG2:=Lib.hid (HGD.out ⟨by omega,by omega⟩)
      clear HBD HGD
      go_wp2_with fail
      go_roundw
      case rel=>exact ⟨k+1,by go_num,by omega,HU5,HG2⟩
      case measure=>simp [intOf];omega
   ·obtain rfl:k=l.length:=by omega
    have hcb:=chBad_no hgood.out
    have HIN:Hid (∀ c∈l,0≤c.1∧c.1≤40):=fun c hc=>by
     obtain ⟨j,hj,rfl⟩:=List.mem_iff_getElem.1 hc
     have:=hgood.out j hj
     rwa [nth_get _ _ hj] at this
    have HE2:=Lib.hid (HE.out.trans (if_neg (by rw [hcb];simp)))
    have HL1:=Lib.hid (HL.out.upd0 chCells_len hu.out)
    have HD1:=Lib.hid (HD.out.upd0 hu.out)
    have HSZL:=Lib.hid (fun c hc=>chs_size (l:=l) (c:=c) hc)
    have HUB:Hid (l≠[]→∀ x∈blk (.slice ua l.length uk),x < wr.heap.size):=fun _ x hx=>by
     obtain ⟨a9,c9,he9,-,-,hca⟩:=HL1.out
     injection he9 with e1 e2 e3
     subst e1
     obtain ⟨b,off,rfl,hcb⟩:=hca (by intro e;rw [e] at hl1;simp at hl1)
     simp [blk] at hx
     subst hx
     have h1:=hcb 0 (by omega) 0 (by omega)
     have h2:(chCells (nth l 0))[0]?=some (.int .i64 (nth l 0).1):=rfl
     rw [h2] at h1
     exact World.block_lt_of_cell? _ _ h1
    clear hcb hgood HE
    go_wp2_with fail
    (with_reducible refine (payload_any _ l wr HL1.out HI.out (by omega)).mono ?_)
    rintro e w2 ⟨v2,rfl,ho2,hu2⟩
    obtain ⟨p,hp⟩:∃ p,encChs l=p:=⟨_,rfl⟩
    rw [hp] at ho2 HE2 HSZL
    have HP:=Lib.hid hp
    have HO2:=Lib.hid ho2
    have HU2:=Lib.hid (hu.out.seq hu2)
    have HL2:=Lib.hid (HL1.out.upd0 chCells_len hu2)
    have HD2:=Lib.hid (HD1.out.upd0 hu2)
    have HUB2:Hid (l≠[]→∀ x∈blk (.slice ua l.length uk),x < w2.heap.size):=fun q x hx=>Nat.lt_of_lt_of_le (HUB.out q x hx) hu2.size
    have HGW:Hid (∀ x∈G,x < wr.heap.size):=fun x hx=>(HD1.out.dd.ge x hx).2
    have HRW:Hid (wr.heap.size≤w2.heap.size):=hu2.size
    obtain ⟨pa,pk,rfl,-⟩:=ho2.rd
    clear hp ho2 hu2 hu HL1 HD1 HUB
    by_cases hlong:262144 < p.length
    ·have q5:(262144:Int) < p.length:=by omega
     have HE3:Hid (jSet t s l=(2,t,s)):=by unfold Hid;rw [HE2.out,if_pos hlong]
     clear HE2 hlong
     go_wp2_with fail
     go_ret
     exact ⟨by rw [HE3.out];rfl,by rw [HE3.out];exact HD.out.out0 HU2.out⟩
    ·have q5:¬ (262144:Int) < p.length:=by omega
     have HPL:Hid (p.length≤262144):=by unfold Hid;omega
     obtain ⟨e1,s1,hap⟩:∃ e s',dAppend s nmJ (putF [] p)=(e,s'):=⟨_,_,rfl⟩
     have HE3:=Lib.hid (HE2.out.trans (if_neg hlong))
     rw [hap] at HE3
     have HAP1:=Lib.hid hap
     have HFL:=Lib.hid (putF_le p)
     have HM1:Hid (More 1 s s1):=by have:=(More.zero HD.out.dd.ok).append nmJ _ HFL.out (by have:=HN.out;omega);rw [hap] at this;exact this
     have HCHK:Hid (∀ c∈l,ChOk c):=fun c hc=>⟨(HIN.out c hc).1,(HIN.out c hc).2,by have:=HSZL.out c hc;have:=HPL.out;omega⟩
     clear hap HE2 hlong
     obtain ⟨gt,F0,c0,-,-,-⟩:=HD2.out.cells
     have D0:=Lib.hid c0
     have HC2:Hid (∀ W,Upd [] w2 W→Calls Tryz.prog 129 #[.slice none 0 0,.slice pa p.length pk] W fun e w'=>∃ a n k,e = .returned (.slice a n k)∧Hid (Own bv w2.heap.size 5 w' (.slice a n k) (putF [] p))∧Upd [] w2 w'):=fun W hW=>by
      refine (fPut_any _ _ [] p W (Rd.nil _) (HO2.out.rd.upd0 hW) (by simp) (by have:=HPL.out;omega)).mono ?_
      rintro e w' ⟨v,rfl,ho2,hu⟩
      obtain ⟨a,k,rfl,-⟩:=ho2.rd
      exact ⟨a,_,k,rfl,ho2.base_le hW.size,hW.seq hu⟩
     have HC3:Hid (∀ W a n k,Own bv w2.heap.size 5 W (.slice a n k) (putF [] p)→Upd [] w2 W→Calls Tryz.prog 128 #[.pointer (some ⟨gd,0,none⟩),sv nmJ,.slice a n k] W fun e w'=>e = .returned (.int .i64 e1)∧Hid (JOut w0 w2 gd gj (F++G) t s1 w')∧Upd (F++G) w2 w'):=fun W a n k ho hW=>by
      refine ((HD2.out.upd0 hW).app nmJ ho.rd (fun _ x hx hg=>by have:=(ho.ge x hx).1;have:=HGW.out x hg;have:=HRW.out;omega) (by have:=HFL.out;omega) (by have:=HN.out;omega) (by have:=HLG.out;omega) HAP1.out).mono ?_
      rintro e w' ⟨rfl,hd⟩
      have h1:=JOut.later hW hd
      exact ⟨rfl,h1,by obtain ⟨F',G',k1,k2,k3,k4⟩:=(show ∃ F' G',_ from h1);exact k2⟩
     have ru:=Upd.refl [] w2
     go_wp2_with fail
     go_region_held3 (fun W=>W.cell? ⟨gj,0,none⟩=some (.pointer (some ⟨gd,0,none⟩))) (first|go_keep|exact ru.cell D0.out (by simp)|exact jc0)
      (first
       | (go_at_call 129;(with_reducible refine (HC2.out _ (Upd.seq ru ?_)).mono ?_);(repeat (first|exact Upd.refl _ _|apply Upd.drew|apply Upd.drewN|apply Upd.alloc));(rintro _ W2 ⟨a2,n2,k2,rfl,ho2,ru⟩;dsimp only))
       | (go_at_call 128;(with_reducible refine (HC3.out _ a2 n2 k2 (Own.upd (S:=[]) ho2.out ?_ (by simp)) (Upd.seq ru ?_)).mono ?_);(repeat (first|exact Upd.refl _ _|apply Upd.drew|apply Upd.drewN|apply Upd.alloc));(rintro _ W3 ⟨rfl,hd3,ru3⟩;have jc0:=JOut.cell0 hd3.out;dsimp only)))
     all_goals
      have HO3:Hid (JOut w0 w gd gj (F++G) t s1 W3):=JOut.later HU2.out hd3.out
      obtain ⟨F3,G3,k31,k32,k33,k34⟩:=(show ∃ F' G',_ from hd3.out)
      have HJ3:=Lib.hid k31
      have HU3:Hid (Upd (F++G) w W3):=HU2.out.trans k32 (by simp) (fun x hx => .inl hx)
      have hs2:=HU2.out.size
      have HF3:Hid (∀ x∈F3,x∈F++G∨w.heap.size≤x):=fun x hx=>(k33 x hx).imp id (fun q=>by omega)
      have HG3:Hid (∀ x∈G3,x∈F++G∨w.heap.size≤x):=fun x hx=>(k34 x hx).imp id (fun q=>by omega)
      have HL3:=Lib.hid (HL2.out.upd chCells_len k32 HAP.out)
      have HA3:Hid (∀ x∈blk (.slice ua l.length uk),x∉F3):=fun x hx hf=>by
       rcases k33 x hf with q|q
       ·exact HAP.out x hx q
       ·have:=HUB2.out (by intro e;rw [e] at hl1;simp at hl1) x hx;omega
      clear hd3 ru3 ho2 ru HC2 HC3 c0 D0 k31 k32 k33 k34 jc0 HL2 HD2
      by_cases he:e1=0
      ·subst he
       have HE4:=Lib.hid (HE3.out.trans (if_neg (fun q=>q rfl)))
       clear HE3
       go_wp2_with fail
       (with_reducible refine (hold_any _ l HJ3.out HL3.out HA3.out HCHK.out).mono ?_)
       rintro e w5 ⟨rfl,F5,h5,hu5,hf5⟩
       have H5:=Lib.hid h5
       have HU5:Hid (Upd (F++G) w w5):=HU3.out.trans hu5 (fun x hx=>hx) (fun x hx=>HF3.out x hx)
       have hs3:=HU3.out.size
       have HF5:Hid (∀ x∈F5,x∈F++G∨w.heap.size≤x):=fun x hx=>by
        rcases hf5 x hx with q|q
        ·exact HF3.out x q
        ·exact .inr (by omega)
       have HN5:Hid (s1.now.length≤4900∧s1.log.length≤480000000):=by have h1:=HM1.out.now;have h2:=HM1.out.log;have:=HN.out;have:=HLG.out;unfold Hid;omega
       clear h5 hu5 hf5 HJ3 HL3 HA3 HU3 HO3
       go_wp2_with fail
       (with_reducible refine (jsize_any nmJ H5.out (by have:=HN5.out;omega)).mono ?_)
       rintro e w6 ⟨rfl,hu6⟩
       have H6:=Lib.hid (H5.out.upd0 hu6)
       have HU6:Hid (Upd (F++G) w w6):=HU5.out.trans hu6 (fun x hx=>hx) (by simp)
       have HZL:Hid ((dGet s1.now nmJ).1.length=jLen s1 nmJ):=rfl
       rw [HZL.out] at HE4
       generalize jLen s1 nmJ=zl at *
       clear hu6 H5 HU5
       by_cases hz:262144 < zl
       ·have q6:(262144:Int) < zl:=by omega
        have HE5:Hid (jSet t s l=(0,jAll t l,jAnew (jAll t l) s1)):=by unfold Hid;rw [HE4.out,if_pos hz]
        clear HE4 hz
        go_wp2_with fail
        (with_reducible refine (anew_any H6.out HN5.out.1 HN5.out.2).mono ?_)
        rintro e w7 ⟨rfl,ho7⟩
        have HZ:Hid (JOut w0 w gd gj (F++G) (jAll t l) (jAnew (jAll t l) s1) w7):=by
         obtain ⟨F7,G7,k1,k2,k3,k4⟩:=(show ∃ F' G',_ from ho7)
         have hs6:=HU6.out.size
         have hin:∀ x∈F5++G3,x∈F++G∨w.heap.size≤x:=fun x hx=>by
          rcases List.mem_append.1 hx with q|q
          ·exact HF5.out x q
          ·exact HG3.out x q
         have key:∀ x,x∈F5++G3∨w6.heap.size≤x→x∈F++G∨w.heap.size≤x:=fun x hx=>by
          rcases hx with q|q
          ·exact hin x q
          ·exact .inr (by omega)
         exact ⟨F7,G7,k1,HU6.out.trans k2 (fun x hx=>hx) hin,fun x hx=>key x (k3 x hx),fun x hx=>key x (k4 x hx)⟩
        clear ho7
        go_wp2_with fail
        go_ret
        exact ⟨by rw [HE5.out];rfl,by rw [HE5.out];exact HZ.out⟩
       ·have q6:¬ (262144:Int) < zl:=by omega
        have HE5:Hid (jSet t s l=(0,jAll t l,s1)):=by unfold Hid;rw [HE4.out,if_neg hz]
        clear HE4 hz
        go_wp2_with fail
        go_ret
        exact ⟨by rw [HE5.out];rfl,by rw [HE5.out];exact ⟨F5,G3,H6.out,HU6.out,HF5.out,HG3.out⟩⟩
      ·have ez:(e1 != 0)=true:=by rw [bne_iff_ne];exact he
       have HE4:Hid (jSet t s l=(e1,t,s1)):=by unfold Hid;rw [HE3.out,if_pos he]
       clear he HE3
       go_wp2_with fail
       go_ret
       exact ⟨by rw [HE4.out];rfl,by rw [HE4.out];exact HO3.out⟩
end
end Go.Proofs.YthgnlfikneipiaaGreat
namespace Go.Proofs.YthgnlfikneipiaaGreat
open Go.RowKit
section
variable (nm : ByteArray)
theorem below_one {ν:Type} (x:ν):below strLt [(nm,x)] nm=0:=by unfold below;rw [List.takeWhile_cons,strOrd.irr nm];rfl
theorem isIn_one {ν:Type} [Inhabited ν] (x:ν):isIn strLt [(nm,x)] nm=true:=by unfold isIn;rw [below_one];exact decide_eq_true ⟨by simp,rfl⟩
theorem get_one (b:List UInt8):dGet [(nm,b)] nm=(b,true):=by rw [dGet_yes (isIn_one nm b),below_one];rfl
end
end Go.Proofs.YthgnlfikneipiaaGreat
namespace Go.Proofs.YthgnlfikneipiaaGreat
open Go.RowKit
def N2 (nm:ByteArray):Prop:=nm=nmJ∨nm=nmN
theorem N2.ok {nm:ByteArray} (h:N2 nm):nameOk nm=true:=by
 rcases h with rfl|rfl
 ·exact nmJ_ok
 ·exact nmN_ok
def WrN (x:Wr):Prop:=N2 x.nm∧(x.kd=3→N2 x.tn)
def FsN (fs:DF):Prop:=∀ p∈fs,N2 p.1
theorem FsN.set_ {fs:DF} (h:FsN fs) (k:ByteArray) (v:List UInt8) (hk:N2 k):FsN (tSet strLt fs k v):=fun p hp=>by
 rcases tSet_mem _ _ _ _ hp with rfl|q
 ·exact hk
 ·exact h p q
theorem FsN.del {fs:DF} (h:FsN fs) (k:ByteArray):FsN (tDel strLt fs k):=fun p hp=>h p (tDel_mem _ _ _ hp)
theorem FsN.apply {fs:DF} (h:FsN fs) {x:Wr} (hx:WrN x):FsN (wApply x fs):=by
 unfold wApply
 split
 ·exact h.set_ _ _ hx.1
 split
 ·exact h.set_ _ _ hx.1
 split
 ·rename_i h3
  split
  ·exact (h.del _).set_ _ _ (hx.2 h3)
  ·exact h
 split
 ·exact h.set_ _ _ hx.1
 split
 ·exact h.del _
 ·exact h
theorem FsN.all:∀ {l:List Wr} {fs:DF},FsN fs→(∀ x∈l,WrN x)→FsN (wAll fs l)
 | [],fs,h,_=>h
 | x::l,fs,h,hl=>FsN.all (fs:=wApply x fs) (h.apply (hl x (by simp))) (fun y hy=>hl y (by simp [hy]))
theorem FsN.len {fs:DF} (h:FsN fs) (hr:Rising strLt fs):fs.length≤2:=by
 rcases Nat.lt_or_ge 2 fs.length with q|q
 ·exfalso
  have m0:=h _ (nth_mem 0 (by omega))
  have m1:=h _ (nth_mem 1 (by omega))
  have m2:=h _ (nth_mem 2 (by omega))
  have r01:=hr 0 1 (by omega) (by omega)
  have r12:=hr 1 2 (by omega) q
  have r02:=hr 0 2 (by omega) q
  have irr:=strOrd.irr
  rcases m0 with a|a<;>rcases m1 with b|b<;>rcases m2 with c|c<;>rw [a,b] at r01<;>rw [b,c] at r12<;>rw [a,c] at r02
  all_goals
   first
    | (rw [irr] at r01;exact absurd r01 (by simp))
    | (rw [irr] at r12;exact absurd r12 (by simp))
    | (rw [irr] at r02;exact absurd r02 (by simp))
 ·exact q
theorem get_set2 {fs:DF} (hr:Rising strLt fs) (k k':ByteArray) (v:List UInt8) (hne:k'≠k):dGet (tSet strLt fs k v) k'=dGet fs k':=get_set_ne strOrd [] hr k k' v hne
structure St (Q:List UInt8→Prop) (k:Nat) (s:DS):Prop where
 ok:DOk s
 mn:FsN s.mark
 ln:∀ x∈s.log,WrN x
 lg:s.log.length≤k
 al:∀ j,Q (dGet (wAll s.mark (s.log.take j)) nmJ).1
theorem do_now (x:Wr) (s:DS):(dDo x s).now=wApply x s.now:=rfl
section
variable {Q : List UInt8 → Prop} {k : Nat} {s : DS}
theorem St.fsn (h:St Q k s):FsN s.now:=by rw [h.ok.eq];exact h.mn.all h.ln
theorem St.now (h:St Q k s):s.now.length≤2:=h.fsn.len h.ok.ris
theorem St.q (h:St Q k s):Q (dGet s.now nmJ).1:=by
 have:=h.al s.log.length
 rwa [List.take_length,← h.ok.eq] at this
theorem St.more (h:St Q k s) {m:Nat} (hm:k≤m):St Q m s:=⟨h.ok,h.mn,h.ln,Nat.le_trans h.lg hm,h.al⟩
theorem St.do_ (h:St Q k s) {x:Wr} (hx:WrOk x s.now) (hn:WrN x) (hq:Q (dGet (wApply x s.now) nmJ).1):St Q (k+1) (dDo x s):=by
 refine ⟨h.ok.do_ hx,h.mn,fun y hy=>?_,by unfold dDo;have:=h.lg;simp;omega,fun j=>?_⟩
 ·rcases List.mem_append.1 hy with q|q
  ·exact h.ln y q
  ·simp at q;subst q;exact hn
 ·show Q (dGet (wAll s.mark ((s.log++[x]).take j)) nmJ).1
  rcases Nat.lt_or_ge s.log.length j with q|q
  ·rw [List.take_of_length_le (by rw [List.length_append,List.length_singleton];omega),wAll_snoc,← h.ok.eq]
   exact hq
  ·rw [List.take_append_of_le_length q]
   exact h.al j
theorem St.puts {nm:ByteArray} (h:St Q k s) (p:List UInt8) (hnm:N2 nm) (hin:inD s.now nm=true) (ht:dTotal s.now+p.length≤16777216) (hq:nm=nmJ→∀ m,m≤p.length→Q ((dGet s.now nmJ).1++p.take m)):∀ i,i≤(chunks p).length →
  St Q (k+i) (dPut nm s ((chunks p).take i))∧dGet (dPut nm s ((chunks p).take i)).now nm=((dGet s.now nm).1++p.take (32*i),true)∧∀ nm',nm'≠nm→dGet (dPut nm s ((chunks p).take i)).now nm'=dGet s.now nm'
 | 0,_=>⟨by simpa [dPut] using h,by simp [dPut];exact Prod.ext rfl (by rw [dGet_in];exact hin),fun _ _=>rfl⟩
 | i+1,hi=>by
  have hlen:=chunks_len p
  obtain ⟨i1,i2,i3⟩:=St.puts h p hnm hin ht hq i (by omega)
  have hP:=PutOk.all p h.ok hin (by have:=h.now;omega) ht i (by omega)
  have hlt:32*i < p.length:=by omega
  have hcl:((p.drop (32*i)).take 32).length=min 32 (p.length-32*i):=by rw [List.length_take,List.length_drop]
  have hne:(p.drop (32*i)).take 32≠[]:=fun q=>by rw [q] at hcl;simp at hcl;omega
  have hw:=(hP.step ((p.drop (32*i)).take 32) hne (by have:=h.now;omega) (by rw [hcl];omega)).1
  rw [dPut_take nm s p i (by omega)]
  have hr:=i1.ok.ris
  have hap:wApply (wPut nm ((p.drop (32*i)).take 32)) (dPut nm s ((chunks p).take i)).now=tSet strLt (dPut nm s ((chunks p).take i)).now nm ((dGet (dPut nm s ((chunks p).take i)).now nm).1++(p.drop (32*i)).take 32):=rfl
  have hval:(dGet (dPut nm s ((chunks p).take i)).now nm).1++(p.drop (32*i)).take 32=(dGet s.now nm).1++p.take (32*(i+1)):=by
   rw [i2]
   dsimp only
   rw [List.append_assoc,show 32*(i+1)=32*i+32 by omega,List.take_add]
  have hg1:dGet (dDo (wPut nm ((p.drop (32*i)).take 32)) (dPut nm s ((chunks p).take i))).now nm=((dGet s.now nm).1++p.take (32*(i+1)),true):=by
   rw [do_now,hap,hval];exact get_set hr _ _
  have hg2:∀ nm',nm'≠nm→dGet (dDo (wPut nm ((p.drop (32*i)).take 32)) (dPut nm s ((chunks p).take i))).now nm'=dGet s.now nm':=fun nm' hne'=>by
   rw [do_now,hap,get_set2 hr _ _ _ hne',i3 nm' hne']
  refine ⟨i1.do_ hw ⟨hnm,fun q=>absurd q (show ¬ (2:Int)=3 by decide)⟩ ?_,hg1,hg2⟩
  by_cases hj:nm=nmJ
  ·subst hj
   have h9:dGet (wApply (wPut nmJ ((p.drop (32*i)).take 32)) (dPut nmJ s ((chunks p).take i)).now) nmJ=_:=hg1
   rw [h9]
   dsimp only
   have:=hq rfl (min (32*(i+1)) p.length) (Nat.min_le_right _ _)
   rwa [show p.take (min (32*(i+1)) p.length)=p.take (32*(i+1)) by
    rcases Nat.lt_or_ge p.length (32*(i+1)) with q|q
    ·rw [Nat.min_eq_right (by omega),List.take_of_length_le (Nat.le_refl _),List.take_of_length_le (by omega)]
    ·rw [Nat.min_eq_left q]] at this
  ·have h9:dGet (wApply (wPut nm ((p.drop (32*i)).take 32)) (dPut nm s ((chunks p).take i)).now) nmJ=_:=hg2 nmJ (fun q=>hj q.symm)
   rw [h9]
   exact h.q
structure Appd (Q:List UInt8→Prop) (k:Nat) (s:DS) (nm:ByteArray) (p:List UInt8) (r:Int×DS):Prop where
 st:St Q (k+1+p.length) r.2
 no:r.1≠0→r.2=s
 yes:r.1=0→dGet r.2.now nm=((dGet s.now nm).1++p,true)∧∀ nm',nm'≠nm→dGet r.2.now nm'=dGet s.now nm'
 fit:dTotal s.now+p.length≤16777216→r.1=0
theorem St.append {nm:ByteArray} (h:St Q k s) (p:List UInt8) (hnm:N2 nm) (hq:nm=nmJ→∀ m,m≤p.length→Q ((dGet s.now nmJ).1++p.take m)):Appd Q k s nm p (dAppend s nm p):=by
 have hcl:=chunks_len p
 unfold dAppend
 rw [hnm.ok,if_pos rfl]
 by_cases hf:16777216 < dTotal s.now+p.length
 ·rw [if_pos hf]
  exact ⟨h.more (by omega),fun _=>rfl,fun q=>absurd q (show ¬ (9:Int)=0 by decide),fun q=>by omega⟩
 ·rw [if_neg hf]
  have hall:p.take (32*(chunks p).length)=p:=List.take_of_length_le (by omega)
  cases hin:inD s.now nm with
  | true =>
   rw [if_pos rfl]
   obtain ⟨h1,h2,h3⟩:=h.puts p hnm hin (by omega) hq (chunks p).length (Nat.le_refl _)
   rw [List.take_length,hall] at *
   exact ⟨h1.more (by omega),fun q=>absurd rfl q,fun _=>⟨h2,h3⟩,fun _=>rfl⟩
  | false =>
   rw [if_neg (by simp)]
   obtain ⟨m1,m2,m3,m4,m5⟩:=h.ok.make nm hin (by have:=h.now;omega)
   have hold:dGet s.now nm=([],false):=dGet_no hin
   have hr:=h.ok.ris
   have hg1:dGet (dDo (wMake nm) s).now nm=([],true):=by show dGet (tSet strLt s.now nm []) nm=_;exact get_set hr _ _
   have hg2:∀ nm',nm'≠nm→dGet (dDo (wMake nm) s).now nm'=dGet s.now nm':=fun nm' hne=>by show dGet (tSet strLt s.now nm []) nm'=_;exact get_set2 hr _ _ _ hne
   have hst:St Q (k+1) (dDo (wMake nm) s):=by
    refine h.do_ m1 ⟨hnm,fun q=>absurd q (show ¬ (1:Int)=3 by decide)⟩ ?_
    by_cases hj:nm=nmJ
    ·subst hj
     have h9:dGet (wApply (wMake nmJ) s.now) nmJ=([],true):=hg1
     rw [h9]
     have:=hq rfl 0 (Nat.zero_le _)
     rw [hold] at this
     simpa using this
    ·have h9:dGet (wApply (wMake nm) s.now) nmJ=_:=hg2 nmJ (fun q=>hj q.symm)
     rw [h9];exact h.q
   have hq2:nm=nmJ→∀ m,m≤p.length→Q ((dGet (dDo (wMake nm) s).now nmJ).1++p.take m):=fun hj m hm=>by
    have:=hq hj m hm
    subst hj
    rw [hg1]
    rw [hold] at this
    exact this
   obtain ⟨h1,h2,h3⟩:=hst.puts p hnm m3 (by omega) hq2 (chunks p).length (Nat.le_refl _)
   rw [List.take_length,hall] at *
   refine ⟨h1.more (by omega),fun q=>absurd rfl q,fun _=>⟨?_,fun nm' hne=>?_⟩,fun _=>rfl⟩
   ·dsimp only
    rw [h2,hg1,hold]
   ·dsimp only
    rw [h3 nm' hne,hg2 nm' hne]
end
end Go.Proofs.YthgnlfikneipiaaGreat
namespace Go.Proofs.YthgnlfikneipiaaGreat
open Go.RowKit
theorem putF_one {r:Ch} (h:ChsOk [r]):putF [] (encChs [r])=frameOf (encChs [r]):=by rw [putF_fit _ _ h.fit];rfl
theorem frame_le {l:List Ch} (h:ChsOk l):(frameOf (encChs l)).length≤262152:=by rw [frameOf_len];have:=h.sz;omega
theorem jLay_cons (r:Int×ByteArray) (u:JS) (s:DS):jLay (r::u) (0,s)=jLay u (dAppend s nmN (putF [] (encChs [r]))):=by
 show (if (0:Int)=0 then _ else _)=_
 rw [if_pos rfl]
theorem jLay_bad (u:JS) (e:Int) (s:DS) (he:e≠0):jLay u (e,s)=(e,s):=by
 cases u with
 | nil=>rfl
 | cons r u=>show (if e=0 then _ else _)=_;rw [if_neg he]
section
variable {Q : List UInt8 → Prop} {k : Nat} {s : DS} {t : JS}
structure Laid (Q:List UInt8→Prop) (k:Nat) (s:DS) (c:List UInt8) (u:JS) (r:Int×DS):Prop where
 st:St Q (k+262160*u.length) r.2
 j:dGet r.2.now nmJ=dGet s.now nmJ
 has:inD r.2.now nmN=true
 yes:r.1=0→dGet r.2.now nmN=(c++jRows u,true)
 fit:dTotal s.now+(jRows u).length≤16777216→r.1=0
theorem tot_two {fs:DF} (hn:FsN fs) (hr:Rising strLt fs):dTotal fs=(dGet fs nmJ).1.length+(dGet fs nmN).1.length:=by
 have hlen:=hn.len hr
 have ltJN:strLt nmJ nmN=true:=by kernel_rfl
 have ltNJ:strLt nmN nmJ=false:=by kernel_rfl
 match fs,hn,hr,hlen with
 | [],_,_,_=>rfl
 | [(a,x)],hn,hr,_ =>
  have hN:∀ x:List UInt8,dGet [(nmJ,x)] nmN=([],false):=fun x=>get_no strOrd [] (Rising.one _) nmN (fun v hv=>by injection List.mem_singleton.1 hv with q _;exact nmJN q.symm)
  have hJ:∀ x:List UInt8,dGet [(nmN,x)] nmJ=([],false):=fun x=>get_no strOrd [] (Rising.one _) nmJ (fun v hv=>by injection List.mem_singleton.1 hv with q _;exact nmJN q)
  rcases hn (a,x) (by simp) with q|q
  ·dsimp only at q;subst q
   rw [get_one,hN];simp [dTotal]
  ·dsimp only at q;subst q
   rw [hJ,get_one];simp [dTotal]
 | [(a,x),(b,y)],hn,hr,_ =>
  have h01:strLt a b=true:=hr 0 1 (by omega) (by simp)
  have ha:=hn (a,x) (by simp)
  have hb:=hn (b,y) (by simp)
  dsimp only at ha hb
  have hab:a=nmJ∧b=nmN:=by
   rcases ha with rfl|rfl<;>rcases hb with rfl|rfl
   ·rw [strOrd.irr] at h01;exact absurd h01 (by simp)
   ·exact ⟨rfl,rfl⟩
   ·rw [ltNJ] at h01;exact absurd h01 (by simp)
   ·rw [strOrd.irr] at h01;exact absurd h01 (by simp)
  obtain ⟨rfl,rfl⟩:=hab
  have g1:dGet [(nmJ,x),(nmN,y)] nmJ=(x,true):=(get_mem strOrd [] hr nmJ x).2 (by simp)
  have g2:dGet [(nmJ,x),(nmN,y)] nmN=(y,true):=(get_mem strOrd [] hr nmN y).2 (by simp)
  rw [g1,g2];simp [dTotal]
 | _::_::_::_,_,_,h=>simp at h
theorem St.tot (h:St Q k s):dTotal s.now=(dGet s.now nmJ).1.length+(dGet s.now nmN).1.length:=tot_two h.fsn h.ok.ris
theorem laid:∀ (u:JS) {k:Nat} {s:DS} (c:List UInt8),St Q k s→dGet s.now nmN=(c,true)→(∀ p∈u,ChsOk [p])→Laid Q k s c u (jLay u (0,s))
 | [],k,s,c,h,hc,_=>⟨h.more (by simp),rfl,by rw [← dGet_in];show (dGet s.now nmN).2=true;rw [hc],fun _=>by show dGet s.now nmN=_;rw [hc];simp [jRows],fun _=>rfl⟩
 | r::u,k,s,c,h,hc,ho=>by
  have hr:=ho r (by simp)
  have hfl:=frame_le hr
  have hA:=h.append (nm:=nmN) (frameOf (encChs [r])) (.inr rfl) (fun q=>absurd q (Ne.symm nmJN))
  have hrows:jRows (r::u)=frameOf (encChs [r])++jRows u:=by unfold jRows;rw [List.flatMap_cons]
  rw [jLay_cons,putF_one hr]
  obtain ⟨e,s',he⟩:∃ e s',dAppend s nmN (frameOf (encChs [r]))=(e,s'):=⟨_,_,rfl⟩
  rw [he] at hA ⊢
  by_cases h0:e=0
  ·subst h0
   obtain ⟨y1,y2⟩:=hA.yes rfl
   dsimp only at y1 y2
   have h1:dGet s'.now nmN=(c++frameOf (encChs [r]),true):=by rw [y1,hc]
   have hst:St Q (k+1+(frameOf (encChs [r])).length) s':=hA.st
   have hL:=laid u (c++frameOf (encChs [r])) hst h1 (fun p hp=>ho p (by simp [hp]))
   refine ⟨hL.st.more (by rw [List.length_cons];omega),by rw [hL.j,y2 nmJ nmJN],hL.has,fun q=>by rw [hL.yes q,hrows,List.append_assoc],fun q=>hL.fit ?_⟩
   rw [hrows,List.length_append] at q
   have e1:=h.tot
   have e2:=hst.tot
   rw [h1,y2 nmJ nmJN,List.length_append] at e2
   rw [hc] at e1
   dsimp only at e1 e2
   omega
  ·rw [jLay_bad _ _ _ h0]
   have hs:s'=s:=hA.no h0
   subst hs
   refine ⟨hA.st.more (by rw [List.length_cons];omega),rfl,by rw [← dGet_in];show (dGet s'.now nmN).2=true;rw [hc],fun q=>absurd q h0,fun q=>hA.fit ?_⟩
   rw [hrows,List.length_append] at q
   omega
end
end Go.Proofs.YthgnlfikneipiaaGreat
namespace Go.Proofs.YthgnlfikneipiaaGreat
open Go.RowKit
abbrev nmL:ByteArray:=⟨#[108,101,100,103,101,114]⟩
theorem nmL_ok:nameOk nmL=true:=by unfold nameOk;decide
def lAdd (rl:List Rec) (s:DS) (r:Rec):(Bool×Int)×List Rec×DS :=
 if recOk r then
  if hasK rl r.key then ((false,0),rl,s)
  else if (dAppend s nmL (frameOf (encRec r))).1=0 then ((true,0),rl++[r],(dAppend s nmL (frameOf (encRec r))).2)
  else ((false,(dAppend s nmL (frameOf (encRec r))).1),rl,(dAppend s nmL (frameOf (encRec r))).2)
 else ((false,1),rl,s)
theorem fit_rec {r:Rec} (h:recOk r=true):Fit (encRec r):=by have:=encRec_len h;exact ⟨by omega,by omega⟩
end Go.Proofs.YthgnlfikneipiaaGreat
namespace Go.Proofs.YthgnlfikneipiaaGreat
open Go.RowKit
theorem OwnN.base_le {α:Type} {sz:Nat} {c:α→List Value} {base base':Nat} {e:TypeId} {w:World} {v:Value} {l:List α} (h:OwnN sz c base e w v l) (hb:base'≤base):OwnN sz c base' e w v l:=by
 obtain ⟨h1,h2⟩:=h
 refine ⟨h1,?_⟩
 rcases h2 with h2|⟨g,cap,cur,rfl,hb',hg,r⟩
 ·exact .inl h2
 ·exact .inr ⟨g,cap,cur,rfl,by omega,hg,r⟩
theorem LC.rebase {w0 w W:World} {gl gd gm:Nat} {lv:Value} {rl:List Rec} (h:LC w W gl gd gm lv rl) (hu:Upd [] w0 w):LC w0 W gl gd gm lv rl :=
 ⟨h.top,h.rows.base_le hu.size,h.map,Nat.le_trans hu.size h.glb,Nat.le_trans hu.size h.gmb,hu.seq h.old⟩
theorem LC.new (w:World) (gd:Nat):LC w ((w.alloc (.map #[] 0)).alloc (.cells #[.pointer (some ⟨gd,0,none⟩),.slice none 0 0,.map (some w.heap.size)] 216)) (w.heap.size+1) gd w.heap.size (.slice none 0 0) []:=by
 have hu1:Upd [] w (w.alloc (.map #[] 0)):=(Upd.refl [] w).alloc _
 have hsz:(w.alloc (.map #[] 0)).heap.size=w.heap.size+1:=by simp
 have hu2:Upd [] (w.alloc (.map #[] 0)) ((w.alloc (.map #[] 0)).alloc (.cells #[.pointer (some ⟨gd,0,none⟩),.slice none 0 0,.map (some w.heap.size)] 216)):=(Upd.refl [] _).alloc _
 have hb:=Blk.new (w.alloc (.map #[] 0)) 216 [.pointer (some ⟨gd,0,none⟩),.slice none 0 0,.map (some w.heap.size)]
 rw [hsz] at hb
 exact ⟨hb,OwnN.nil _ _ _,(KMap.new w).upd hu2 (by simp),by omega,Nat.le_refl _,hu1.seq hu2⟩
theorem rec_key64 {r:Rec} (h:recOk r=true):Key64 r.key:=by
 have hi:=recOk_in h
 have i1:=hi.ino
 have i2:=hi.gen
 have i3:=hi.at_
 have i4:=hi.rule
 exact ⟨⟨by omega,by omega⟩,⟨by omega,by omega⟩,⟨by omega,by omega⟩,by unfold maxLen;omega⟩
structure LD (w0 w:World) (gd gl:Nat) (F G:List Nat) (rl:List Rec) (s:DS):Prop where
 lc:∃ gm lv,LC w0 w gl gd gm lv rl∧F=lfoot gl gm lv
 dd:DD w0 w gd G s
 ap:Ap F G
 ok:∀ r∈rl,recOk r=true
def LOut (w0 w:World) (gd gl:Nat) (S:List Nat) (rl:List Rec) (s:DS) (w':World):Prop:=∃ F' G',LD w0 w' gd gl F' G' rl s∧Upd S w w'∧(∀ x∈F',x∈S∨w.heap.size≤x)∧(∀ x∈G',x∈S∨w.heap.size≤x)
section
variable {w0 w w' : World} {gd gl : Nat} {F G : List Nat} {rl : List Rec} {s s' : DS}
theorem lopen_done {gm:Nat} {lv:Value} {W W':World} (h:DD w0 w gd G s) (hc:LC w W gl gd gm lv rl) (hok:∀ r∈rl,recOk r=true) (hd:DOut w0 W gd G s' W') (hG:∀ x∈G,x < w.heap.size):LOut w0 w gd gl G rl s' W':=by
 obtain ⟨G',k1,k2,k3⟩:=hd
 have hge:=hc.ge
 have hap:∀ x∈lfoot gl gm lv,x∉G:=fun x hx hg=>by have:=(hge x hx).1;have:=hG x hg;omega
 have hl:=(hc.rebase h.old).upd k2 hap (fun x hx=>(h.ge x hx).1)
 have hs:=hc.old.size
 refine ⟨lfoot gl gm lv,G',⟨⟨gm,lv,hl,rfl⟩,k1,fun x hx hg=>?_,hok⟩,hc.old.trans k2 (by simp) (fun x hx => .inl hx),fun x hx => .inr (hge x hx).1,fun x hx=>(k3 x hx).imp id (fun q=>by omega)⟩
 rcases k3 x hg with q|q
 ·exact hap x hx q
 ·have:=(hge x hx).2;omega
end
end Go.Proofs.YthgnlfikneipiaaGreat
namespace Go.Proofs.YthgnlfikneipiaaGreat
open Go.RowKit
section
variable {w0 w w' : World} {gd gl : Nat} {F G : List Nat} {rl : List Rec} {s s' : DS}
theorem LD.geF (h:LD w0 w gd gl F G rl s):∀ x∈F,w0.heap.size≤x∧x < w.heap.size:=by
 obtain ⟨gm,lv,hc,rfl⟩:=h.lc
 exact hc.ge
theorem LD.upd (h:LD w0 w gd gl F G rl s) {S:List Nat} (hu:Upd S w w') (h1:∀ x∈F,x∉S) (h2:∀ x∈G,x∉S) (hS:∀ x∈S,w0.heap.size≤x):LD w0 w' gd gl F G rl s:=by
 obtain ⟨gm,lv,hc,rfl⟩:=h.lc
 exact ⟨⟨gm,lv,hc.upd hu h1 hS,rfl⟩,h.dd.upd hu h2 hS,h.ap,h.ok⟩
theorem LD.upd0 (h:LD w0 w gd gl F G rl s) (hu:Upd [] w w'):LD w0 w' gd gl F G rl s:=h.upd hu (by simp) (by simp) (by simp)
theorem LD.out0 (h:LD w0 w gd gl F G rl s) (hu:Upd [] w w'):LOut w0 w gd gl (F++G) rl s w' :=
 ⟨F,G,h.upd0 hu,hu.mono (by simp),fun x hx => .inl (List.mem_append.2 (.inl hx)),fun x hx => .inl (List.mem_append.2 (.inr hx))⟩
theorem LD.disk (h:LD w0 w gd gl F G rl s) {w1:World} (hu:Upd [] w w1) (hd:DOut w0 w1 gd G s' w'):∃ G',LD w0 w' gd gl F G' rl s'∧Upd G w w'∧(∀ x∈G',x∈G∨w.heap.size≤x):=by
 obtain ⟨G',k1,k2,k3⟩:=hd
 have h1:=h.upd0 hu
 have hs:=hu.size
 obtain ⟨gm,lv,hc,rfl⟩:=h1.lc
 refine ⟨G',⟨⟨gm,lv,hc.upd k2 h.ap (fun x hx=>(h.dd.ge x hx).1),rfl⟩,k1,fun x hx hg=>?_,h.ok⟩,hu.trans k2 (by simp) (fun x hx => .inl hx),fun x hx=>(k3 x hx).imp id (fun q=>by omega)⟩
 rcases k3 x hg with q|q
 ·exact h.ap x hx q
 ·have:=(hc.ge x hx).2;omega
theorem LD.out (h:LD w0 w gd gl F G rl s) {G':List Nat} (h2:LD w0 w' gd gl F G' rl s') (hu:Upd G w w') (hf:∀ x∈G',x∈G∨w.heap.size≤x):LOut w0 w gd gl (F++G) rl s' w' :=
 ⟨F,G',h2,hu.mono (fun x hx => .inl (List.mem_append.2 (.inr hx))),fun x hx => .inl (List.mem_append.2 (.inl hx)),fun x hx=>(hf x hx).imp (fun q=>List.mem_append.2 (.inr q)) id⟩
set_option maxRecDepth 20000 in
set_option maxHeartbeats 8000000 in
theorem ledAdd_c (h:LD w0 w gd gl F G rl s) (ino gen at_:Int) (rule:ByteArray) (kind c0 c1 c2 c3 c4 c5 c6 c7 c8 c9:Int) (hn:s.now.length≤4999) (hlg:s.log.length≤500000000) (hrl:rl.length≤100000000) :
  Calls Tryz.prog 166 #[.pointer (some ⟨gl,0,none⟩),mkVal ino gen at_ rule kind c0 c1 c2 c3 c4 c5 c6 c7 c8 c9] w fun e w'=>e = .returned (.tuple #[.bool (lAdd rl s (mkRec ino gen at_ rule kind c0 c1 c2 c3 c4 c5 c6 c7 c8 c9)).1.1,.int .i64 (lAdd rl s (mkRec ino gen at_ rule kind c0 c1 c2 c3 c4 c5 c6 c7 c8 c9)).1.2])∧LOut w0 w gd gl (F++G) (lAdd rl s (mkRec ino gen at_ rule kind c0 c1 c2 c3 c4 c5 c6 c7 c8 c9)).2.1 (lAdd rl s (mkRec ino gen at_ rule kind c0 c1 c2 c3 c4 c5 c6 c7 c8 c9)).2.2 w':=by
 have hu0:Upd [] w (w.alloc (.cells #[.int .i64 ino,.int .i64 gen,.int .i64 at_,.string rule,.int .i64 kind,.int .i64 c0,.int .i64 c1,.int .i64 c2,.int .i64 c3,.int .i64 c4,.int .i64 c5,.int .i64 c6,.int .i64 c7,.int .i64 c8,.int .i64 c9] 48)):=(Upd.refl [] w).alloc _
 have HU0:=Lib.hid hu0
 have H0:=Lib.hid h
 have HB0:Hid (Blk (w.alloc (.cells #[.int .i64 ino,.int .i64 gen,.int .i64 at_,.string rule,.int .i64 kind,.int .i64 c0,.int .i64 c1,.int .i64 c2,.int .i64 c3,.int .i64 c4,.int .i64 c5,.int .i64 c6,.int .i64 c7,.int .i64 c8,.int .i64 c9] 48)) w.heap.size 48 [.int .i64 ino,.int .i64 gen,.int .i64 at_,.string rule,.int .i64 kind,.int .i64 c0,.int .i64 c1,.int .i64 c2,.int .i64 c3,.int .i64 c4,.int .i64 c5,.int .i64 c6,.int .i64 c7,.int .i64 c8,.int .i64 c9]):=Blk.new w _ [.int .i64 ino,.int .i64 gen,.int .i64 at_,.string rule,.int .i64 kind,.int .i64 c0,.int .i64 c1,.int .i64 c2,.int .i64 c3,.int .i64 c4,.int .i64 c5,.int .i64 c6,.int .i64 c7,.int .i64 c8,.int .i64 c9]
 have HN:=Lib.hid hn
 have HLG:=Lib.hid hlg
 have HRL:=Lib.hid hrl
 clear h hu0 hn hlg hrl
 cases hok:recOk (mkRec ino gen at_ rule kind c0 c1 c2 c3 c4 c5 c6 c7 c8 c9) with
 | false =>
  have HOK:=Lib.hid hok
  have HE:Hid (lAdd rl s (mkRec ino gen at_ rule kind c0 c1 c2 c3 c4 c5 c6 c7 c8 c9)=((false,1),rl,s)):=by unfold Hid lAdd;rw [hok];rfl
  clear hok
  go_enter Tryz.func166,Tryz.ntmps166
  go_wp2_with fail
  (with_reducible refine (ledRight_c _ ino gen at_ rule kind c0 c1 c2 c3 c4 c5 c6 c7 c8 c9).mono ?_)
  rw [HOK.out]
  rintro e w1 ⟨rfl,hu1⟩
  have HU1:=Lib.hid (HU0.out.seq hu1)
  clear hu1
  go_wp2_with fail
  go_ret2
  exact ⟨by rw [HE.out];rfl,by rw [HE.out];exact H0.out.out0 HU1.out⟩
 | true =>
  have HOK:=Lib.hid hok
  have HK:Hid (Key64 ⟨ino,gen,at_,rule⟩):=rec_key64 (r:=mkRec ino gen at_ rule kind c0 c1 c2 c3 c4 c5 c6 c7 c8 c9) hok
  cases hhas:hasK rl ⟨ino,gen,at_,rule⟩ with
  | true =>
   have HE:Hid (lAdd rl s (mkRec ino gen at_ rule kind c0 c1 c2 c3 c4 c5 c6 c7 c8 c9)=((false,0),rl,s)):=by unfold Hid lAdd;rw [hok,if_pos rfl];dsimp only;rw [hhas];rfl
   have HH:=Lib.hid hhas
   clear hok hhas
   go_enter Tryz.func166,Tryz.ntmps166
   go_wp2_with fail
   (with_reducible refine (ledRight_c _ ino gen at_ rule kind c0 c1 c2 c3 c4 c5 c6 c7 c8 c9).mono ?_)
   rw [HOK.out]
   rintro e w1 ⟨rfl,hu1⟩
   have HU1:=Lib.hid (HU0.out.seq hu1)
   have hb1:=HB0.out.upd hu1 (by simp)
   have d0:=hb1.cell 0
   have d1:=hb1.cell 1
   have d2:=hb1.cell 2
   have d3:=hb1.cell 3
   simp only [List.getElem?_cons_zero,List.getElem?_cons_succ] at d0 d1 d2 d3
   clear hu1 hb1
   go_wp2_with fail
   obtain ⟨gm,lv,hc,-⟩:=H0.out.lc
   (with_reducible refine (ledHas_c (hc.upd0 HU1.out) ino gen at_ rule HK.out).mono ?_)
   rw [HH.out]
   rintro e w2 ⟨rfl,hu2⟩
   have HU2:=Lib.hid (HU1.out.seq hu2)
   clear hu2 hc
   go_wp2_with fail
   go_ret2
   exact ⟨by rw [HE.out];rfl,by rw [HE.out];exact H0.out.out0 HU2.out⟩
  | false =>
   obtain ⟨r1,s1,hap⟩:∃ r s',dAppend s nmL (frameOf (encRec (mkRec ino gen at_ rule kind c0 c1 c2 c3 c4 c5 c6 c7 c8 c9)))=(r,s'):=⟨_,_,rfl⟩
   have HAP:=Lib.hid hap
   have HFL:Hid ((frameOf (encRec (mkRec ino gen at_ rule kind c0 c1 c2 c3 c4 c5 c6 c7 c8 c9))).length≤100000000∧frameOf (encRec (mkRec ino gen at_ rule kind c0 c1 c2 c3 c4 c5 c6 c7 c8 c9))≠[]):=by
    have h1:=encRec_len hok
    have h2:=frameOf_len (encRec (mkRec ino gen at_ rule kind c0 c1 c2 c3 c4 c5 c6 c7 c8 c9))
    exact ⟨by omega,fun q=>by rw [q] at h2;simp at h2;omega⟩
   have HFP:Hid (putF [] (encRec (mkRec ino gen at_ rule kind c0 c1 c2 c3 c4 c5 c6 c7 c8 c9))=frameOf (encRec (mkRec ino gen at_ rule kind c0 c1 c2 c3 c4 c5 c6 c7 c8 c9))):=by unfold Hid;rw [putF_fit _ _ (fit_rec hok)];rfl
   have HEL:Hid ((encRec (mkRec ino gen at_ rule kind c0 c1 c2 c3 c4 c5 c6 c7 c8 c9)).length≤100000):=by have:=encRec_len hok;unfold Hid;omega
   have HE:Hid (lAdd rl s (mkRec ino gen at_ rule kind c0 c1 c2 c3 c4 c5 c6 c7 c8 c9)=if r1=0 then ((true,0),rl++[mkRec ino gen at_ rule kind c0 c1 c2 c3 c4 c5 c6 c7 c8 c9],s1) else ((false,r1),rl,s1)):=by
    unfold Hid lAdd;rw [hok,if_pos rfl];dsimp only;rw [hhas,hap];rfl
   have HH:=Lib.hid hhas
   clear hok hhas hap
   go_enter Tryz.func166,Tryz.ntmps166
   go_wp2_with fail
   (with_reducible refine (ledRight_c _ ino gen at_ rule kind c0 c1 c2 c3 c4 c5 c6 c7 c8 c9).mono ?_)
   rw [HOK.out]
   rintro e w1 ⟨rfl,hu1⟩
   have HU1:=Lib.hid (HU0.out.seq hu1)
   have hb1:=HB0.out.upd hu1 (by simp)
   have HB1:=Lib.hid hb1
   have d0:=hb1.cell 0
   have d1:=hb1.cell 1
   have d2:=hb1.cell 2
   have d3:=hb1.cell 3
   simp only [List.getElem?_cons_zero,List.getElem?_cons_succ] at d0 d1 d2 d3
   clear hu1 hb1 HB0 HU0
   go_wp2_with fail
   obtain ⟨gm,lv,hc,hF⟩:=H0.out.lc
   (with_reducible refine (ledHas_c (hc.upd0 HU1.out) ino gen at_ rule HK.out).mono ?_)
   rw [HH.out]
   rintro e w2 ⟨rfl,hu2⟩
   have HU2:=Lib.hid (HU1.out.seq hu2)
   have hb2:=HB1.out.upd hu2 (by simp)
   have HB2:=Lib.hid hb2
   have HL2:=Lib.hid (H0.out.upd0 HU2.out)
   have hgx:w.heap.size < w2.heap.size:=hb2.lt
   have HGX:Hid (∀ x∈G,x < w.heap.size):=fun x hx=>(H0.out.dd.ge x hx).2
   have HGF:Hid (∀ x∈F,x < w.heap.size):=fun x hx=>(H0.out.geF x hx).2
   have HSZ:Hid (w.heap.size≤w2.heap.size):=HU2.out.size
   have gc0:w2.cell? ⟨gl,0,none⟩=some (.pointer (some ⟨gd,0,none⟩)):=(hc.upd0 HU2.out).top.cell 0
   have d0:=hb2.cell 0
   have d1:=hb2.cell 1
   have d2:=hb2.cell 2
   have d3:=hb2.cell 3
   have d4:=hb2.cell 4
   have d5:=hb2.cell 5
   have d6:=hb2.cell 6
   have d7:=hb2.cell 7
   have d8:=hb2.cell 8
   have d9:=hb2.cell 9
   have d10:=hb2.cell 10
   have d11:=hb2.cell 11
   have d12:=hb2.cell 12
   have d13:=hb2.cell 13
   have d14:=hb2.cell 14
   simp only [List.getElem?_cons_zero,List.getElem?_cons_succ] at d0 d1 d2 d3 d4 d5 d6 d7 d8 d9 d10 d11 d12 d13 d14
   have HS:Hid (∀ W,W=w2→W.cell? ⟨gl,0,none⟩=some (.pointer (some ⟨gd,0,none⟩))∧W.cell? ⟨w.heap.size,0,none⟩=some (.int .i64 ino)∧W.cell? ⟨w.heap.size,1,none⟩=some (.int .i64 gen)∧W.cell? ⟨w.heap.size,2,none⟩=some (.int .i64 at_)∧W.cell? ⟨w.heap.size,3,none⟩=some (.string rule)∧W.cell? ⟨w.heap.size,4,none⟩=some (.int .i64 kind)∧W.cell? ⟨w.heap.size,5,none⟩=some (.int .i64 c0)∧W.cell? ⟨w.heap.size,6,none⟩=some (.int .i64 c1)∧W.cell? ⟨w.heap.size,7,none⟩=some (.int .i64 c2)∧W.cell? ⟨w.heap.size,8,none⟩=some (.int .i64 c3)∧W.cell? ⟨w.heap.size,9,none⟩=some (.int .i64 c4)∧W.cell? ⟨w.heap.size,10,none⟩=some (.int .i64 c5)∧W.cell? ⟨w.heap.size,11,none⟩=some (.int .i64 c6)∧W.cell? ⟨w.heap.size,12,none⟩=some (.int .i64 c7)∧W.cell? ⟨w.heap.size,13,none⟩=some (.int .i64 c8)∧W.cell? ⟨w.heap.size,14,none⟩=some (.int .i64 c9)):=by
    rintro W rfl
    exact ⟨gc0,d0,d1,d2,d3,d4,d5,d6,d7,d8,d9,d10,d11,d12,d13,d14⟩
   have HGLG:Hid (gl∉G):=fun hx=>H0.out.ap gl (by rw [hF];exact lf_top _ _ _) hx
   have HKEEP:Hid (∀ (T:List Nat) W,(T=[]∨T=G)→Upd T w2 W→W.cell? ⟨gl,0,none⟩=some (.pointer (some ⟨gd,0,none⟩))∧W.cell? ⟨w.heap.size,0,none⟩=some (.int .i64 ino)∧W.cell? ⟨w.heap.size,1,none⟩=some (.int .i64 gen)∧W.cell? ⟨w.heap.size,2,none⟩=some (.int .i64 at_)∧W.cell? ⟨w.heap.size,3,none⟩=some (.string rule)∧W.cell? ⟨w.heap.size,4,none⟩=some (.int .i64 kind)∧W.cell? ⟨w.heap.size,5,none⟩=some (.int .i64 c0)∧W.cell? ⟨w.heap.size,6,none⟩=some (.int .i64 c1)∧W.cell? ⟨w.heap.size,7,none⟩=some (.int .i64 c2)∧W.cell? ⟨w.heap.size,8,none⟩=some (.int .i64 c3)∧W.cell? ⟨w.heap.size,9,none⟩=some (.int .i64 c4)∧W.cell? ⟨w.heap.size,10,none⟩=some (.int .i64 c5)∧W.cell? ⟨w.heap.size,11,none⟩=some (.int .i64 c6)∧W.cell? ⟨w.heap.size,12,none⟩=some (.int .i64 c7)∧W.cell? ⟨w.heap.size,13,none⟩=some (.int .i64 c8)∧W.cell? ⟨w.heap.size,14,none⟩=some (.int .i64 c9)):=by
    intro T W hT hu
    have n1:gl∉T:=by rcases hT with rfl|rfl;simp;exact HGLG.out
    have n2:w.heap.size∉T:=by
     rcases hT with rfl|rfl
     ·simp
     ·intro hx;have:=HGX.out _ hx;omega
    obtain ⟨g0,g1⟩:=HS.out w2 rfl
    obtain ⟨e0,e1,e2,e3,e4,e5,e6,e7,e8,e9,e10,e11,e12,e13,e14⟩:=g1
    exact ⟨hu.cell g0 n1,hu.cell e0 n2,hu.cell e1 n2,hu.cell e2 n2,hu.cell e3 n2,hu.cell e4 n2,hu.cell e5 n2,hu.cell e6 n2,hu.cell e7 n2,hu.cell e8 n2,hu.cell e9 n2,hu.cell e10 n2,hu.cell e11 n2,hu.cell e12 n2,hu.cell e13 n2,hu.cell e14 n2⟩
   have HC1:Hid (∀ W,Upd [] w2 W→Calls Tryz.prog 218 #[mkVal ino gen at_ rule kind c0 c1 c2 c3 c4 c5 c6 c7 c8 c9] W fun e w'=>∃ a n k,e = .returned (.slice a n k)∧Hid (Own bv w2.heap.size 5 w' (.slice a n k) (encRec (mkRec ino gen at_ rule kind c0 c1 c2 c3 c4 c5 c6 c7 c8 c9)))∧Upd [] w2 w'):=fun W hW=>by
    refine (ledPut_c W ino gen at_ rule kind c0 c1 c2 c3 c4 c5 c6 c7 c8 c9).mono ?_
    rw [HOK.out,if_pos rfl]
    rintro e w' ⟨v,rfl,ho,hu⟩
    obtain ⟨a,k,rfl,-⟩:=ho.rd
    exact ⟨a,_,k,rfl,ho.base_le hW.size,hW.seq hu⟩
   have HC2:Hid (∀ W a n k,Own bv w2.heap.size 5 W (.slice a n k) (encRec (mkRec ino gen at_ rule kind c0 c1 c2 c3 c4 c5 c6 c7 c8 c9))→Upd [] w2 W→Calls Tryz.prog 129 #[.slice none 0 0,.slice a n k] W fun e w'=>∃ a n k,e = .returned (.slice a n k)∧Hid (Own bv w2.heap.size 5 w' (.slice a n k) (frameOf (encRec (mkRec ino gen at_ rule kind c0 c1 c2 c3 c4 c5 c6 c7 c8 c9))))∧Upd [] w2 w'):=fun W a n k ho hW=>by
    refine (fPut_any _ _ [] (encRec (mkRec ino gen at_ rule kind c0 c1 c2 c3 c4 c5 c6 c7 c8 c9)) W (Rd.nil _) ho.rd (by simp) (by have:=HEL.out;omega)).mono ?_
    rw [HFP.out]
    rintro e w' ⟨v,rfl,ho2,hu⟩
    obtain ⟨a,k,rfl,-⟩:=ho2.rd
    exact ⟨a,_,k,rfl,ho2.base_le hW.size,hW.seq hu⟩
   have HC3:Hid (∀ W a n k,Own bv w2.heap.size 5 W (.slice a n k) (frameOf (encRec (mkRec ino gen at_ rule kind c0 c1 c2 c3 c4 c5 c6 c7 c8 c9)))→Upd [] w2 W→Calls Tryz.prog 128 #[.pointer (some ⟨gd,0,none⟩),sv nmL,.slice a n k] W fun e w'=>e = .returned (.int .i64 r1)∧Hid (DOut w0 W gd G s1 w')∧Hid (Upd [] w2 W)∧Upd G w2 w'):=fun W a n k ho hW=>by
    refine (dAppend_any nmL _ _ ho.rd (fun _ x hx hg=>by have:=(ho.ge x hx).1;have:=HGX.out x hg;have:=HSZ.out;omega) (HL2.out.dd.upd0 hW) HFL.out.1 HN.out HLG.out).mono ?_
    rw [HAP.out]
    rintro e w' ⟨rfl,hd⟩
    exact ⟨rfl,hd,hW,by obtain ⟨G',k1,k2,k3⟩:=hd;exact hW.trans k2 (by simp) (fun x hx => .inl hx)⟩
   have ru:=Upd.refl [] w2
   clear hu2 hb2 hc hF HB1 HU1
   go_wp2_with fail
   go_region_held3 (fun W=>W.cell? ⟨gl,0,none⟩=some (.pointer (some ⟨gd,0,none⟩))∧W.cell? ⟨w.heap.size,0,none⟩=some (.int .i64 ino)∧W.cell? ⟨w.heap.size,1,none⟩=some (.int .i64 gen)∧W.cell? ⟨w.heap.size,2,none⟩=some (.int .i64 at_)∧W.cell? ⟨w.heap.size,3,none⟩=some (.string rule)∧W.cell? ⟨w.heap.size,4,none⟩=some (.int .i64 kind)∧W.cell? ⟨w.heap.size,5,none⟩=some (.int .i64 c0)∧W.cell? ⟨w.heap.size,6,none⟩=some (.int .i64 c1)∧W.cell? ⟨w.heap.size,7,none⟩=some (.int .i64 c2)∧W.cell? ⟨w.heap.size,8,none⟩=some (.int .i64 c3)∧W.cell? ⟨w.heap.size,9,none⟩=some (.int .i64 c4)∧W.cell? ⟨w.heap.size,10,none⟩=some (.int .i64 c5)∧W.cell? ⟨w.heap.size,11,none⟩=some (.int .i64 c6)∧W.cell? ⟨w.heap.size,12,none⟩=some (.int .i64 c7)∧W.cell? ⟨w.heap.size,13,none⟩=some (.int .i64 c8)∧W.cell? ⟨w.heap.size,14,none⟩=some (.int .i64 c9)) (first|go_keep|exact HKEEP.out [] _ (.inl rfl) ru|exact HKEEP.out G _ (.inr rfl) ru3)
    (first
     | (go_at_call 218;(with_reducible refine (HC1.out _ (Upd.seq ru ?_)).mono ?_);(repeat (first|exact Upd.refl _ _|apply Upd.drew|apply Upd.drewN|apply Upd.alloc));(rintro _ W1 ⟨a1,n1,k1,rfl,ho1,ru⟩;dsimp only))
     | (go_at_call 129;(with_reducible refine (HC2.out _ a1 n1 k1 (Own.upd (S:=[]) ho1.out ?_ (by simp)) (Upd.seq ru ?_)).mono ?_);(repeat (first|exact Upd.refl _ _|apply Upd.drew|apply Upd.drewN|apply Upd.alloc));(rintro _ W2 ⟨a2,n2,k2,rfl,ho2,ru⟩;dsimp only))
     | (go_at_call 128;(with_reducible refine (HC3.out _ a2 n2 k2 (Own.upd (S:=[]) ho2.out ?_ (by simp)) (Upd.seq ru ?_)).mono ?_);(repeat (first|exact Upd.refl _ _|apply Upd.drew|apply Upd.drewN|apply Upd.alloc));(rintro _ W3 ⟨rfl,hd3,hw3,ru3⟩;dsimp only)))
   all_goals
    obtain ⟨G3,h3,hu3,hf3⟩:=HL2.out.disk hw3.out hd3.out
    have H3:=Lib.hid h3
    have HU3:=Lib.hid hu3
    have HF3:=Lib.hid hf3
    clear hd3 hw3 ru3 ho1 ho2 ru HC1 HC2 HC3 gc0 d0 d1 d2 d3 d4 d5 d6 d7 d8 d9 d10 d11 d12 d13 d14 HL2 h3 hf3
    by_cases hz:r1=0
    ·subst hz
     have HE2:Hid (lAdd rl s (mkRec ino gen at_ rule kind c0 c1 c2 c3 c4 c5 c6 c7 c8 c9)=((true,0),rl++[mkRec ino gen at_ rule kind c0 c1 c2 c3 c4 c5 c6 c7 c8 c9],s1)):=by unfold Hid;rw [HE.out,if_pos rfl]
     obtain ⟨-,e0,e1,e2,e3,e4,e5,e6,e7,e8,e9,e10,e11,e12,e13,e14⟩:=HKEEP.out G W3 (.inr rfl) hu3
     clear hu3
     go_wp2_with fail
     obtain ⟨gm3,lv3,hc3,hF3⟩:=H3.out.lc
     (with_reducible refine (ledKeep_c hc3 ino gen at_ rule kind c0 c1 c2 c3 c4 c5 c6 c7 c8 c9 HK.out HRL.out).mono ?_)
     rintro e w4 ⟨rfl,lv4,hc4,hu4,hb4⟩
     have hge3:=hc3.ge
     have hsz2:=HU2.out.size
     have hsz3:=HU3.out.size
     have hap4:Ap (lfoot gl gm3 lv4) G3:=fun x hx hg=>by
      have hd:x∈lfoot gl gm3 lv3→False:=fun q=>H3.out.ap x (by rw [hF3];exact q) hg
      rcases List.mem_cons.1 hx with q|hx
      ·exact hd (by rw [q];exact lf_top _ _ _)
      ·rcases List.mem_cons.1 hx with q|hx
       ·exact hd (by rw [q];exact lf_map _ _ _)
       ·rcases hb4 x hx with q|q
        ·exact hd (lf_row q)
        ·have:=(H3.out.dd.ge x hg).2;omega
     have hd4:=H3.out.dd.upd hu4 (fun x hx hf=>H3.out.ap x (by rw [hF3];exact hf) hx) (fun x hx=>(hge3 x hx).1)
     have hout:LOut w0 w gd gl (F++G) (rl++[mkRec ino gen at_ rule kind c0 c1 c2 c3 c4 c5 c6 c7 c8 c9]) s1 w4:=by
      refine ⟨lfoot gl gm3 lv4,G3,⟨⟨gm3,lv4,hc4,rfl⟩,hd4,hap4,fun r hr=>?_⟩,?_,fun x hx=>?_,fun x hx=>?_⟩
      ·rcases List.mem_append.1 hr with q|q
       ·exact H3.out.ok r q
       ·simp at q;rw [q];exact HOK.out
      ·refine (HU2.out.trans HU3.out (T:=F++G) (by simp) (fun x hx => .inl (List.mem_append.2 (.inr hx)))).trans hu4 (fun x hx=>hx) (fun x hx => .inl (List.mem_append.2 (.inl ?_)))
       rw [hF3];exact hx
      ·have hi:x∈lfoot gl gm3 lv3→x∈F++G:=fun q=>List.mem_append.2 (.inl (by rw [hF3];exact q))
       rcases List.mem_cons.1 hx with q|hx
       ·exact .inl (hi (by rw [q];exact lf_top _ _ _))
       ·rcases List.mem_cons.1 hx with q|hx
        ·exact .inl (hi (by rw [q];exact lf_map _ _ _))
        ·rcases hb4 x hx with q|q
         ·exact .inl (hi (lf_row q))
         ·exact .inr (by omega)
      ·rcases HF3.out x hx with q|q
       ·exact .inl (List.mem_append.2 (.inr q))
       ·exact .inr (by omega)
     have HOUT:=Lib.hid hout
     clear hout hd4 hap4 hc4 hu4 hb4 hc3 hge3
     go_wp2_with fail
     go_ret2
     exact ⟨by rw [HE2.out];rfl,by rw [HE2.out];exact HOUT.out⟩
    ·have ez:(r1 != 0)=true:=by rw [bne_iff_ne];exact hz
     have HE2:Hid (lAdd rl s (mkRec ino gen at_ rule kind c0 c1 c2 c3 c4 c5 c6 c7 c8 c9)=((false,r1),rl,s1)):=by unfold Hid;rw [HE.out,if_neg hz]
     have HOUT:Hid (LOut w0 w gd gl (F++G) rl s1 W3):=by
      have hsz2:=HU2.out.size
      exact H0.out.out H3.out (HU2.out.trans HU3.out (by simp) (fun x hx => .inl hx)) (fun x hx=>(HF3.out x hx).imp id (fun q=>by omega))
     clear hz hu3
     go_wp2_with fail
     go_ret2
     exact ⟨by rw [HE2.out];rfl,by rw [HE2.out];exact HOUT.out⟩
theorem ledAdd_any (h:LD w0 w gd gl F G rl s) (r:Rec) (hn:s.now.length≤4999) (hlg:s.log.length≤500000000) (hrl:rl.length≤100000000) {b:Bool} {er:Int} {rl':List Rec} (he:lAdd rl s r=((b,er),rl',s')) :
  Calls Tryz.prog 166 #[.pointer (some ⟨gl,0,none⟩),recVal r] w fun e w'=>e = .returned (.tuple #[.bool b,.int .i64 er])∧LOut w0 w gd gl (F++G) rl' s' w':=by
 obtain ⟨ino,gen,at_,rule,kind,c0,c1,c2,c3,c4,c5,c6,c7,c8,c9,rfl⟩:=rec_mk r
 have:=ledAdd_c h ino gen at_ rule kind c0 c1 c2 c3 c4 c5 c6 c7 c8 c9 hn hlg hrl
 rw [he] at this
 exact this
end
end Go.Proofs.YthgnlfikneipiaaGreat
namespace Go.Proofs.YthgnlfikneipiaaGreat
open Go.RowKit
theorem RdN.drop {α:Type} [Inhabited α] {sz:Nat} {c:α→List Value} {w:World} {a:Option Addr} {n cap:Nat} {l:List α} (h:RdN sz c w (.slice a n cap) l) (k:Nat) (hk:k≤l.length) :
  RdN sz c w (.slice (if cap=k then a else a.map (·.add (k*sz))) (n-k) (cap-k)) (l.drop k):=by
 obtain ⟨a',cap',he,h1,h2,h3⟩:=h
 injection he with e1 e2 e3;subst e1;subst e2;subst e3
 refine ⟨_,_,by rw [List.length_drop],by rw [List.length_drop];omega,by omega,fun hne=>?_⟩
 have hlt:k < l.length:=by
  rcases Nat.lt_or_ge k l.length with q|q
  ·exact q
  ·exact absurd (List.drop_eq_nil_of_le q) hne
 obtain ⟨b,off,rfl,hc⟩:=h3 (fun q=>by subst q;simp at hlt)
 refine ⟨b,off+k*sz,by rw [if_neg (by omega)];simp [add_none],fun j hj i hi=>?_⟩
 rw [List.length_drop] at hj
 rw [nth_drop,← hc (k+j) (by omega) i hi,Nat.add_mul]
 congr 2;omega
section
variable {w0 w w' : World} {gl gd gm : Nat} {lv : Value} {rl : List Rec}
set_option maxRecDepth 20000 in
set_option maxHeartbeats 1000000 in
theorem ledList_any (h:LC w0 w gl gd gm lv rl) (n:Int) (m:Nat) (hm:m≤rl.length) (hn:(n < 0∧m=0)∨(n=(m:Int))∨(((rl.length:Int) < n)∧m=rl.length)) (hl:rl.length≤100000000) :
  Calls Tryz.prog 78 #[.pointer (some ⟨gl,0,none⟩),.int .i64 n] w fun e w'=>∃ a q k,e = .returned (.slice a q k)∧OwnN 15 recCells w.heap.size 48 w' (.slice a q k) (rl.drop m)∧Upd [] w w':=by
 obtain ⟨a,k,rfl,hk1,hk2⟩:=own_slice h.rows
 have c1:w.cell? ⟨gl,1,none⟩=some (.slice a rl.length k):=h.top.cell 1
 have hk3:k≤9223372036854775807:=by unfold maxLen at hk2;omega
 obtain ⟨A,hA,hcut⟩:∃ A:Option Addr,A=(if k=m then a else a.map (·.add (m*15)))∧∀ W,(Instr.slice 36 (.slice a rl.length k) (some (.int .i64 (m:Int))) none none).run Tryz.prog W = .ok (.slice A (rl.length-m) (k-m)) W :=
  ⟨_,rfl,fun W=>run_cut (P:=Tryz.prog) (size:=15) undRec infoRec a rl.length k m hm W⟩
 have hrd:RdN 15 recCells w (.slice A (rl.length-m) (k-m)) (rl.drop m):=by
  rw [hA];exact (h.rows.rd recCells_len).drop m hm
 have HRUN:=Lib.hid (fun ty=>run_appN (P:=Tryz.prog) (w:=w) (ty:=ty) recCells_len (by decide) recCells_one undRec infoRec3 rfl (.slice none 0 0) (.slice A (rl.length-m) (k-m)) [] (rl.drop m) (OwnN.nil w.heap.size _ w) hrd (by simp;omega) (by simp [maxLen];omega) (Nat.le_refl _))
 have HM:=Lib.hid hm
 have HRUN0:=Lib.hid (fun ty=>run_appN (P:=Tryz.prog) (w:=w) (ty:=ty) recCells_len (by decide) recCells_one undRec infoRec3 rfl (.slice none 0 0) (.slice a rl.length k) [] rl (OwnN.nil w.heap.size _ w) (h.rows.rd recCells_len) (by simp;omega) (by simp [maxLen];omega) (Nat.le_refl _))
 obtain ⟨Q,hQ⟩:∃ Q,rl.length-m=Q:=⟨_,rfl⟩
 obtain ⟨R,hR⟩:∃ R,k-m=R:=⟨_,rfl⟩
 rw [hQ,hR] at HRUN hcut
 clear hrd h hA hQ hR
 rcases hn with ⟨n1,rfl⟩|rfl|⟨n1,rfl⟩
 ·have n2:¬ (0:Int) < n:=by omega
  have n3:¬ ((rl.length:Nat):Int) < 0:=by omega
  clear HRUN hcut
  go_enter Tryz.func78,Tryz.ntmps78
  go_wp2_with (at_builtin;go_must (refine wpList_app_of rfl _ _ rfl (.slice none 0 0) (.slice a rl.length k) rfl rfl (HRUN0.out _) ?_;rintro v2 w2 ⟨ho2,hu2,hk2⟩;have HO2:=Lib.hid ho2;have HU2:=Lib.hid hu2;clear ho2 hu2 hk2 HRUN0;dsimp only))
  obtain ⟨a2,k2,rfl,-⟩:=own_slice HO2.out
  go_ret
  exact ⟨_,_,_,rfl,(by have:=HO2.out;rw [List.nil_append] at this;exact this),HU2.out.mono (by simp [blk])⟩
 ·have n2:(0:Int)≤m:=by omega
  have n3:(m:Int)≤rl.length:=by omega
  go_enter Tryz.func78,Tryz.ntmps78
  go_wp2_with (at_builtin;go_must (refine wpList_app_of rfl _ _ rfl (.slice none 0 0) (.slice A Q R) rfl rfl (HRUN.out _) ?_;rintro v2 w2 ⟨ho2,hu2,hk2⟩;have HO2:=Lib.hid ho2;have HU2:=Lib.hid hu2;clear ho2 hu2 hk2 HRUN;dsimp only))
  obtain ⟨a2,k2,rfl,-⟩:=own_slice HO2.out
  go_ret
  exact ⟨_,_,_,rfl,HO2.out,HU2.out.mono (by simp [blk])⟩
 ·have n2:(0:Int) < n:=by omega
  go_enter Tryz.func78,Tryz.ntmps78
  go_wp2_with (at_builtin;go_must (refine wpList_app_of rfl _ _ rfl (.slice none 0 0) (.slice A Q R) rfl rfl (HRUN.out _) ?_;rintro v2 w2 ⟨ho2,hu2,hk2⟩;have HO2:=Lib.hid ho2;have HU2:=Lib.hid hu2;clear ho2 hu2 hk2 HRUN;dsimp only))
  obtain ⟨a2,k2,rfl,-⟩:=own_slice HO2.out
  go_ret
  exact ⟨_,_,_,rfl,HO2.out,HU2.out.mono (by simp [blk])⟩
end
abbrev reqs (ino gen at_:Int) (rule:ByteArray) (kind c0 c1 c2 c3 c4 c5 c6 c7 c8 c9:Int) (ino' gen' at':Int) (rule':ByteArray) (kind' d0 d1 d2 d3 d4 d5 d6 d7 d8 d9:Int):Prop:=((ino=ino'∧gen=gen'∧at_=at'∧rule=rule')∧kind=kind'∧c0=d0∧c1=d1∧c2=d2∧c3=d3∧c4=d4∧c5=d5∧c6=d6∧c7=d7∧c8=d8∧c9=d9)
theorem rec_eq (ino gen at_:Int) (rule:ByteArray) (kind c0 c1 c2 c3 c4 c5 c6 c7 c8 c9:Int) (ino' gen' at':Int) (rule':ByteArray) (kind' d0 d1 d2 d3 d4 d5 d6 d7 d8 d9:Int):mkRec ino gen at_ rule kind c0 c1 c2 c3 c4 c5 c6 c7 c8 c9=mkRec ino' gen' at' rule' kind' d0 d1 d2 d3 d4 d5 d6 d7 d8 d9↔reqs ino gen at_ rule kind c0 c1 c2 c3 c4 c5 c6 c7 c8 c9 ino' gen' at' rule' kind' d0 d1 d2 d3 d4 d5 d6 d7 d8 d9:=by
 constructor
 ·intro h
  have h1:=congrArg Rec.key h
  have h2:=congrArg Rec.kind h
  have h3:=congrArg (fun r=>r.caps.1) h
  have k1:=congrArg Key.ino h1
  have k2:=congrArg Key.gen h1
  have k3:=congrArg Key.at_ h1
  have k4:=congrArg Key.rule h1
  simp at h3
  exact ⟨⟨k1,k2,k3,k4⟩,h2,h3⟩
 ·rintro ⟨⟨rfl,rfl,rfl,rfl⟩,rfl,rfl,rfl,rfl,rfl,rfl,rfl,rfl,rfl,rfl,rfl⟩
  rfl
theorem str_beq (a b:ByteArray):(a.toList==b.toList)=decide (a=b):=by
 by_cases h:a=b
 ·rw [h];simp
 ·rw [decide_eq_false h,beq_eq_false_iff_ne];exact fun q=>h (str_inj _ _ q)
theorem undKeyF:Tryz.prog.underlying 44=some (.struct (Tryz.prog.fieldsOf 44)):=by kernel_rfl
theorem undRecF:Tryz.prog.underlying 48=some (.struct (Tryz.prog.fieldsOf 48)):=by kernel_rfl
set_option maxRecDepth 20000 in
theorem keyEq_run (d:Nat) (w:World) (ino gen at_:Int) (rule:ByteArray) (ino' gen' at':Int) (rule':ByteArray):(Op.equalIn (d+2) 44 (.agg #[.int .i64 ino,.int .i64 gen,.int .i64 at_,.string rule]) (.agg #[.int .i64 ino',.int .i64 gen',.int .i64 at',.string rule'])).run Tryz.prog w = .ok (decide (ino=ino'∧gen=gen'∧at_=at'∧rule=rule')) w:=by
 rw [run_equalIn_struct w (d+1) _ _ _ undKeyF (by kernel_rfl)]
 simp only [Program.fieldsOf,Tryz.underlying44]
 simp [Op.eqFields,part,go_sem,run_equalIn_int w d 3 .i64 .i64 _ _ Tryz.underlying3,run_equalIn_string w d 9 _ _ Tryz.underlying9,str_beq]
 repeat' split
 all_goals simp_all
set_option maxRecDepth 20000 in
theorem capsEq_d (d:Nat) (w:World) (c0 c1 c2 c3 c4 c5 c6 c7 c8 c9 d0 d1 d2 d3 d4 d5 d6 d7 d8 d9:Int):(Op.equalIn (d+2) 46 (.agg #[.int .i64 c0,.int .i64 c1,.int .i64 c2,.int .i64 c3,.int .i64 c4,.int .i64 c5,.int .i64 c6,.int .i64 c7,.int .i64 c8,.int .i64 c9]) (.agg #[.int .i64 d0,.int .i64 d1,.int .i64 d2,.int .i64 d3,.int .i64 d4,.int .i64 d5,.int .i64 d6,.int .i64 d7,.int .i64 d8,.int .i64 d9])).run Tryz.prog w = .ok (decide (c0=d0∧c1=d1∧c2=d2∧c3=d3∧c4=d4∧c5=d5∧c6=d6∧c7=d7∧c8=d8∧c9=d9)) w:=by
 obtain ⟨i,hi⟩:=infoI
 rw [run_equalIn_array w (d+1) _ _ Tryz.underlying46 hi,cellsI]
 simp [Op.eqItems,List.range_succ,part,go_sem,run_equalIn_int w d 3 .i64 .i64 _ _ Tryz.underlying3]
 repeat' split
 all_goals simp_all
theorem part_key (w:World) (ino gen at_:Int) (rule:ByteArray) (kind c0 c1 c2 c3 c4 c5 c6 c7 c8 c9:Int):(part 44 #[.int .i64 ino,.int .i64 gen,.int .i64 at_,.string rule,.int .i64 kind,.int .i64 c0,.int .i64 c1,.int .i64 c2,.int .i64 c3,.int .i64 c4,.int .i64 c5,.int .i64 c6,.int .i64 c7,.int .i64 c8,.int .i64 c9] 0).run Tryz.prog w = .ok (.agg #[.int .i64 ino,.int .i64 gen,.int .i64 at_,.string rule]) w:=by kernel_rfl
theorem part_caps (w:World) (ino gen at_:Int) (rule:ByteArray) (kind c0 c1 c2 c3 c4 c5 c6 c7 c8 c9:Int):(part 46 #[.int .i64 ino,.int .i64 gen,.int .i64 at_,.string rule,.int .i64 kind,.int .i64 c0,.int .i64 c1,.int .i64 c2,.int .i64 c3,.int .i64 c4,.int .i64 c5,.int .i64 c6,.int .i64 c7,.int .i64 c8,.int .i64 c9] 5).run Tryz.prog w = .ok (.agg #[.int .i64 c0,.int .i64 c1,.int .i64 c2,.int .i64 c3,.int .i64 c4,.int .i64 c5,.int .i64 c6,.int .i64 c7,.int .i64 c8,.int .i64 c9]) w:=by kernel_rfl
theorem part_kind (w:World) (ino gen at_:Int) (rule:ByteArray) (kind c0 c1 c2 c3 c4 c5 c6 c7 c8 c9:Int):(part 3 #[.int .i64 ino,.int .i64 gen,.int .i64 at_,.string rule,.int .i64 kind,.int .i64 c0,.int .i64 c1,.int .i64 c2,.int .i64 c3,.int .i64 c4,.int .i64 c5,.int .i64 c6,.int .i64 c7,.int .i64 c8,.int .i64 c9] 4).run Tryz.prog w = .ok (.int .i64 kind) w:=by kernel_rfl
set_option maxRecDepth 20000 in
theorem recEq_run (w:World) (ino gen at_:Int) (rule:ByteArray) (kind c0 c1 c2 c3 c4 c5 c6 c7 c8 c9:Int) (ino' gen' at':Int) (rule':ByteArray) (kind' d0 d1 d2 d3 d4 d5 d6 d7 d8 d9:Int):(Op.equalIn 10000 48 (mkVal ino gen at_ rule kind c0 c1 c2 c3 c4 c5 c6 c7 c8 c9) (mkVal ino' gen' at' rule' kind' d0 d1 d2 d3 d4 d5 d6 d7 d8 d9)).run Tryz.prog w = .ok (decide (mkRec ino gen at_ rule kind c0 c1 c2 c3 c4 c5 c6 c7 c8 c9=mkRec ino' gen' at' rule' kind' d0 d1 d2 d3 d4 d5 d6 d7 d8 d9)) w:=by
 rw [run_equalIn_struct w 9999 _ _ _ undRecF (by kernel_rfl)]
 have h1:=fun W=>keyEq_run 9997 W ino gen at_ rule ino' gen' at' rule'
 have h2:=fun W=>capsEq_d 9997 W c0 c1 c2 c3 c4 c5 c6 c7 c8 c9 d0 d1 d2 d3 d4 d5 d6 d7 d8 d9
 have h3:=fun W=>run_equalIn_int W 9998 3 .i64 .i64 kind kind' Tryz.underlying3
 simp only [Program.fieldsOf,Tryz.underlying48]
 simp only [Op.eqFields,Sem.run_bind,Sem.run_ite,part_key,part_caps,part_kind,Result.andThen_ok,h1,h2,h3,Sem.run_pure]
 simp only [rec_eq]
 by_cases k1:ino=ino'∧gen=gen'∧at_=at'∧rule=rule'
 ·by_cases k2:kind=kind'
  ·by_cases k3:c0=d0∧c1=d1∧c2=d2∧c3=d3∧c4=d4∧c5=d5∧c6=d6∧c7=d7∧c8=d8∧c9=d9
   ·rw [decide_eq_true k1,decide_eq_true k3,decide_eq_true (show reqs ino gen at_ rule kind c0 c1 c2 c3 c4 c5 c6 c7 c8 c9 ino' gen' at' rule' kind' d0 d1 d2 d3 d4 d5 d6 d7 d8 d9 from ⟨k1,k2,k3⟩),k2];simp
   ·rw [decide_eq_true k1,decide_eq_false k3,decide_eq_false (show ¬ reqs ino gen at_ rule kind c0 c1 c2 c3 c4 c5 c6 c7 c8 c9 ino' gen' at' rule' kind' d0 d1 d2 d3 d4 d5 d6 d7 d8 d9 from fun h=>k3 h.2.2),k2];simp
  ·rw [decide_eq_true k1,decide_eq_false (show ¬ reqs ino gen at_ rule kind c0 c1 c2 c3 c4 c5 c6 c7 c8 c9 ino' gen' at' rule' kind' d0 d1 d2 d3 d4 d5 d6 d7 d8 d9 from fun h=>k2 h.2.1)];simp [k2]
 ·rw [decide_eq_false k1,decide_eq_false (show ¬ reqs ino gen at_ rule kind c0 c1 c2 c3 c4 c5 c6 c7 c8 c9 ino' gen' at' rule' kind' d0 d1 d2 d3 d4 d5 d6 d7 d8 d9 from fun h=>k1 h.1)];simp
end Go.Proofs.YthgnlfikneipiaaGreat
