/- TopFiles: the law returns true, whatever it is given. -/
import Derived.Test.YthgnlfikneipiaaGreatMg1
import Derived.Test.YthgnlfikneipiaaGreatMg14
set_option linter.unusedSimpArgs false
set_option linter.unusedVariables false
set_option linter.unusedSectionVars false
set_option maxRecDepth 100000
set_option maxHeartbeats 4000000
namespace Go.Proofs.YthgnlfikneipiaaGreat.lTopFiles
open Go.ChangeShapes Go.WideShapes Go.ChangeAt Go.RowKit Go.Deep
open Go.ChangeMaps (open_string shut_string)
theorem own:ownKnob Tryz.prog.godebug=none:=by kernel_rfl
theorem laidOut:laidOutB Tryz.prog=true:=by kernel_rfl
theorem cells_bytes:Tryz.checked.prog.cellsOf 5=1:=by kernel_rfl
theorem size_bytes:Tryz.checked.prog.bytesOf 5=1:=by kernel_rfl
theorem walk (H:Type) (enc:TypeId×Value→H):a9w Tryz.prog 4 Tryz.f4 H enc (fun ds=>True):=by
 intro W h b ds G a i c I;rw[Tryz.params4] at i a c;obtain⟨j,m,J,o,p0,K,f,rfl,rfl,p,r⟩:=trodAll_cons i;obtain⟨l,s,L,t,p1,M,rfl,rfl,rfl,u,v⟩:=trodAll_cons r;obtain⟨g,w,d2,x,N,O,rfl,rfl,rfl,y,z⟩:=trodAll_cons v;obtain⟨rfl,rfl,rfl⟩:=trodAll_nil z;obtain rfl:b=#[j,l,g]:=by cases b;simp_all
 obtain⟨A,rfl,B⟩:=a9y Tryz.underlying3 (a 0 _ j rfl rfl) p;obtain⟨C,rfl,D⟩:=a9y Tryz.underlying3 (a 1 _ l rfl rfl) u;obtain⟨E,F,d,u2⟩:=b5c Tryz.underlying33 Tryz.underlying5 cells_bytes size_bytes (a 2 _ g rfl rfl) y;have d:=d _ _ 2 c rfl rfl;exact d4t W A B C D g E F d
theorem lifted (os:Os) (started:os.Started) (H:Type) (enc:TypeId×Value→H) :
  ReturnsInHanded {} Tryz.checked os 4 .any (Rows.topFilesSpec.pre6 enc Tryz.prog Tryz.f4 Rows.topFilesRow.domain false) (Rows.topFilesSpec.post enc Tryz.prog Tryz.f4 false true false false) :=
 c7a (C:=Tryz.checked) own started (by kernel_rfl) Tryz.func4
  (ChangeSpec.witness6 (enc:=enc) (C:=Tryz.checked) false ⟨#[],#[.int .i64 0,.int .i64 0,.slice none 0 0],[]⟩ 8 (by kernel_rfl) (by kernel_rfl) (by kernel_rfl) (by kernel_rfl))
  laidOut (by rw[Tryz.params4];intro t a;simp only[aG,bF,or_false] at a;rcases a with rfl|rfl|rfl<;>exact⟨by kernel_rfl,bI (by kernel_rfl)⟩) rfl 4 (by kernel_rfl) Tryz.underlying4 (by intro b h;match b,h with|[d0,d1,d2],_=>exact⟨rfl,rfl,rfl⟩) (walk H enc)
theorem fact0:(Rows.topFilesRow.wf (OpenSpec.ofChange Rows.topFilesSpec))=true:=by kernel_rfl
theorem fact1:(laidOutB Tryz.pinned.checked.prog)=true:=by kernel_rfl
theorem fact2:(mapsRowed Tryz.pinned.checked.prog)=true:=by kernel_rfl
theorem fact3:(Tryz.f4.params.all (Tryz.pinned.checked.prog.readableRec ·))=true:=by kernel_rfl
theorem fact4:(namedTie Tryz.pinned.checked.prog Rows.topFilesRow.named Rows.topFilesSpec.vars)=true:=by kernel_rfl
theorem fact5:((Rows.topFilesRow.stops==[]))=true:=by kernel_rfl
theorem fact6:((Tryz.pinned.checked.prog.stops==[]))=true:=by kernel_rfl
theorem fact7:((Rows.topFilesRow.knobs==[]))=true:=by kernel_rfl
theorem fact8:((Tryz.pinned.checked.prog.stopKnobs==[]))=true:=by kernel_rfl
theorem fact9:((Rows.topFilesRow.inPlace==Tryz.pinned.checked.prog.inPlace 4))=true:=by kernel_rfl
theorem fact10:((Rows.topFilesRow.unfollowed==Tryz.pinned.checked.prog.unfollowed 4))=true:=by kernel_rfl
theorem fact11:((Rows.topFilesRow.recurses==Tryz.pinned.checked.prog.recurses 4))=true:=by kernel_rfl
theorem fact12:((Rows.topFilesRow.named==Tryz.pinned.checked.prog.varsNamed 4))=true:=by kernel_rfl
theorem fact13:((Rows.topFilesRow.maps==(Tryz.f4.params.toList++Rows.topFilesSpec.plain.varTypes Tryz.pinned.checked.prog).any (Tryz.pinned.checked.prog.mapsRec ·)))=true:=by kernel_rfl
theorem fact14:((Rows.topFilesRow.ifaces==(Tryz.f4.params.toList++Rows.topFilesSpec.plain.varTypes Tryz.pinned.checked.prog).any (Tryz.pinned.checked.prog.ifacesRec ·)))=true:=by kernel_rfl
theorem fact15:((Rows.topFilesRow.mapsOut==Tryz.pinned.checked.prog.mapsAmong Tryz.f4.resultTypes.toList))=true:=by kernel_rfl
theorem fact16:((Rows.topFilesRow.loops==(Tryz.f4.params.toList++Rows.topFilesSpec.plain.varTypes Tryz.pinned.checked.prog).any (Tryz.pinned.checked.prog.loopsFrom ·)))=true:=by kernel_rfl
theorem fact17:((Rows.topFilesRow.wideKeys==(Tryz.f4.params.toList++Rows.topFilesSpec.plain.varTypes Tryz.pinned.checked.prog++Tryz.f4.resultTypes.toList).any (Tryz.pinned.checked.prog.wideKeysFrom ·)))=true:=by kernel_rfl
theorem fact18:(Rows.topFilesSpec.vars.all (Tryz.pinned.checked.prog.varReadable ·))=true:=by kernel_rfl
theorem fact19:(Tryz.f4.resultTypes.all (fun t=>Tryz.pinned.checked.prog.readableRec t&&decide (t < Tryz.pinned.checked.prog.types.size)))=true:=by kernel_rfl
theorem fact20:((Rows.topFilesRow.ifacesOut==Tryz.f4.resultTypes.toList.any (Tryz.pinned.checked.prog.ifacesRec ·)))=true:=by kernel_rfl
theorem fact21:((Rows.topFilesRow.loopsOut==Tryz.f4.resultTypes.toList.any (Tryz.pinned.checked.prog.loopsFrom ·)))=true:=by kernel_rfl
theorem fact22:((Rows.topFilesRow.plainKeys==Tryz.pinned.checked.prog.plainKeys))=true:=by kernel_rfl
theorem fact23:(Rows.topFilesRow.shortTexts.isNone)=true:=by kernel_rfl
theorem fact24:(Tryz.pinned.checked.prog.stopsHeard)=true:=by kernel_rfl
theorem fact25:(Tryz.pinned.checked.prog.mayEnter)=true:=by kernel_rfl
theorem fact26:((Rows.topFilesRow.lifted==Tryz.pinned.checked.prog.liftsFinal))=true:=by kernel_rfl
theorem fact27:((Tryz.pinned.checked.prog.make==some Rows.topFilesRow.make))=true:=by kernel_rfl
theorem fact28:((Rows.topFilesRow.kinds==(if Rows.topFilesRow.domain.isEmpty then [] else Tryz.f4.params.toList.map fun t=>match Tryz.pinned.checked.prog.underlying t with|some (.int k)=>some k|_=>none)))=true:=by kernel_rfl
theorem fact29:((Rows.topFilesRow.pinned==Rows.topFilesRow.pinnedBy))=true:=by kernel_rfl
theorem fact30:((Rows.topFilesRow.veiled==(Tryz.f4.params.toList++Rows.topFilesSpec.plain.varTypes Tryz.pinned.checked.prog++Tryz.f4.resultTypes.toList).any (Tryz.pinned.checked.prog.veiledRec ·)))=true:=by kernel_rfl
theorem fact31:(Rows.topFilesRow.veiledFits Tryz.pinned.checked.prog Tryz.f4.params.toList (Tryz.f4.params.toList++Rows.topFilesSpec.plain.varTypes Tryz.pinned.checked.prog++Tryz.f4.resultTypes.toList))=true:=by kernel_rfl
theorem both {a b:Bool} (h:a=true) (k:b=true):(a&&b)=true:=by rw[h,k];rfl
theorem closed:joinedFacts Tryz.pinned.checked.prog 4 Tryz.f4 Rows.topFilesSpec Rows.topFilesRow=true:=by
 unfold joinedFacts;refine both ?_ fact31;refine both ?_ fact30;refine both ?_ fact29;refine both ?_ fact28;refine both ?_ fact27;refine both ?_ fact26;refine both ?_ fact25;refine both ?_ fact24;refine both ?_ fact23;refine both ?_ fact22;refine both ?_ fact21;refine both ?_ fact20;refine both ?_ fact19;refine both ?_ fact18;refine both ?_ fact17;refine both ?_ fact16;refine both ?_ fact15;refine both ?_ fact14;refine both ?_ fact13;refine both ?_ fact12;refine both ?_ fact11;refine both ?_ fact10;refine both ?_ fact9;refine both ?_ fact8;refine both ?_ fact7;refine both ?_ fact6;refine both ?_ fact5;refine both ?_ fact4;refine both ?_ fact3;refine both ?_ fact2;refine both ?_ fact1;exact fact0
theorem named:Tryz.pinned.checked.prog.funcNamed Rows.topFilesRow.func=some 4:=by kernel_rfl
theorem inst:Tryz.f4.isInstance Tryz.pinned.checked.prog Rows.topFilesRow.origin Rows.topFilesRow.targs:=bI (by kernel_rfl)
theorem wrap:Tryz.f4.isWrapper Tryz.pinned.checked.prog Rows.topFilesRow.wrapper Rows.topFilesRow.mainSum:=by unfold Func.isWrapper;rw[if_neg (of_decide_eq_false (by kernel_rfl))];exact⟨rfl,rfl⟩
theorem proved:Rows.TopFilesSaid :=
 OpenClaim.holds_of_wide 4 Tryz.f4 rfl rfl rfl rfl rfl rfl rfl ⟨rfl,rfl,rfl,rfl,rfl⟩ rfl rfl rfl rfl rfl named Tryz.func4 closed inst wrap
  (fun os a H b _=>lifted os a H b)
end Go.Proofs.YthgnlfikneipiaaGreat.lTopFiles
