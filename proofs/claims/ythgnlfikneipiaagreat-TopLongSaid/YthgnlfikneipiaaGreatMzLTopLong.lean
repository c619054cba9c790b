/- TopLong: the law returns true, whatever it is given. -/
import Derived.Test.YthgnlfikneipiaaGreatMz1
import Derived.Test.YthgnlfikneipiaaGreatMz14
import Derived.Test.YthgnlfikneipiaaGreatMz9
set_option linter.unusedSimpArgs false
set_option linter.unusedVariables false
set_option linter.unusedSectionVars false
namespace Go.Proofs.YthgnlfikneipiaaGreat.lTopLong
open Go.ChangeShapes Go.WideShapes Go.ChangeAt Go.RowKit Go.Deep
open Go.ChangeMaps (open_string shut_string)
theorem own:ownKnob Tryz.prog.godebug=none:=by kernel_rfl
theorem laidOut:laidOutB Tryz.prog=true:=by kernel_rfl
theorem cells_nums:Tryz.checked.prog.cellsOf 3=1:=by kernel_rfl
theorem size_nums:Tryz.checked.prog.bytesOf 3=8:=by kernel_rfl
set_option maxRecDepth 100000 in
theorem walk (H:Type) (enc:TypeId×Value→H):LawCalls Tryz.prog 3 Tryz.f3 H enc (fun ds=>True):=by
 intro W base args ds ps hval hA hsz hk
 rw [Tryz.params3] at hA hval hsz
 obtain ⟨v0,vs0,d0,ds0,p0,q0,hargs,rfl,rfl,h0,r0⟩:=trodAll_cons hA
 obtain ⟨v1,vs1,d1,ds1,p1,q1,rfl,rfl,rfl,h1,r1⟩:=trodAll_cons r0
 obtain ⟨rfl,rfl,rfl⟩:=trodAll_nil r1
 obtain rfl:args=#[v0,v1]:=by cases args;simp_all
 obtain ⟨l0,w0,g0,z0,u0⟩:=open_nums Tryz.underlying22 Tryz.underlying3 cells_nums size_nums (hval 0 _ v0 rfl rfl) h0
 have z0:=z0 _ _ 0 hsz rfl rfl
 obtain ⟨l1,w1⟩:=open_flags (hval 1 _ v1 rfl rfl) h1
 exact topLong W v0 l0 w0 g0 z0 v1 l1 w1
set_option maxRecDepth 100000 in
theorem lifted (os:Os) (started:os.Started) (H:Type) (enc:TypeId×Value→H) :
  ReturnsInHanded {} Tryz.checked os 3 .any (Rows.topLongSpec.pre6 enc Tryz.prog Tryz.f3 Rows.topLongRow.domain false) (Rows.topLongSpec.post enc Tryz.prog Tryz.f3 false true false false) :=
 law_said (C:=Tryz.checked) own started (by kernel_rfl) Tryz.func3
  (ChangeSpec.witness6 (enc:=enc) (C:=Tryz.checked) false ⟨#[],#[.slice none 0 0,.slice none 0 0],[]⟩ 8 (by kernel_rfl) (by kernel_rfl) (by kernel_rfl) (by kernel_rfl))
  laidOut (by rw [Tryz.params3];intro t ht;simp only [List.mem_cons,List.not_mem_nil,or_false] at ht;rcases ht with rfl|rfl<;>exact ⟨by kernel_rfl,of_decide_eq_true (by kernel_rfl)⟩) rfl 4 (by kernel_rfl) Tryz.underlying4 (by intro ds h;match ds,h with|[d0,d1],_=>exact ⟨rfl,rfl,rfl⟩) (walk H enc)
set_option maxRecDepth 100000 in
theorem fact0:(Rows.topLongRow.wf (OpenSpec.ofChange Rows.topLongSpec))=true:=by kernel_rfl
set_option maxRecDepth 100000 in
theorem fact1:(laidOutB Tryz.pinned.checked.prog)=true:=by kernel_rfl
set_option maxRecDepth 100000 in
theorem fact2:(mapsRowed Tryz.pinned.checked.prog)=true:=by kernel_rfl
set_option maxRecDepth 100000 in
theorem fact3:(Tryz.f3.params.all (Tryz.pinned.checked.prog.readableRec ·))=true:=by kernel_rfl
set_option maxRecDepth 100000 in
theorem fact4:(namedTie Tryz.pinned.checked.prog Rows.topLongRow.named Rows.topLongSpec.vars)=true:=by kernel_rfl
set_option maxRecDepth 100000 in
theorem fact5:((Rows.topLongRow.stops==[]))=true:=by kernel_rfl
set_option maxRecDepth 100000 in
theorem fact6:((Tryz.pinned.checked.prog.stops==[]))=true:=by kernel_rfl
set_option maxRecDepth 100000 in
theorem fact7:((Rows.topLongRow.knobs==[]))=true:=by kernel_rfl
set_option maxRecDepth 100000 in
theorem fact8:((Tryz.pinned.checked.prog.stopKnobs==[]))=true:=by kernel_rfl
set_option maxRecDepth 100000 in
theorem fact9:((Rows.topLongRow.inPlace==Tryz.pinned.checked.prog.inPlace 3))=true:=by kernel_rfl
set_option maxRecDepth 100000 in
theorem fact10:((Rows.topLongRow.unfollowed==Tryz.pinned.checked.prog.unfollowed 3))=true:=by kernel_rfl
set_option maxRecDepth 100000 in
theorem fact11:((Rows.topLongRow.recurses==Tryz.pinned.checked.prog.recurses 3))=true:=by kernel_rfl
set_option maxRecDepth 100000 in
theorem fact12:((Rows.topLongRow.named==Tryz.pinned.checked.prog.varsNamed 3))=true:=by kernel_rfl
set_option maxRecDepth 100000 in
theorem fact13:((Rows.topLongRow.maps==(Tryz.f3.params.toList++Rows.topLongSpec.plain.varTypes Tryz.pinned.checked.prog).any (Tryz.pinned.checked.prog.mapsRec ·)))=true:=by kernel_rfl
set_option maxRecDepth 100000 in
theorem fact14:((Rows.topLongRow.ifaces==(Tryz.f3.params.toList++Rows.topLongSpec.plain.varTypes Tryz.pinned.checked.prog).any (Tryz.pinned.checked.prog.ifacesRec ·)))=true:=by kernel_rfl
set_option maxRecDepth 100000 in
theorem fact15:((Rows.topLongRow.mapsOut==Tryz.pinned.checked.prog.mapsAmong Tryz.f3.resultTypes.toList))=true:=by kernel_rfl
set_option maxRecDepth 100000 in
theorem fact16:((Rows.topLongRow.loops==(Tryz.f3.params.toList++Rows.topLongSpec.plain.varTypes Tryz.pinned.checked.prog).any (Tryz.pinned.checked.prog.loopsFrom ·)))=true:=by kernel_rfl
set_option maxRecDepth 100000 in
theorem fact17:((Rows.topLongRow.wideKeys==(Tryz.f3.params.toList++Rows.topLongSpec.plain.varTypes Tryz.pinned.checked.prog++Tryz.f3.resultTypes.toList).any (Tryz.pinned.checked.prog.wideKeysFrom ·)))=true:=by kernel_rfl
set_option maxRecDepth 100000 in
theorem fact18:(Rows.topLongSpec.vars.all (Tryz.pinned.checked.prog.varReadable ·))=true:=by kernel_rfl
set_option maxRecDepth 100000 in
theorem fact19:(Tryz.f3.resultTypes.all (fun t=>Tryz.pinned.checked.prog.readableRec t&&decide (t < Tryz.pinned.checked.prog.types.size)))=true:=by kernel_rfl
set_option maxRecDepth 100000 in
theorem fact20:((Rows.topLongRow.ifacesOut==Tryz.f3.resultTypes.toList.any (Tryz.pinned.checked.prog.ifacesRec ·)))=true:=by kernel_rfl
set_option maxRecDepth 100000 in
theorem fact21:((Rows.topLongRow.loopsOut==Tryz.f3.resultTypes.toList.any (Tryz.pinned.checked.prog.loopsFrom ·)))=true:=by kernel_rfl
set_option maxRecDepth 100000 in
theorem fact22:((Rows.topLongRow.plainKeys==Tryz.pinned.checked.prog.plainKeys))=true:=by kernel_rfl
set_option maxRecDepth 100000 in
theorem fact23:(Rows.topLongRow.shortTexts.isNone)=true:=by kernel_rfl
set_option maxRecDepth 100000 in
theorem fact24:(Tryz.pinned.checked.prog.stopsHeard)=true:=by kernel_rfl
set_option maxRecDepth 100000 in
theorem fact25:(Tryz.pinned.checked.prog.mayEnter)=true:=by kernel_rfl
set_option maxRecDepth 100000 in
theorem fact26:((Rows.topLongRow.lifted==Tryz.pinned.checked.prog.liftsFinal))=true:=by kernel_rfl
set_option maxRecDepth 100000 in
theorem fact27:((Tryz.pinned.checked.prog.make==some Rows.topLongRow.make))=true:=by kernel_rfl
set_option maxRecDepth 100000 in
theorem fact28:((Rows.topLongRow.kinds==(if Rows.topLongRow.domain.isEmpty then [] else Tryz.f3.params.toList.map fun t=>match Tryz.pinned.checked.prog.underlying t with|some (.int k)=>some k|_=>none)))=true:=by kernel_rfl
set_option maxRecDepth 100000 in
theorem fact29:((Rows.topLongRow.pinned==Rows.topLongRow.pinnedBy))=true:=by kernel_rfl
set_option maxRecDepth 100000 in
theorem fact30:((Rows.topLongRow.veiled==(Tryz.f3.params.toList++Rows.topLongSpec.plain.varTypes Tryz.pinned.checked.prog++Tryz.f3.resultTypes.toList).any (Tryz.pinned.checked.prog.veiledRec ·)))=true:=by kernel_rfl
set_option maxRecDepth 100000 in
theorem fact31:(Rows.topLongRow.veiledFits Tryz.pinned.checked.prog Tryz.f3.params.toList (Tryz.f3.params.toList++Rows.topLongSpec.plain.varTypes Tryz.pinned.checked.prog++Tryz.f3.resultTypes.toList))=true:=by kernel_rfl
theorem both {a b:Bool} (h:a=true) (k:b=true):(a&&b)=true:=by rw [h,k];rfl
set_option maxRecDepth 100000 in
theorem closed:joinedFacts Tryz.pinned.checked.prog 3 Tryz.f3 Rows.topLongSpec Rows.topLongRow=true:=by
 unfold joinedFacts
 refine both ?_ fact31
 refine both ?_ fact30
 refine both ?_ fact29
 refine both ?_ fact28
 refine both ?_ fact27
 refine both ?_ fact26
 refine both ?_ fact25
 refine both ?_ fact24
 refine both ?_ fact23
 refine both ?_ fact22
 refine both ?_ fact21
 refine both ?_ fact20
 refine both ?_ fact19
 refine both ?_ fact18
 refine both ?_ fact17
 refine both ?_ fact16
 refine both ?_ fact15
 refine both ?_ fact14
 refine both ?_ fact13
 refine both ?_ fact12
 refine both ?_ fact11
 refine both ?_ fact10
 refine both ?_ fact9
 refine both ?_ fact8
 refine both ?_ fact7
 refine both ?_ fact6
 refine both ?_ fact5
 refine both ?_ fact4
 refine both ?_ fact3
 refine both ?_ fact2
 refine both ?_ fact1
 exact fact0
theorem named:Tryz.pinned.checked.prog.funcNamed Rows.topLongRow.func=some 3:=by kernel_rfl
theorem inst:Tryz.f3.isInstance Tryz.pinned.checked.prog Rows.topLongRow.origin Rows.topLongRow.targs:=of_decide_eq_true (by kernel_rfl)
theorem wrap:Tryz.f3.isWrapper Tryz.pinned.checked.prog Rows.topLongRow.wrapper Rows.topLongRow.mainSum:=by unfold Func.isWrapper;rw [if_neg (of_decide_eq_false (by kernel_rfl))];exact ⟨rfl,rfl⟩
theorem proved:Rows.TopLongSaid :=
 OpenClaim.holds_of_wide 3 Tryz.f3 rfl rfl rfl rfl rfl rfl rfl ⟨rfl,rfl,rfl,rfl,rfl⟩ rfl rfl rfl rfl rfl named Tryz.func3 closed inst wrap
  (fun os started H enc _=>lifted os started H enc)
end Go.Proofs.YthgnlfikneipiaaGreat.lTopLong
