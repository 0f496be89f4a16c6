/-
 Proves Rows.PhyNoneSaid: called with any arguments the Go function userplanelaw19.PhyNone returns true and leaves its arguments as they were. Conditions: none.
-/
import Derived.Test.YthmhogdceolkdaaGreatRows
import Derived.Test.YthmhogdceolkdaaGreatBqby
import Derived.WalkKit
import Derived.ProofKit
import Derived.OpenShut
import Derived.ShutString
import Derived.ChangeOld
import Derived.Below
import Derived.Lib.SmallJoins
namespace Go.Proofs.YthmhogdceolkdaaGreat.phyNone
set_option maxRecDepth 100000
set_option maxHeartbeats 1600000
open Go.ChangeShapes Go.WideShapes Go.ChangeAt Go.RowKit Go.Joins
set_option linter.unusedVariables false
set_option linter.unusedSimpArgs false
theorem own:ownKnob Tryz.prog.godebug=none:=by kernel_rfl
theorem laidOut:laidOutB Tryz.prog=true:=by kernel_rfl
theorem walk(xB0 xc0 xk0 xlm0 xhv0:Int)(b1:Int)(xu2 xp2 xf2 xb2 xm2 xs2 xrv2:Int)(nw2:Bool)(b3:Bool)(w:World)(wxB0:(Lit.int .i64 xB0).wf=true)(wxc0:(Lit.int .i64 xc0).wf=true)(wxk0:(Lit.int .i64 xk0).wf=true)(wxlm0:(Lit.int .i64 xlm0).wf=true)(wxhv0:(Lit.int .i64 xhv0).wf=true)(w1:(Lit.int .i64 b1).wf=true)(wxu2:(Lit.int .i64 xu2).wf=true)(wxp2:(Lit.int .i64 xp2).wf=true)(wxf2:(Lit.int .i64 xf2).wf=true)(wxb2:(Lit.int .i64 xb2).wf=true)(wxm2:(Lit.int .i64 xm2).wf=true)(wxs2:(Lit.int .i64 xs2).wf=true)(wxrv2:(Lit.int .i64 xrv2).wf=true) :
 Calls Tryz.prog 5 #[.agg #[.int .i64 xB0,.int .i64 xc0,.int .i64 xk0,.int .i64 xlm0,.int .i64 xhv0],.int .i64 b1,.agg #[.int .i64 xu2,.int .i64 xp2,.int .i64 xf2,.int .i64 xb2,.int .i64 xm2,.int .i64 xs2,.int .i64 xrv2,.bool nw2],.bool b3] w fun e w'=>e= .returned (.bool true)/\Below w.heap.size w w':=by
 exact Cr.pnone_any xB0 xc0 xk0 xlm0 xhv0 b1 xu2 xp2 xf2 xb2 xm2 xs2 xrv2 nw2 b3 w
theorem lifted(os:Os)(started:os.Started)(H:Type)(enc:TypeId × Value->H) :
 ReturnsInHanded {} Tryz.checked os 5 .any (Rows.phyNoneSpec.pre6 enc Tryz.prog Tryz.f5 Rows.phyNoneRow.domain false) (Rows.phyNoneSpec.post enc Tryz.prog Tryz.f5 false true false false):=by
 refine returnsInHanded_of_change (C:=Tryz.checked) own started (by kernel_rfl) Tryz.func5
  (ChangeSpec.witness6 (enc:=enc) (C:=Tryz.checked) false ⟨#[],#[.agg #[.int .i64 0,.int .i64 0,.int .i64 0,.int .i64 0,.int .i64 0],.int .i64 0,.agg #[.int .i64 0,.int .i64 0,.int .i64 0,.int .i64 0,.int .i64 0,.int .i64 0,.int .i64 0,.bool false],.bool false],[]⟩ 8 (by kernel_rfl) (by kernel_rfl) (by kernel_rfl) (by kernel_rfl)) ?_
 intro W base args ds gs before hval0 hW hcnd _;have hval:∀ (j:Nat) t v,Tryz.f5.params[j]?=some t->args[j]?=some v->Value.okWide Tryz.prog W .any base t v:=hval0;have hW':=hW;obtain⟨p,q,hA0,hV,rfl,hfz,hnd⟩:=hW;have hA:DataW.TrodAll enc Tryz.prog W 0 (fun _=>true) true Tryz.f5.params.toList args.toList ds p:=hA0;rw [Tryz.params5]at hA hval;obtain⟨v0,vs0,d0,ds0,p0,q0,hargs,rfl,rfl,h0,r0⟩:=trodAll_cons hA;obtain⟨v1,vs1,d1,ds1,p1,q1,rfl,rfl,rfl,h1,r1⟩:=trodAll_cons r0;obtain⟨v2,vs2,d2,ds2,p2,q2,rfl,rfl,rfl,h2,r2⟩:=trodAll_cons r1;obtain⟨v3,vs3,d3,ds3,p3,q3,rfl,rfl,rfl,h3,r3⟩:=trodAll_cons r2;obtain⟨rfl,rfl,rfl⟩:=trodAll_nil r3;obtain rfl:args=#[v0,v1,v2,v3]:=by cases args;simp_all
 obtain⟨rfl,rfl⟩:=trodVars_none hV;have k0:=h0;have lt0:∀ x ∈ p0,x.block<W.heap.size:=by obtain⟨m,hm⟩:=k0;exact DataW.trod_lt m _ _ _ hm
 obtain⟨xB0,xc0,xk0,xlm0,xhv0,rfl,wxB0,wxc0,wxk0,wxlm0,wxhv0⟩:=open_pc (hval 0 25 v0 rfl rfl) h0;obtain⟨b1,rfl,rfl,rfl,w1⟩:=open_int Tryz.underlying3 (hval 1 3 v1 rfl rfl) h1;have k2:=h2;have lt2:∀ x ∈ p2,x.block<W.heap.size:=by obtain⟨m,hm⟩:=k2;exact DataW.trod_lt m _ _ _ hm
 obtain⟨xu2,xp2,xf2,xb2,xm2,xs2,xrv2,nw2,rfl,wxu2,wxp2,wxf2,wxb2,wxm2,wxs2,wxrv2⟩:=open_gt (hval 2 28 v2 rfl rfl) h2;obtain⟨b3,rfl,rfl,rfl⟩:=open_bool Tryz.underlying4 (hval 3 4 v3 rfl rfl) h3;clear hA0 hval0;simp only [List.append_nil,List.nil_append]at hW';refine(walk xB0 xc0 xk0 xlm0 xhv0 b1 xu2 xp2 xf2 xb2 xm2 xs2 xrv2 nw2 b3 W wxB0 wxc0 wxk0 wxlm0 wxhv0 w1 wxu2 wxp2 wxf2 wxb2 wxm2 wxs2 wxrv2).mono fun e W' ⟨he,bel⟩=>?_;subst he;exact⟨_,rfl,_,_,_,[],_,[],hW',trodAll_mk1 (shut_bool Tryz.underlying4 _),(trodAll_cons_mk (Below.trod laidOut (by kernel_rfl) (of_decide_eq_true (by kernel_rfl)) k0 bel lt0) (trodAll_cons_mk (shut_int Tryz.underlying3 w1) (trodAll_cons_mk (Below.trod laidOut (by kernel_rfl) (of_decide_eq_true (by kernel_rfl)) k2 bel lt2) (trodAll_cons_mk (shut_bool Tryz.underlying4 _) trodAll_mk0)))),rfl,bel.frame _,fun h=>by cases h⟩
theorem fact0:(Rows.phyNoneRow.wf (OpenSpec.ofChange Rows.phyNoneSpec))=true:=by kernel_rfl
theorem fact1:(laidOutB Tryz.prog)=true:=by kernel_rfl
theorem fact2:(mapsRowed Tryz.prog)=true:=by kernel_rfl
theorem fact3:(Tryz.f5.params.all (Tryz.prog.readableRec ·))=true:=by kernel_rfl
theorem fact4:(namedTie Tryz.prog Rows.phyNoneRow.named Rows.phyNoneSpec.vars)=true:=by kernel_rfl
theorem fact5:((Rows.phyNoneRow.stops == []))=true:=by kernel_rfl
theorem fact6:((Tryz.prog.stops == []))=true:=by kernel_rfl
theorem fact7:((Rows.phyNoneRow.knobs == []))=true:=by kernel_rfl
theorem fact8:((Tryz.prog.stopKnobs == []))=true:=by kernel_rfl
theorem fact9:((Rows.phyNoneRow.inPlace == Tryz.prog.inPlace 5))=true:=by kernel_rfl
theorem fact10:((Rows.phyNoneRow.unfollowed == Tryz.prog.unfollowed 5))=true:=by kernel_rfl
theorem fact11:((Rows.phyNoneRow.recurses == Tryz.prog.recurses 5))=true:=by kernel_rfl
theorem fact12:((Rows.phyNoneRow.named == Tryz.prog.varsNamed 5))=true:=by kernel_rfl
theorem fact13:((Rows.phyNoneRow.maps == (Tryz.f5.params.toList ++ Rows.phyNoneSpec.plain.varTypes Tryz.prog).any (Tryz.prog.mapsRec ·)))=true:=by kernel_rfl
theorem fact14:((Rows.phyNoneRow.ifaces == (Tryz.f5.params.toList ++ Rows.phyNoneSpec.plain.varTypes Tryz.prog).any (Tryz.prog.ifacesRec ·)))=true:=by kernel_rfl
theorem fact15:((Rows.phyNoneRow.mapsOut == Tryz.prog.mapsAmong Tryz.f5.resultTypes.toList))=true:=by kernel_rfl
theorem fact16:((Rows.phyNoneRow.loops == (Tryz.f5.params.toList ++ Rows.phyNoneSpec.plain.varTypes Tryz.prog).any (Tryz.prog.loopsFrom ·)))=true:=by kernel_rfl
theorem fact17:((Rows.phyNoneRow.wideKeys == (Tryz.f5.params.toList ++ Rows.phyNoneSpec.plain.varTypes Tryz.prog ++ Tryz.f5.resultTypes.toList).any (Tryz.prog.wideKeysFrom ·)))=true:=by kernel_rfl
theorem fact18:(Rows.phyNoneSpec.vars.all (Tryz.prog.varReadable ·))=true:=by kernel_rfl
theorem fact19:(Tryz.f5.resultTypes.all (fun t=>Tryz.prog.readableRec t && decide (t<Tryz.prog.types.size)))=true:=by kernel_rfl
theorem fact20:((Rows.phyNoneRow.ifacesOut == Tryz.f5.resultTypes.toList.any (Tryz.prog.ifacesRec ·)))=true:=by kernel_rfl
theorem fact21:((Rows.phyNoneRow.loopsOut == Tryz.f5.resultTypes.toList.any (Tryz.prog.loopsFrom ·)))=true:=by kernel_rfl
theorem fact22:((Rows.phyNoneRow.plainKeys == Tryz.prog.plainKeys))=true:=by kernel_rfl
theorem fact23:(Rows.phyNoneRow.shortTexts.isNone)=true:=by kernel_rfl
theorem fact24:(Tryz.prog.stopsHeard)=true:=by kernel_rfl
theorem fact25:(Tryz.prog.mayEnter)=true:=by kernel_rfl
theorem fact26:((Rows.phyNoneRow.lifted == Tryz.prog.liftsFinal))=true:=by kernel_rfl
theorem fact27:((Tryz.prog.make == some Rows.phyNoneRow.make))=true:=by kernel_rfl
theorem fact28:((Rows.phyNoneRow.kinds == (if Rows.phyNoneRow.domain.isEmpty then [] else Tryz.f5.params.toList.map fun t=>match Tryz.prog.underlying t with | some (.int k)=>some k | _=>none)))=true:=by kernel_rfl
theorem fact29:((Rows.phyNoneRow.pinned == Rows.phyNoneRow.pinnedBy))=true:=by kernel_rfl
theorem fact30:((Rows.phyNoneRow.veiled == (Tryz.f5.params.toList ++ Rows.phyNoneSpec.plain.varTypes Tryz.prog ++ Tryz.f5.resultTypes.toList).any (Tryz.prog.veiledRec ·)))=true:=by kernel_rfl
theorem fact31:(Rows.phyNoneRow.veiledFits Tryz.prog Tryz.f5.params.toList (Tryz.f5.params.toList ++ Rows.phyNoneSpec.plain.varTypes Tryz.prog ++ Tryz.f5.resultTypes.toList))=true:=by kernel_rfl
theorem and_t{a b:Bool}(h:a=true)(k:b=true):(a && b)=true:=by rw [h,k];rfl
theorem closed:joinedFacts Tryz.prog 5 Tryz.f5 Rows.phyNoneSpec Rows.phyNoneRow=true:=and_t (and_t (and_t (and_t (and_t (and_t (and_t (and_t (and_t (and_t (and_t (and_t (and_t (and_t (and_t (and_t (and_t (and_t (and_t (and_t (and_t (and_t (and_t (and_t (and_t (and_t (and_t (and_t (and_t (and_t (and_t fact0 fact1) fact2) fact3) fact4) fact5) fact6) fact7) fact8) fact9) fact10) fact11) fact12) fact13) fact14) fact15) fact16) fact17) fact18) fact19) fact20) fact21) fact22) fact23) fact24) fact25) fact26) fact27) fact28) fact29) fact30) fact31
theorem named:Tryz.prog.funcNamed Rows.phyNoneRow.func=some 5:=by kernel_rfl
theorem inst:Tryz.f5.isInstance Tryz.prog Rows.phyNoneRow.origin Rows.phyNoneRow.targs:=of_decide_eq_true (by kernel_rfl)
theorem wrap:Tryz.f5.isWrapper Tryz.prog Rows.phyNoneRow.wrapper Rows.phyNoneRow.mainSum:=by
 unfold Func.isWrapper
 first
  | (rw [if_pos (by decide +kernel)];kernel_rfl)
  | (rw [if_neg (by decide +kernel)];exact⟨rfl,rfl⟩)
theorem over:Rows.phyNoneRow.holds Tryz.pinned (OpenSpec.ofChange Rows.phyNoneSpec) :=
 OpenClaim.holds_of_wide 5 Tryz.f5 rfl rfl rfl rfl rfl rfl rfl ⟨rfl,rfl,rfl,rfl,rfl⟩ rfl rfl rfl rfl rfl named Tryz.func5 closed
  inst wrap (fun os started H enc _=>lifted os started H enc)
theorem proved:Rows.PhyNoneSaid :=
 over
#print axioms proved
end Go.Proofs.YthmhogdceolkdaaGreat.phyNone