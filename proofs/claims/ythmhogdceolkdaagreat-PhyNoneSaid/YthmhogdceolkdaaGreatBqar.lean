/- Bundle. Conditions: none. -/
import Derived.Test.YthmhogdceolkdaaGreatBqaq
import Derived.OrdersIn
set_option linter.unusedVariables false
set_option linter.unusedSimpArgs false
namespace Go.Proofs.YthmhogdceolkdaaGreat.Cr
open Tryz
open Go.RowKit Go.Shelf
attribute [local go_sem] Oper.semAt_some
def nE(b:Int):Nat:=if b<1\/79560<b then 0 else bC b.toNat
theorem nE_le(b:Int):nE b<=13:=by
 unfold nE;split
 . omega
 . exact bC_le (by omega)
structure EaL (b:Int) (x0 x1 x2 x3 x4 x5 x6:Int):Prop where
 n:x1=(nE b:Int)
 s:∀ j:Nat,j<nE b->(sz b.toNat j:Int)=if (j:Int)<x5 then x3 else x2
theorem plan_all(b:Int)(w:World):Calls prog 109 #[.int .i64 b] w fun e w'=>∃ x0 x1 x2 x3 x4 x5 x6 E,e= .returned (.tuple #[.agg #[.int .i64 x0,.int .i64 x1,.int .i64 x2,.int .i64 x3,.int .i64 x4,.int .i64 x5,.int .i64 x6],.int .i64 E])/\EaL b x0 x1 x2 x3 x4 x5 x6/\Below w.heap.size w w':=by
 by_cases hb:b<1\/79560<b
 . have e0:nE b=0:=by unfold nE;rw [if_pos hb]
   refine(plan_top_bad b w hb).mono ?_;rintro e w' ⟨rfl,hB⟩;exact⟨0,0,0,0,0,0,0,2,rfl,⟨by rw [e0];rfl,fun j hj=>by omega⟩,hB⟩
 . have e0:nE b=bC b.toNat:=by unfold nE;rw [if_neg hb]
   have h:=plan_top b.toNat w (by omega) (by omega);rw [show ((b.toNat:Nat):Int)=b by omega]at h;refine h.mono ?_;rintro e w' ⟨rfl,hB⟩;exact⟨_,_,_,_,_,_,_,0,rfl,⟨by rw [e0],fun j _=>sz_if b.toNat j⟩,hB⟩
def psE(b:Int):List (Int × Int):=(List.range (nE b)).map fun(i:Nat)=>((i:Int),(sz b.toNat i:Int))
theorem psE_len(b:Int):(psE b).length=nE b:=by simp [psE]
theorem psE_succ(b:Int)(k:Nat)(h:k<nE b):(psE b).take (k+1)=(psE b).take k ++ [((k:Int),(sz b.toNat k:Int))]:=by
 rw [takeP_succ _ _ (by rw [psE_len];exact h)];simp [psE]
end Go.Proofs.YthmhogdceolkdaaGreat.Cr
namespace Go.Proofs.YthmhogdceolkdaaGreat.Cr
open Tryz
open Go.RowKit
section
variable {F : Fence} {n : Nat} {P : Program} {ops : Array Oper} {Q : Exit -> Act -> World -> Prop} {md : Region.Mode} {S : World -> Prop} {p : Nat}
def YieldsFor(P:Program)(ops:Array Oper)(S:World->Prop)(o:Oper)(v:Value)(a:Act):Prop:=YieldsIf P ops S o v a/\∀ w,o.about P w a.eval=none
theorem YieldsFor.goes{i:Nat}{o:Oper}{v:Value}{a:Act}(hro:F.round=none)(hi:ops[i]?=some o)(hy:YieldsFor P ops S o v a){K:Act->World->Prop}{w:World}(hS:S w)(h:K (a.put o.dst v) w):wpOpIn F n P ops Q i K a w:=by
 have hab:∀ f,o.about P w a.eval=some f->F.fn f:=fun f hf=>by rw [hy.2 w]at hf;cases hf
 unfold wpOpIn;simp only [hi];rcases hy.1 with⟨hw,hv⟩ | ⟨hw,rfl⟩
 . simp only [hw,if_true,Oper.wpIn,hro,Oper.semAt_none,hv w hS,Oper.uponIn];exact⟨hab,h⟩
 . simp only [hw,Bool.false_eq_true,if_false];exact⟨hab,h⟩
theorem YieldsFor.same{o:Oper}{v:Value}{a a':Act}(hy:YieldsFor P ops S o v a)(he:execOp a'.eval o=execOp a.eval o)(hw:Region.wanted o (yielded ops a'.tmps)=Region.wanted o (yielded ops a.tmps))(hb:∀ w,o.about P w a'.eval=o.about P w a.eval):YieldsFor P ops S o v a' :=
 ⟨hy.1.of_same he hw,fun w=>by rw [hb w];exact hy.2 w⟩
theorem wpOpIn_for{j:Nat}{oi oj:Oper}{v:Value}(hro:F.round=none)(hj:ops[j]?=some oj)(hap:oi.apart ops oj=true)(hsi:∀ cs b,oi.op≠.select cs b)(hsj:∀ cs b,oj.op≠.select cs b)
 (hQ:∀ c a w,Q (.panic c) (a.put oi.dst v) w->Q (.panic c) a w) {K:Act->World->Prop} {a:Act} {w:World} (hy:YieldsFor P ops S oi v a) (h:wpOpIn F n P ops Q j K (a.put oi.dst v) w) :
 wpOpIn F n P ops Q j (fun a' w'=>YieldsFor P ops S oi v a'/\K (a'.put oi.dst v) w') a w:=by
 obtain⟨h1,h2,h3⟩:=Oper.apart_spec hap;have hk:∀ (b:Act),YieldsFor P ops S oi v b->∀ u,YieldsFor P ops S oi v (b.put oj.dst u):=fun b hb u=>hb.same (execOp_put oi hsi b oj.dst u h3) (wanted_put oi b oj.dst u h3) (fun w=>about_put oi w b oj.dst u h3);have hd:∀ d,YieldsFor P ops S oi v {a with defers:=d :: a.defers}:=fun d=>hy.same rfl rfl (fun _=>rfl);have hc:∀ (b:Act) u,(b.put oj.dst u).put oi.dst v=(b.put oi.dst v).put oj.dst u:=fun b u=>(Act.put_comm b v u h2).symm;unfold wpOpIn at *;simp only [hj]at *;rw [wanted_put oj a oi.dst v h1,about_put oj w a oi.dst v h1]at h;by_cases hw:Region.wanted oj (yielded ops a.tmps)=true
 . rw [if_pos hw]at h ⊢
   unfold Oper.wpIn at *;rw [about_put oj w a oi.dst v h1]at h;refine⟨h.1,?_⟩;have h9:=h.2;rw [hro,Oper.semAt_none,execOp_put oj hsj a oi.dst v h1]at h9;rw [hro,Oper.semAt_none];cases hr:(execOp a.eval oj).run P w with
   | ok x w' =>
     rw [hr]at h9;cases x with
     | value u=>exact⟨hk a hy u,by rw [hc];exact h9⟩
     | skip=>exact⟨hk a hy _,by rw [hc];exact h9⟩
     | defer d=>exact⟨hk _ (hd d) _,by rw [hc,<- Act.put_defers];exact h9⟩
     | enter f args =>
       refine⟨h9.1,CallsIn.mono h9.2 fun e w'' he=>?_⟩;cases e with
       | returned u=>exact⟨hk a hy u,by rw [hc];exact he⟩
       | panicked c=>exact hQ _ _ _ he
       | outgrown=>exact he
     | row r args=>exact⟨h9.1,RowsIn.mono h9.2 fun u w'' he=>⟨hk a hy u,by rw [hc];exact he⟩⟩
     | round l f tmps assign body =>
       refine⟨h9.1,RoundIn.mono h9.2 fun e w'' he=>?_⟩;cases e with
       | returned u=>exact⟨hk a hy u,by rw [hc];exact he⟩
       | panicked c=>exact hQ _ _ _ he
       | outgrown=>exact he
     | _=>exact h9
   | halt x w' =>
     rw [hr]at h9;cases x with
     | panic u=>exact hQ _ _ _ h9
     | _=>exact h9
 . rw [if_neg hw]at h ⊢
   exact⟨h.1,hk a hy _,by rw [hc];exact h.2⟩
def wpInP(F:Fence)(n:Nat)(P:Program)(md:Region.Mode)(ops:Array Oper)(Q:Exit->Act->World->Prop)(S:World->Prop)(p:Nat):Nat->Array Bool->Act->World->Prop
 | 0,listed,a,w=>Region.ready md ops listed=[]/\Q .normal a w
 | fuel+1,listed,a,w=>(Region.ready md ops listed=[]->Q .normal a w) /\
   ∀ i ∈ Region.ready md ops listed,wpOpIn F n P ops Q i (fun a' w'=>((listed.setIfInBounds i true).getD p true=false->S w')/\wpInP F n P md ops Q S p fuel (listed.setIfInBounds i true) a' w') a w
theorem wpAnyIn_of_P:∀ (fuel:Nat) (listed:Array Bool) (a:Act) (w:World),wpInP F n P md ops Q S p fuel listed a w->wpAnyIn F n P md ops Q fuel listed a w
 | 0,_,_,_,h=>h
 | fuel+1,_,_,_,h=>⟨h.1,fun i hi=>wpOpIn_mono (fun a' w' h'=>wpAnyIn_of_P fuel _ a' w' h'.2) (h.2 i hi)⟩
theorem wpInP_first{T:World->Prop}{i:Nat}{oi:Oper}{v:Value}{xs:List Nat}{needs:Prop}(hro:F.round=none)(hi:ops[i]?=some oi)(hsel:∀ (j:Nat) (o:Oper) cs b,ops[j]?=some o->o.op≠.select cs b)
 (hQ:∀ c a w,Q (.panic c) (a.put oi.dst v) w->Q (.panic c) a w) (hT:∀ w,(needs->S w)->T w) (hw:needs->pathB md ops i p xs=true) (hip:p≠i) :
 ∀ (fuel:Nat) (listed:Array Bool) (a:Act) (w:World),(needs->ClosedR md ops listed) ->
  (∀ j oj,ops[j]?=some oj->j≠i->listed.getD j true=false->(∀ e ∈ oj.after,Region.binds md e=true->e.on≠i)->oi.apart ops oj=true) ->
  i ∈ Region.ready md ops listed->YieldsFor P ops T oi v a->(needs->listed.getD p true=false)->(listed.getD p true=false->S w) ->
  wpInP F n P md ops Q S p fuel (listed.setIfInBounds i true) (a.put oi.dst v) w->wpInP F n P md ops Q S p (fuel+1) listed a w:=by
 intro fuel;induction fuel with
 | zero =>
   intro listed a w hc _ hr hy hp hS H;refine⟨fun h=>(by rw [h]at hr;cases hr),fun j hj=>?_⟩;by_cases hji:j=i
   . subst hji;exact hy.goes hro hi (hT w fun m=>hS (hp m)) ⟨fun h=>hS (getD_unset h),H⟩
   . have:=ready_mono hj hji
     rw [H.1]at this;cases this
 | succ fuel ih =>
   intro listed a w hc hfree hr hy hp hS H;refine⟨fun h=>(by rw [h]at hr;cases hr),fun j hj=>?_⟩;by_cases hji:j=i
   . subst hji;exact hy.goes hro hi (hT w fun m=>hS (hp m)) ⟨fun h=>hS (getD_unset h),H⟩
   . have hun:=(mem_ready.1 hr).1
     have h1:=H.2 j (ready_mono hj hji);obtain⟨hjun,oj,hoj,hall⟩:=mem_ready.1 hj;have hnot:∀ e ∈ oj.after,Region.binds md e=true->e.on≠i:=fun e he hb heq=>by
      have h9:=hall e he hb;rw [heq,getD_both hun]at h9;cases h9
     have h2:=wpOpIn_for hro hoj (hfree j oj hoj hji hjun hnot) (fun cs b=>hsel i oi cs b hi) (fun cs b=>hsel j oj cs b hoj) hQ hy h1;have hfree':∀ k ok,ops[k]?=some ok->k≠i->(listed.setIfInBounds j true).getD k true=false ->
      (∀ e ∈ ok.after,Region.binds md e=true->e.on≠i)->oi.apart ops ok=true:=fun k ok hk hki hun' hno=>hfree k ok hk hki (getD_unset hun') hno
     refine wpOpIn_mono (fun a' w' h3=>?_) h2;have hpp:needs->(listed.setIfInBounds j true).getD p true=false:=fun m=>by
      have hjp:j≠p:=fun e=>not_ready_path (hc m) (hw m) hun (e ▸ hj);rw [getD_set_ne true hjp];exact hp m
     have hSS:(listed.setIfInBounds j true).getD p true=false->S w':=fun hp=>by
      exact h3.2.1 (by rw [Array.setIfInBounds_comm _ _ (Ne.symm hji),getD_set_ne true (Ne.symm hip)];exact hp)
     refine⟨hSS,ih (listed.setIfInBounds j true) a' w' (fun m=>closed_set (hc m) hj) hfree' (ready_mono hr (Ne.symm hji)) h3.1 hpp hSS ?_⟩;rw [Array.setIfInBounds_comm _ _ hji];exact h3.2.2
theorem PI_start{id:Nat}{a:Act}{w:World}(S:World->Prop)(p m:Nat)(l0:Array Bool)(hn:ops.size=m)(hl:Array.replicate m false=l0)(hm:P.follows .mixedOrders=true)(h:wpInP F n P .any ops Q S p m l0 a w.drew):(Code.region id ops true).wpIn F n P Q a w:=by
 subst hl;subst hn;exact wpIn_region_any hm (wpAnyIn_of_P _ _ _ _ h)
theorem PI_takeT(i d:Nat)(v:Value)(l':Array Bool)(xs:List Nat){oi:Oper}{fuel:Nat}{listed:Array Bool}{ts:Array Value}{ds:List Deferred}{w:World}(hro:F.round=none)(hi:ops[i]?=some oi)(hd:oi.dst=some d)(hl:listed.setIfInBounds i true=l')
 (hs:Region.noSelect ops=true) (hf:Region.free md ops listed i=true) (hr:(Region.ready md ops listed).contains i=true) (hz:pathB md ops i p xs=true) (hc:closedB md ops listed=true) (hp:listed.getD p true=false) (hip:p≠i)
 (hQ:∀ c a w,Q (.panic c) (a.put oi.dst v) w->Q (.panic c) a w) (hy:YieldsFor P ops S oi v ⟨ts,ds⟩) (hS:S w)
 (h:wpInP F n P md ops Q S p fuel l' ⟨ts.setIfInBounds d v,ds⟩ w):wpInP F n P md ops Q S p (fuel+1) listed ⟨ts,ds⟩ w:=by
 subst hl;refine wpInP_first (needs:=True) hro hi (Region.noSelect_spec hs) hQ (fun w h=>h trivial) (fun _=>hz) hip fuel listed _ w (fun _=>closedB_spec hc) (Region.free_spec hi hf) (by simpa using hr) hy (fun _=>hp) (fun _=>hS) ?_;rw [hd];exact h
theorem PI_takeW(i d:Nat)(v:Value)(l':Array Bool){oi:Oper}{fuel:Nat}{listed:Array Bool}{ts:Array Value}{ds:List Deferred}{w:World}(hro:F.round=none)(hi:ops[i]?=some oi)(hd:oi.dst=some d)(hl:listed.setIfInBounds i true=l')
 (hs:Region.noSelect ops=true) (hf:Region.free md ops listed i=true) (hr:(Region.ready md ops listed).contains i=true) (hip:p≠i)
 (hQ:∀ c a w,Q (.panic c) (a.put oi.dst v) w->Q (.panic c) a w) (hy:YieldsFor P ops (fun _=>True) oi v ⟨ts,ds⟩) (hS:S w)
 (h:wpInP F n P md ops Q S p fuel l' ⟨ts.setIfInBounds d v,ds⟩ w):wpInP F n P md ops Q S p (fuel+1) listed ⟨ts,ds⟩ w:=by
 subst hl;refine wpInP_first (xs:=[]) (needs:=False) hro hi (Region.noSelect_spec hs) hQ (fun w h=>trivial) (fun h=>h.elim) hip fuel listed _ w (fun h=>h.elim) (Region.free_spec hi hf) (by simpa using hr) hy (fun h=>h.elim) (fun _=>hS) ?_;rw [hd];exact h
theorem PI_one(i:Nat)(l':Array Bool){oi:Oper}{fuel:Nat}{listed:Array Bool}{a:Act}{w:World}(hi:ops[i]?=some oi)(hl:listed.setIfInBounds i true=l')(hr:Region.ready md ops listed=[i])(hg:oi.guard=none)(hp:l'.getD p true=true)
 (h:∀ K:Act->World->Prop,(∀ a' w',wpInP F n P md ops Q S p fuel l' a' w'->K a' w')->oi.wpIn F n P a w K Q):wpInP F n P md ops Q S p (fuel+1) listed a w:=by
 subst hl;refine⟨fun h0=>?_,fun j hj=>?_⟩
 . rw [hr]at h0
   cases h0
 . rw [hr]at hj
   have hj':j=i:=by simpa using hj
   subst hj';unfold wpOpIn;simp only [hi];rw [if_pos (by simp [Region.wanted,hg])];exact h _ fun _ _ h2=>⟨fun h9=>(by rw [hp]at h9;cases h9),h2⟩
theorem PI_done{listed:Array Bool}{a:Act}{w:World}(hr:Region.ready md ops listed=[])(h:Q .normal a w):∀ fuel,wpInP F n P md ops Q S p fuel listed a w
 | 0=>⟨hr,h⟩
 | _+1=>⟨fun _=>h,by rw [hr];simp⟩
end
theorem wpIn_nopanic{F:Fence}{n:Nat}{P:Program}{c:Code}{Q:Exit->Act->World->Prop}{a:Act}{w:World}(h:c.wpIn F n P (noPanic Q) a w):c.wpIn F n P Q a w :=
 wpIn_mono h (fun e a w h=>by cases e<;>first | exact h | exact h.elim)
/-! short forms -/
section
variable {F : Fence} {n : Nat} {P : Program} {ops : Array Oper} {Q : Exit -> Act -> World -> Prop} {md : Region.Mode} {S : World -> Prop} {p k m fuel : Nat} {ts : Array Value} {ds : List Deferred} {w : World} {oi : Oper} {a : Act}
theorem PJ_s{id:Nat}(S:World->Prop)(p k:Nat)(h:wpInP F n P .any ops (noPanic Q) S p k (bz k 0) a w.drew)(hn:ops.size=k:=by kernel_rfl)(hl:Array.replicate k false=bz k 0:=by kernel_rfl)(hm:P.follows .mixedOrders=true:=by kernel_rfl):(Code.region id ops true).wpIn F n P Q a w:=wpIn_nopanic (PI_start S p k (bz k 0) hn hl hm h)
theorem PJ_W(i d m':Nat)(v:Value)(hi:ops[i]?=some oi)(hS:S w)(h:wpInP F n P md ops (noPanic Q) S p fuel (bz k m') ⟨ts.setIfInBounds d v,ds⟩ w)(hc:ckW md ops p k m m' i d=true:=by kernel_rfl)(hy:YieldsFor P ops (fun _=>True) oi v ⟨ts,ds⟩:=by exact⟨.inl ⟨by rfl,fun _ _=>by go_simp⟩,fun _=>rfl⟩)(hro:F.round=none:=by rfl):wpInP F n P md ops (noPanic Q) S p (fuel+1) (bz k m) ⟨ts,ds⟩ w:=by
 obtain⟨⟨h1,h2⟩,h3,h4,h5,h6⟩:=ckW_of hc hi;exact PI_takeW i d v _ hro hi h3 h1 h4 h5 h2 h6 (fun _ _ _ h=>h) hy hS h
theorem PJ_T(i d m':Nat)(v:Value)(xs:List Nat)(hi:ops[i]?=some oi)(hS:S w)(hy:YieldsFor P ops S oi v ⟨ts,ds⟩)(h:wpInP F n P md ops (noPanic Q) S p fuel (bz k m') ⟨ts.setIfInBounds d v,ds⟩ w)(hc:ckT md ops p k m m' i d xs=true:=by kernel_rfl)(hro:F.round=none:=by rfl):wpInP F n P md ops (noPanic Q) S p (fuel+1) (bz k m) ⟨ts,ds⟩ w:=by
 unfold ckT at hc;simp only [Bool.and_eq_true,decide_eq_true_eq]at hc;obtain⟨⟨⟨hc,g1⟩,g2⟩,g3⟩:=hc;obtain⟨⟨h1,h2⟩,h3,h4,h5,h6⟩:=ckW_of hc hi;exact PI_takeT i d v _ xs hro hi h3 h1 h4 h5 h2 g1 g2 g3 h6 (fun _ _ _ h=>h) hy hS h
theorem PJ_1(i m':Nat)(hi:ops[i]?=some oi)(h:∀ K:Act->World->Prop,(∀ a' w',wpInP F n P md ops Q S p fuel (bz k m') a' w'->K a' w')->oi.wpIn F n P a w K Q)(hc:ckO md ops k m m' i=true:=by kernel_rfl)(hg:oi.guard=none:=by rfl)(hp:(bz k m').getD p true=true:=by kernel_rfl):wpInP F n P md ops Q S p (fuel+1) (bz k m) a w:=by
 unfold ckO at hc;simp only [Bool.and_eq_true,decide_eq_true_eq]at hc;exact PI_one i _ hi hc.1 hc.2 hg hp h
theorem PJ_e(h:Q .normal a w)(hr:Region.ready md ops (bz k m)=[]:=by kernel_rfl):wpInP F n P md ops (noPanic Q) S p fuel (bz k m) a w:=PI_done hr (noPanic_normal h) fuel
end
def rwS(d:Nat):Nat:=(d+31) / 32
theorem rwS_le{d:Nat}(h:d<=6148):rwS d<=193:=by unfold rwS;omega
theorem rwS_pos{d:Nat}(h:1<=d):1<=rwS d:=by unfold rwS;omega
theorem rwS_ge(d:Nat):d<=32*rwS d:=by unfold rwS;omega
def cpL:List Nat:=[0,16,8,24,4,20,12,28,2,18,10,26,6,22,14,30,1,17,9,25,5,21,13,29,3,19,11,27,7,23,15,31]
def cpN(c:Nat):Nat:=cpL.getD c 0
theorem cpN_lt(c:Nat):cpN c<32:=by
 by_cases h:c<32
 . exact(show ∀ c:Fin 32,cpN c.1<32 by decide) ⟨c,h⟩
 . unfold cpN
   rw [List.getD_eq_getElem?_getD,List.getElem?_eq_none (by simpa [cpL] using h)];decide
def mx0(d s c r:Nat):Nat:=if s=2 then(32*r+cpN c+1) % (32*rwS d) else 32*r+cpN c
def mxV(d m:Nat):Int:=if m<32*rwS d - d then -1 else(m:Int) - ((32*rwS d - d:Nat):Int)
def ordV(d s k:Nat):Int:=mxV d (mx0 d s (k / rwS d) (k % rwS d))
def ordT(d s n:Nat):List Int:=(List.range n).map (ordV d s)
def ordL(d s:Nat):List Int:=ordT d s (32*rwS d)
theorem ordT_len(d s n:Nat):(ordT d s n).length=n:=by simp [ordT]
theorem ordT_succ(d s n:Nat):ordT d s (n+1)=ordT d s n ++ [ordV d s n]:=by simp [ordT,List.range_succ]
theorem mx0_lt{d s c r:Nat}(hr:r<rwS d):mx0 d s c r<32*rwS d:=by
 have:=cpN_lt c;unfold mx0;split
 . exact Nat.mod_lt _ (by omega)
 . omega
open Go.Shelf
set_option maxRecDepth 100000
set_option maxHeartbeats 1000000
def SeqD{α:Type}(m gf:Nat)(lb:Array Value)(encs:α->Array Value)(Kp:World->World->Prop)(S Sp:List α->Prop)(Ok:List α->α->Prop)(w:World):Prop :=
 ∀ (l:Nat) (J Jx:List α->World->Prop) (W:World),Below w.heap.size w W->Cl W.heap.size J->Cl W.heap.size Jx ->
  (∀ pre x W1,J pre W1->Ok pre x->YieldAt Fence.wide (m - 1) prog l (encs x) W1 fun e W' =>
    (e= .returned (.bool true)/\J (pre ++ [x]) W'/\Kp W1 W')\/(e= .returned (.bool false)/\Jx (pre ++ [x]) W')) ->
  J [] W ->
  CallsIn Fence.wide m prog gf (#[.func (.yield l) #[] #[]] ++ lb) W fun e W'=>(∃ v,e= .returned v)/\((∃ xs,S xs/\J xs W')\/(∃ pre,Sp pre/\Jx pre W'))
theorem rangeD{α:Type}{g:Operand}{ps:Array Tmp}{assign body:Code}{Q:Exit->Act->World->Prop}{a:Act}{w:World}
 {gf:Nat} {lb:Array Value} (hg:a.eval g= .func (.func gf) #[] lb) (eg:∀ args w,(callFunc gf args).run prog w= .ok (.enter gf args) w)
 {encs:α->Array Value} {Kp:World->World->Prop} {S Sp:List α->Prop} {Ok:List α->α->Prop} {w0:World} (hseq:SeqD 2 gf lb encs Kp S Sp Ok w0)
 (hKt:∀ {A B C:World},Kp A B->Kp B C->Kp A C) (hKb:∀ (W:World) (l:Nat) (o o':Obj),w.heap.size<=l->W.heap[l]?=some o->o.isCells=false->Kp W (W.putObj l o')) (hb0:Below w0.heap.size w0 w) (hps:∀ x,(encs x).size=ps.size)
 (I:List α->World->Prop) (Ix:Code->List α->World->Prop) (hI:Cl w.heap.size I) (hIx:∀ c,Cl w.heap.size (Ix c)) (h0:I [] w) (a₁:α->Act)
 (hassign:∀ (l:Nat) (x:α) (W:World) (K:Act->World->Prop),K (a₁ x) W ->
   assign.wpIn (Fence.wide.inRound l) 1 prog (Exit.then K (fun _ _ _=>False)) {tmps:=(ps.zip (encs x)).foldl (fun t (p,v)=>t.setIfInBounds p v) a.tmps,defers:=[]} W)
 (hbody:∀ (l:Nat) (pre:List α) (x:α) (W:World),I pre W->Ok pre x->body.wpIn (Fence.wide.inRound l) 1 prog (ownPostK Kp I Ix (pre ++ [x]) W) (a₁ x) W)
 (hdone:∀ (D:Nat) (xs:List α) (W:World),w.heap.size<=D->S xs->I xs W->W.heap[D]?=some (.deferred (some []))->Q .normal {a with defers:={target:=.collected D,args:=#[]} :: a.defers} W)
 (hstop:∀ (D:Nat) (c:Code) (pre:List α) (W:World),w.heap.size<=D->Sp pre->Ix c pre W->W.heap[D]?=some (.deferred (some []))->c.wpIn Fence.wide 3 prog Q {a with defers:={target:=.collected D,args:=#[]} :: a.defers} W) :
 (Code.rangeFunc g ps assign body).wpIn Fence.wide 3 prog Q a w:=by
 refine wpIn_rangeFunc fun fn hfn=>?_;obtain⟨n,hn⟩:∃ n,n=w.heap.size:=⟨_,rfl⟩
 rw [<- hn]at hKb hI hIx hdone hstop;obtain⟨rc,hrc⟩:∃ rc:LoopState->Option Code->Loop,rc=fun st pe=>{state:=st,pending:=pe,fn,tmps:=a.tmps,params:=ps,assign,body,defers:=n}:=⟨_,rfl⟩
 obtain⟨W1,hW1⟩:∃ W1,W1=(w.alloc (.deferred (some []))).alloc (.loop (rc .ready none)):=⟨_,rfl⟩
 have hs1:W1.heap.size=n+2:=by rw [hW1,hn];simp
 have hL1:W1.heap[n+1]?=some (.loop (rc .ready none)):=by
  rw [hW1,hn];have h:=World.alloc_heap_new (w.alloc (.deferred (some []))) (.loop (rc .ready none));rwa [World.size_alloc]at h
 have hK1:W1.heap[n]?=some (.deferred (some [])):=by
  rw [hW1,hn];exact(Below.heap_alloc _ _ _ (by simp)).trans (World.alloc_heap_new w _)
 have hI1:I [] W1:=by rw [hW1];exact hI.alloc _ (hI.alloc _ h0)
 have hb1:Below w0.heap.size w0 W1:=by
  rw [hW1];exact hb0.trans ((((Below.refl _ w).alloc (Nat.le_refl _) _).alloc (by simp) _).mono hb0.size)
 have two:∀ {A B:World} {row:Option Nat} {o p:Obj},A.grownBy B row->(∀ r,row=some r->W1.heap.size<=r)->A.heap[n+1]?=some o/\A.heap[n]?=some p->B.heap[n+1]?=some o/\B.heap[n]?=some p:=fun {A B row o p} hgr hr h =>
  ⟨(hgr.block _ (Array.getElem?_eq_some_iff.1 h.1).1 (fun e=>by have:=hr _ e.symm;omega)).trans h.1,(hgr.block _ (Array.getElem?_eq_some_iff.1 h.2).1 (fun e=>by have:=hr _ e.symm;omega)).trans h.2⟩
 have up:∀ {row:Option Nat},(∀ r,row=some r->W1.heap.size<=r)->∀ r,row=some r->n<=r:=fun hr r e=>by have:=hr r e;omega
 refine⟨n+1,[{target:=.collected n,args:=#[]}],W1,{target:=.fn (.func gf) lb,args:=#[.func (.yield (n+1)) #[] #[]]},W1,gf,#[.func (.yield (n+1)) #[] #[]] ++ lb,W1,?_,?_,?_,?_,fun _=>by omega,?_⟩
 . rw [hW1,hrc,hn]
   exact run_enterLoop_outer _ _ _ _ _
 . simp only [resolve,hg]
   simp [go_sem]
 . intro f hf
   simp [Target.leads]at hf;subst hf;trivial
 . simp [invoke,go_sem,eg]
 refine(hseq (n+1)
  (fun pre W=>I pre W/\W.heap[n+1]?=some (.loop (rc .ready none))/\W.heap[n]?=some (.deferred (some [])))
  (fun pre W=>∃ c,Ix c pre W/\W.heap[n+1]?=some (.loop (rc .done (some c)))/\W.heap[n]?=some (.deferred (some [])))
  W1 hb1 (fun s A B row hs hgr hr=>⟨hI s A B row hs.1 hgr (up hr),two hgr hr hs.2⟩)
  (fun s A B row ⟨c,hc,hs⟩ hgr hr=>⟨c,hIx c s A B row hc hgr (up hr),two hgr hr hs⟩) ?_ ⟨hI1,hL1,hK1⟩).mono ?_
 . rintro pre x W ⟨hi,hl,hk⟩ hlen
   have hlt:n+1<W.heap.size:=(Array.getElem?_eq_some_iff.1 hl).1;obtain⟨Wb,hWb⟩:∃ Wb,Wb=W.putObj (n+1) (.loop {rc .ready none with state:=.busy}):=⟨_,rfl⟩
   have hlb:Wb.heap[n+1]?=some (.loop {rc .ready none with state:=.busy}):=by rw [hWb];exact World.putObj_heap_same hlt
   have hkb:Wb.heap[n]?=some (.deferred (some [])):=by rw [hWb];exact(World.putObj_heap_other (by omega)).trans hk
   have hib:I pre Wb:=by rw [hWb];exact hI.put _ hi (by omega)
   have hpb:Kp W Wb:=by rw [hWb];exact hKb _ _ _ _ (by omega) hl rfl
   have hyl:=run_yield (P:=prog) (args:=encs x) hl (by rw [hrc];exact hps x);rw [hrc]at hyl;refine⟨fn,_,assign,body,hyl,roundIn_of_wpIn hfn (hassign _ x W _ ⟨_,run_beginRound hl (by rw [hrc]),?_⟩)⟩;rw [<- hWb];refine wpIn_mono (hbody _ pre x _ hib hlen) ?_;have close:∀ (jump:Option Code) (W3:World),KeepsOthers Wb W3->∃ W4,W4=W3.putObj (n+1) (.loop (rc (if jump.isNone then .ready else .done) jump))/\(Instr.endRound (n+1) jump).run prog W3= .ok (.bool jump.isNone) W4 /\
    (∃ o:Obj,W3.heap[n+1]?=some o/\o.isCells=false)/\W4.heap[n+1]?=some (.loop (rc (if jump.isNone then .ready else .done) jump))/\W4.heap[n]?=some (.deferred (some [])):=fun jump W3 hk3=>by
    have hl3:=hk3.same _ _ hlb rfl;have hr3:=run_endRound (P:=prog) jump hl3;rw [hrc]at hr3 ⊢;exact⟨_,rfl,hr3,⟨_,hl3,rfl⟩,World.putObj_heap_same (Array.getElem?_eq_some_iff.1 hl3).1,(World.putObj_heap_other (by omega)).trans (hk3.same _ _ hkb rfl)⟩
   have away:∀ (c:Code) (W3:World),KeepsOthers Wb W3->Ix c (pre ++ [x]) W3->∃ v W4,(Instr.endRound (n+1) (some c)).run prog W3= .ok v W4/\v= .bool false/\∃ c',Ix c' (pre ++ [x]) W4/\W4.heap[n+1]?=some (.loop (rc .done (some c')))/\W4.heap[n]?=some (.deferred (some [])):=fun c W3 hk3 hi3=>by
    obtain⟨W4,e4,hr,-,h1,h2⟩:=close (some c) W3 hk3;exact⟨_,W4,hr,rfl,c,by rw [e4];exact(hIx c).put _ hi3 (by omega),h1,h2⟩
   rintro e a3 W3 hp;cases e with
   | normal =>
     obtain⟨hk3,hp3,hi3⟩:=hp;obtain⟨W4,e4,hr,⟨o,ho,hc⟩,h1,h2⟩:=close none W3 hk3;refine⟨_,W4,hr,.inl ⟨rfl,⟨?_,h1,h2⟩,hKt (hKt hpb hp3) ?_⟩⟩
     . rw [e4];exact hI.put _ hi3 (by omega)
     . rw [e4];exact hKb _ _ _ _ (by omega) ho hc
   | ret =>
     obtain⟨v,W4,hr,hv,h⟩:=away .ret W3 hp.1 hp.2;exact⟨v,W4,hr,.inr ⟨by rw [hv],h⟩⟩
   | exit id =>
     obtain⟨v,W4,hr,hv,h⟩:=away (.exit id) W3 hp.1 hp.2;exact⟨v,W4,hr,.inr ⟨by rw [hv],h⟩⟩
   | goto t =>
     obtain⟨v,W4,hr,hv,h⟩:=away (.goto t) W3 hp.1 hp.2;exact⟨v,W4,hr,.inr ⟨by rw [hv],h⟩⟩
   | panic ch=>exact hp.elim
   | outgrown=>exact hp.elim
 . rintro e W2 ⟨⟨v,rfl⟩,h⟩
   rcases h with⟨xs,hS,hi,hl,hk⟩ | ⟨pre,hSp,c,hi,hl,hk⟩
   . have hr:=run_endLoop (P:=prog) hl (by rw [hrc];simp)
     rw [hrc]at hr;exact⟨none,_,hr,hdone _ xs _ (Nat.le_refl _) hS (hI.put _ hi (by omega)) ((World.putObj_heap_other (by omega)).trans hk)⟩
   . have hr:=run_endLoop (P:=prog) hl (by rw [hrc];simp)
     rw [hrc]at hr;exact⟨some c,_,hr,hstop _ c pre _ (Nat.le_refl _) hSp ((hIx c).put _ hi (by omega)) ((World.putObj_heap_other (by omega)).trans hk)⟩
theorem crows_any(d:Nat)(w:World)(h1:1<=d)(h2:d<=6148):Calls prog 287 #[.int .i64 d] w fun e w'=>e= .returned (.int .i64 (rwS d))/\w=w':=by
 have hd:((rwS d:Nat):Int)=((d:Int)+31) / 32:=by unfold rwS;omega
 have q1:decide ((d:Int)<1)=false:=by simp;omega
 have q2:decide ((6148:Int)<(d:Int))=false:=by simp;omega
 go_enter func287,ntmps287;go_wp2;go_ret;refine⟨ret_int ?_,by trivial⟩;rw [hd];omega
def prt(k:Nat):Nat->Nat
 | 0=>0
 | t+1=>prt k t+if k.testBit t then 16 / 2 ^ t else 0
theorem prt_all:∀ k:Fin 32,prt k.1 5=cpN k.1:=by decide
theorem prt_lt(k:Nat):∀ t,t<=5->prt k t<=31:=by
 have h:∀ t,t<=5->prt k t<=16*t:=by
  intro t;induction t with
  | zero=>intro _;exact Nat.le_refl _
  | succ t ih =>
    intro ht;have:=ih (by omega);have h2:(16:Nat) / 2 ^ t<=16:=Nat.div_le_self _ _;unfold prt;split<;>omega
 intro t ht;by_cases h0:t=0
 . subst h0;exact Nat.zero_le _
 rcases (by omega:t=1\/t=2\/t=3\/t=4\/t=5) with rfl | rfl | rfl | rfl | rfl<;>simp [prt]<;>(repeat' split)<;>omega
def colV(k t j:Nat):Int:=if j<k then(cpN j:Int) else if j=k then(prt k t:Int) else 0
def colS(k t:Nat):List Int:=(List.range 32).map (colV k t)
theorem colS_len(k t:Nat):(colS k t).length=32:=by simp [colS]
theorem colS_gi(k t j:Nat)(h:j<32):gi (colS k t) j=colV k t j:=by
 rw [gi_eq _ _ (by rw [colS_len];exact h)];simp [colS]
theorem colS_same{k t:Nat}(h:k.testBit t=false):colS k (t+1)=colS k t:=by
 unfold colS;refine List.map_congr_left fun j _=>?_;unfold colV;rw [show prt k (t+1)=prt k t+if k.testBit t then 16 / 2 ^ t else 0 from rfl,h];rfl
theorem colS_set{k t:Nat}(hk:k<32)(h:k.testBit t=true):(colS k t).set k ((prt k t:Int)+((16 / 2 ^ t:Nat):Int))=colS k (t+1):=by
 refine ext_gi (by simp [colS_len]) fun j hj=>?_;have hj':j<32:=by simpa [colS_len] using hj
 rw [gi_set _ _ _ _ (by rw [colS_len];exact hk),colS_gi _ _ _ hj',colS_gi _ _ _ hj'];unfold colV;by_cases e:k=j
 . subst e
   rw [if_pos rfl,if_neg (by omega),if_pos rfl];show _=((prt k t+(if k.testBit t then 16 / 2 ^ t else 0):Nat):Int)
   rw [h,if_pos rfl];push_cast;rfl
 . rw [if_neg e]
   split
   . rfl
   . rw [if_neg (fun h9=>e h9.symm),if_neg (fun h9=>e h9.symm)]
theorem colS_next{k:Nat}(hk:k<32):colS k 5=colS (k+1) 0:=by
 refine ext_gi (by rw [colS_len,colS_len]) fun j hj=>?_;rw [colS_len]at hj;rw [colS_gi _ _ _ hj,colS_gi _ _ _ hj];unfold colV;by_cases e:j=k
 . subst e
   rw [if_neg (by omega),if_pos rfl,if_pos (by omega),prt_all ⟨j,hk⟩]
 . by_cases h:j<k
   . rw [if_pos h,if_pos (by omega)]
   . rw [if_neg h,if_neg e,if_neg (by omega)]
     split<;>rfl
def cpI:List Int:=cpL.map fun(x:Nat)=>(x:Int)
theorem colS_all:colS 32 0=cpI:=by decide
theorem band_k:∀ k:Fin 32,∀ t:Fin 5,bits .and .i64 ((k.1:Nat):Int) ((2 ^ t.1:Nat):Int)=if k.1.testBit t.1 then((2 ^ t.1:Nat):Int) else 0:=by decide +kernel
def W8S(B k:Nat)(v:Int)(W:World):Prop:=W.cell? ⟨B,k,none⟩=some (.int .i64 v)
theorem ix143(B:Nat){k:Nat}(hk:k<32)(kd:IntKind)(W:World):(Instr.indexAt 407 (.pointer (some ⟨B,0,none⟩)) (.int kd (k:Int))).run prog W= .ok (.pointer (some ⟨B,k,none⟩)) W:=by
 have h1:(0:Int)<=(k:Int)/\(k:Int)<32:=by omega
 have hs:(sizeOf 3).run prog W= .ok 1 W:=by kernel_rfl
 have ha:(⟨B,0,none⟩:Addr).add (k*1)=⟨B,k,none⟩:=by rw [add_lit,Nat.zero_add,Nat.mul_one]
 simp [Instr.indexAt,run_underlying underlying407,asIntOf,asAddr,hs,h1.2,go_sem,add_lit];intro h9;omega
theorem info143:(prog.info? 407).map (·.size)=some 32:=by kernel_rfl
theorem res143{W:World}{b:Nat}{m:List Int}(h:Blk W b 407 (ints8 m))(hl:m.length=32):(loadVar 407 ⟨b,0,none⟩).run prog W= .ok (.agg (ints8 m).toArray) W :=
 run_loadVar_row (P:=prog) W b 407 407 _ (0,0) _ h underlying407 rfl (by rw [info143];simp [ints8,hl])
def CoI(w:World)(B:Nat)(i:Value)(wr:World):Prop:=∃ k:Nat,k<=32/\i= .int .i64 k/\Blk wr B 407 (ints8 (colS k 0))/\Below w.heap.size w wr
def CbI(w:World)(B k:Nat)(b:Value)(wr:World):Prop:=∃ t:Nat,t<=5/\b= .int .i64 ((2 ^ t:Nat):Int)/\Blk wr B 407 (ints8 (colS k t))/\Below w.heap.size w wr
theorem pow_t{t:Nat}(h:t<=5):t=0\/t=1\/t=2\/t=3\/t=4\/t=5:=by omega
theorem pow_ts:∀ t:Fin 5,(((2 ^ t.1:Nat):Int) == 0)=false/\¬ ((2 ^ t.1:Nat):Int)=0/\(16:Int).tdiv ((2 ^ t.1:Nat):Int)=((16 / 2 ^ t.1:Nat):Int)/\IntKind.i64.wrap ((16 / 2 ^ t.1:Nat):Int)=((16 / 2 ^ t.1:Nat):Int)/\decide (((2 ^ t.1:Nat):Int)<32)=true/\(0<=((16 / 2 ^ t.1:Nat):Int)/\((16 / 2 ^ t.1:Nat):Int)<=16)/\(1<=((2 ^ t.1:Nat):Int)/\((2 ^ t.1:Nat):Int)<=16):=by decide
theorem cols_any(w:World):Calls prog 361 #[] w fun e w'=>e= .returned (.agg (ints8 cpI).toArray)/\Below w.heap.size w w':=by
 obtain⟨W0,hW0⟩:∃ W0,W0=w.alloc (.cells (ints8 (colS 0 0)).toArray 407):=⟨_,rfl⟩
 obtain⟨B,hB⟩:∃ B,B=w.heap.size:=⟨_,rfl⟩
 have HW0:=aq (show w.alloc (.cells #[.int .i64 0,.int .i64 0,.int .i64 0,.int .i64 0,.int .i64 0,.int .i64 0,.int .i64 0,.int .i64 0,.int .i64 0,.int .i64 0,.int .i64 0,.int .i64 0,.int .i64 0,.int .i64 0,.int .i64 0,.int .i64 0,.int .i64 0,.int .i64 0,.int .i64 0,.int .i64 0,.int .i64 0,.int .i64 0,.int .i64 0,.int .i64 0,.int .i64 0,.int .i64 0,.int .i64 0,.int .i64 0,.int .i64 0,.int .i64 0,.int .i64 0,.int .i64 0] 407)=W0 by rw [hW0,show colS 0 0=List.replicate 32 0 by decide];rfl);have HK0:=aq (show Blk W0 B 407 (ints8 (colS 0 0)) by rw [hW0];exact Blk.new w _ 407 hB);have HB0:=aq (show Below w.heap.size w W0 by rw [hW0];exact bal (Below.refl _ w) _);have HBS:=aq (show w.heap.size<=B by rw [hB];exact Nat.le_refl _);have HBE:=aq hB;clear hW0 hB;go_enter func361,ntmps361;go_wp2;rw [HW0.o,<- HBE.o];clear HW0;go_loopw [3] (fun i wr=>CoI w B i wr) (fun i _=>32 - (intOf i).toNat)
 case atStart=>exact⟨0,by omega,rfl,HK0.o,HB0.o⟩
 case round =>
  obtain⟨k,hk,rfl,hKa,hBa⟩:=hrel;have HKa:=aq hKa;have HBa:=aq hBa;clear hKa hBa HK0 HB0;by_cases hlt:k<32
  . have hdk:decide ((k:Int)<32)=true:=by simp;omega
    go_wp2;go_loopw [2] (fun b wr=>CbI w B k b wr) (fun b _=>64 - (intOf b).toNat)
    case atStart=>exact⟨0,by omega,rfl,HKa.o,HBa.o⟩
    case round =>
     obtain⟨t,ht,rfl,hKb,hBb⟩:=hrel;have HKb:=aq hKb;have HBb:=aq hBb;clear hKb hBb HKa HBa;rcases Nat.lt_or_ge t 5 with hlt5 | hge5
     . obtain⟨t0,t1,t2,t3,t4,t5,t6⟩:=pow_ts ⟨t,hlt5⟩
       have hband:=band_k ⟨k,hlt⟩ ⟨t,hlt5⟩;have htn:((2 ^ (t+1):Nat):Int)=((2 ^ t:Nat):Int)*2:=by rw [Nat.pow_succ];push_cast;rfl
       have HTN:=aq htn;dsimp only at t0 t1 t2 t3 t4 t5 t6 hband;have hcs:=@colS_set k t;clear htn;generalize ((2 ^ t:Nat):Int)=bt at *;generalize ((16 / 2 ^ t:Nat):Int)=ad at *;by_cases htb:k.testBit t=true
       . rw [if_pos htb]at hband
         have hne:(bits .and .i64 (k:Int) bt != 0)=true:=by rw [hband];unfold bne;rw [t0];rfl
         have hpl:=prt_lt k t (by omega);have HST:=aq (hcs hlt htb);have hcl:=Blk.icell HKb.o (j:=k) (by rw [colS_len];exact hlt);rw [colS_gi _ _ _ hlt,show colV k t k=((prt k t:Nat):Int) from by unfold colV;rw [if_neg (by omega),if_pos rfl]]at hcl;have HKd:=aq (HKb.o.drew);have hpv:0<=((prt k t:Nat):Int)/\((prt k t:Nat):Int)<=31:=by omega
         generalize ((prt k t:Nat):Int)=pv at *;have HW:Hid (W8S B k pv wr.drew):=aq hcl;have hfz:=HKd.o.frozen k;have hw1:IntKind.i64.wrap ad=ad:=t3;have hw2:IntKind.i64.wrap (pv+ad)=pv+ad:=by rw [IntKind.wrap_i64];omega
         have hix:=fun W=>ix143 B hlt .i64 W;clear hband htb hcl hpl hcs;go_wp2_with fail;refine Q_start (W8S B k pv) 7 8 ?_;refine Q_W 0 14 1 (.int .i64 (k:Int)) rfl HW.o ?_;simp only [yq0,yq1,yq2];refine Q_W 1 15 3 (.pointer (some ⟨B,k,none⟩)) rfl HW.o ?_;simp only [yq0,yq1,yq2];refine Q_W 3 17 11 (.int .i64 bt) rfl HW.o ?_;simp only [yq0,yq1,yq2];refine Q_W 4 18 27 (.int .i64 ad) rfl HW.o ?_;simp only [yq0,yq1,yq2];refine Q_T 2 16 31 (.int .i64 pv) [] rfl HW.o (Or.inl ⟨by rfl,fun W hS=>by have s0:=hS;unfold W8S at s0;go_simp⟩) ?_;simp only [yq0,yq1,yq2];refine Q_W 5 19 63 (.int .i64 (pv+ad)) rfl HW.o ?_;simp only [yq0,yq1,yq2];refine Q_W 6 20 127 (.pointer (some ⟨B,k,none⟩)) rfl HW.o ?_;simp only [yq0,yq1,yq2];refine Q_1 7 255 rfl (fun K hK=>?_);have s0:=HW.o;unfold W8S at s0;go_simp;refine hK _ _ ?_;clear hK K;refine Q_end ?_;go_wp2;go_roundw
         case rel =>
          have h9:=HKd.o.set k (.int .i64 (pv+ad));rw [show (ints8 (colS k t)).set k (.int .i64 (pv+ad))=ints8 (colS k (t+1)) from by rw [<- HST.o];unfold ints8;rw [List.map_set]]at h9;exact⟨t+1,by omega,by rw [HTN.o],h9,(HBb.o.drew).setCell HBS.o _⟩
         case measure=>have:=t6;simp [intOf]<;>omega
       . have htf:k.testBit t=false:=by simpa using htb
         rw [if_neg htb]at hband;have hne:(bits .and .i64 (k:Int) bt != 0)=false:=by rw [hband];rfl
         have HST:=aq (colS_same htf);clear hband htb htf hcs;go_wp2;go_roundw
         case rel=>exact⟨t+1,by omega,by rw [HTN.o],by rw [HST.o];exact HKb.o,HBb.o⟩
         case measure=>have:=t6;simp [intOf]<;>omega
     . obtain rfl:t=5:=by omega
       rw [show ((2 ^ 5:Nat):Int)=32 from rfl];have HNX:=aq (colS_next hlt);go_wp2;go_roundw
       case rel=>exact⟨k+1,by omega,by go_num,by rw [<- HNX.o];exact HKb.o,HBb.o⟩
       case measure=>simp [intOf];omega
  . obtain rfl:k=32:=by omega
    have hK9:Blk wr B 407 (ints8 cpI):=by have:=HKa.o;rwa [colS_all]at this
    clear HKa;go_wp2_with (first
     | (refine ldrow (cs:=ints8 cpI) rfl 407 (.tmp 0) rfl rfl hK9 _ underlying407 rfl info143 ?_)
     | (refine strow (cs:=ints8 cpI) rfl 407 (.tmp 0) (.tmp 22) rfl rfl rfl hK9 rfl info143 (ints8_one _) ?_;intro W2 h1 h2;have H1:=aq h1;have H2:=aq h2;clear h1 h2))
    refine bodyPost_ret (v:=.agg (ints8 cpI).toArray) ?_ rfl ⟨rfl,HBa.o.grown H2.o HBa.o.size (fun k hk=>by cases hk;exact HBS.o)⟩;have l1:=res143 H1.o rfl;rw [results_c rfl];simp [Act.put,asAddr,l1,Sem.run_pure,Result.andThen]
end Go.Proofs.YthmhogdceolkdaaGreat.Cr