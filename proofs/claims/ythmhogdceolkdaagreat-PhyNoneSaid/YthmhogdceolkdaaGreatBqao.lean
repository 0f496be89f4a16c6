/- Bundle. Conditions: none. -/
import Derived.Test.YthmhogdceolkdaaGreatBqab
import Derived.StillTail
import Derived.OrdersHeld
import Derived.Deep.QuietTactic
import Derived.BigQuiet
set_option linter.unusedVariables false
set_option linter.unusedSimpArgs false
namespace Go.Proofs.YthmhogdceolkdaaGreat
open Go.RowKit
theorem nrw9{ops:Array Oper}{md:Region.Mode}{z i:Nat}{listed:Array Bool}(hw:Region.waitsFor md ops z i=true)(hun:listed.getD i true=false):z ∉ Region.ready md ops listed:=by
 intro hr;obtain⟨oj,hoj,e,he,hb,hon⟩:=Region.waitsFor_spec hw;obtain⟨_,o',ho',hall⟩:=mem_ready.1 hr;have:oj=o':=Option.some.inj (hoj.symm.trans ho');subst this;have h2:=hall e he hb;rw [hon,getD_both hun]at h2;cases h2
section
variable {P : Program} {ops : Array Oper} {Q : Exit -> Act -> World -> Prop} {md : Region.Mode} {S : World -> Prop} {p : Nat}
def wpAnyP(P:Program)(md:Region.Mode)(ops:Array Oper)(Q:Exit->Act->World->Prop)(S:World->Prop)(p:Nat):Nat->Array Bool->Act->World->Prop
 | 0,listed,a,w=>Region.ready md ops listed=[]/\Q .normal a w
 | fuel+1,listed,a,w=>(Region.ready md ops listed=[]->Q .normal a w) /\
   ∀ i ∈ Region.ready md ops listed,wpOp P ops Q i (fun a' w'=>((listed.setIfInBounds i true).getD p true=false->S w')/\wpAnyP P md ops Q S p fuel (listed.setIfInBounds i true) a' w') a w
theorem wpAny_of_P:∀ (fuel:Nat) (listed:Array Bool) (a:Act) (w:World),wpAnyP P md ops Q S p fuel listed a w->wpAny P md ops Q fuel listed a w
 | 0,_,_,_,h=>h
 | fuel+1,_,_,_,h=>⟨h.1,fun i hi=>wpOp_mono (fun a' w' h'=>wpAny_of_P fuel _ a' w' h'.2) (h.2 i hi)⟩
theorem getD_unset{listed:Array Bool}{i p:Nat}(h:(listed.setIfInBounds i true).getD p true=false):listed.getD p true=false:=by
 by_cases hip:i=p
 . subst hip
   by_cases hi:i<listed.size
   . simp [Array.getD,hi]at h
   . simp [Array.getD,hi]at h
 . rwa [getD_set_ne true hip]at h
theorem wpAnyP_first{T:World->Prop}{needs:Prop}{i:Nat}{oi:Oper}{v:Value}(hi:ops[i]?=some oi)(hsel:∀ (j:Nat) (o:Oper) cs b,ops[j]?=some o->o.op≠.select cs b)
 (hQ:∀ c a w,Q (.panic c) (a.put oi.dst v) w->Q (.panic c) a w) (hT:∀ w,(needs->S w)->T w) (hw:needs->Region.waitsFor md ops p i=true) (hip:p≠i) :
 ∀ (fuel:Nat) (listed:Array Bool) (a:Act) (w:World),
  (∀ j oj,ops[j]?=some oj->j≠i->listed.getD j true=false->(∀ e ∈ oj.after,Region.binds md e=true->e.on≠i)->oi.apart ops oj=true) ->
  i ∈ Region.ready md ops listed->YieldsIf P ops T oi v a->(needs->listed.getD p true=false)->(listed.getD p true=false->S w) ->
  wpAnyP P md ops Q S p fuel (listed.setIfInBounds i true) (a.put oi.dst v) w->wpAnyP P md ops Q S p (fuel+1) listed a w:=by
 intro fuel;induction fuel with
 | zero =>
   intro listed a w _ hr hy hp hS H;refine⟨fun h=>(by rw [h]at hr;cases hr),fun j hj=>?_⟩;by_cases hji:j=i
   . subst hji;exact hy.wpOp hi (hT w fun n=>hS (hp n)) ⟨fun h=>hS (getD_unset h),H⟩
   . have:=ready_mono hj hji
     rw [H.1]at this;cases this
 | succ fuel ih =>
   intro listed a w hfree hr hy hp hS H;refine⟨fun h=>(by rw [h]at hr;cases hr),fun j hj=>?_⟩;by_cases hji:j=i
   . subst hji;exact hy.wpOp hi (hT w fun n=>hS (hp n)) ⟨fun h=>hS (getD_unset h),H⟩
   . have hun:=(mem_ready.1 hr).1
     have h1:=H.2 j (ready_mono hj hji);obtain⟨hjun,oj,hoj,hall⟩:=mem_ready.1 hj;have hnot:∀ e ∈ oj.after,Region.binds md e=true->e.on≠i:=fun e he hb heq=>by
      have h9:=hall e he hb;rw [heq,getD_both hun]at h9;cases h9
     have h2:=wpOp_putIf hoj (hfree j oj hoj hji hjun hnot) (fun cs b=>hsel i oi cs b hi) (fun cs b=>hsel j oj cs b hoj) hQ hy h1;have hfree':∀ k ok,ops[k]?=some ok->k≠i->(listed.setIfInBounds j true).getD k true=false ->
      (∀ e ∈ ok.after,Region.binds md e=true->e.on≠i)->oi.apart ops ok=true:=fun k ok hk hki hun' hno=>hfree k ok hk hki (getD_unset hun') hno
     refine wpOp_mono (fun a' w' h3=>?_) h2;have hpp:needs->(listed.setIfInBounds j true).getD p true=false:=fun n=>by
      have hjp:j≠p:=fun e=>nrw9 (hw n) hun (e ▸ hj);rw [getD_set_ne true hjp];exact hp n
     have hSS:(listed.setIfInBounds j true).getD p true=false->S w':=fun hp=>by
      exact h3.2.1 (by rw [Array.setIfInBounds_comm _ _ (Ne.symm hji),getD_set_ne true (Ne.symm hip)];exact hp)
     refine⟨hSS,ih (listed.setIfInBounds j true) a' w' hfree' (ready_mono hr (Ne.symm hji)) h3.1 hpp hSS ?_⟩;rw [Array.setIfInBounds_comm _ _ hji];exact h3.2.2
theorem wpAnyP_take{i:Nat}{oi:Oper}{v:Value}{fuel:Nat}{listed:Array Bool}{a:Act}{w:World}(hi:ops[i]?=some oi)
 (hs:Region.noSelect ops=true) (hf:Region.free md ops listed i=true) (hr:(Region.ready md ops listed).contains i=true) (hz:Region.waitsFor md ops p i=true) (hp:listed.getD p true=false) (hip:p≠i)
 (hQ:∀ c a w,Q (.panic c) (a.put oi.dst v) w->Q (.panic c) a w) (hy:YieldsIf P ops S oi v a) (hS:S w)
 (h:wpAnyP P md ops Q S p fuel (listed.setIfInBounds i true) (a.put oi.dst v) w):wpAnyP P md ops Q S p (fuel+1) listed a w :=
 wpAnyP_first (needs:=True) hi (Region.noSelect_spec hs) hQ (fun w h=>h trivial) (fun _=>hz) hip fuel listed a w (Region.free_spec hi hf) (by simpa using hr) hy (fun _=>hp) (fun _=>hS) h
theorem wpAnyP_takeW{i:Nat}{oi:Oper}{v:Value}{fuel:Nat}{listed:Array Bool}{a:Act}{w:World}(hi:ops[i]?=some oi)
 (hs:Region.noSelect ops=true) (hf:Region.free md ops listed i=true) (hr:(Region.ready md ops listed).contains i=true) (hip:p≠i)
 (hQ:∀ c a w,Q (.panic c) (a.put oi.dst v) w->Q (.panic c) a w) (hy:YieldsIf P ops (fun _=>True) oi v a) (hS:S w)
 (h:wpAnyP P md ops Q S p fuel (listed.setIfInBounds i true) (a.put oi.dst v) w):wpAnyP P md ops Q S p (fuel+1) listed a w :=
 wpAnyP_first (needs:=False) hi (Region.noSelect_spec hs) hQ (fun w h=>trivial) (fun h=>h.elim) hip fuel listed a w (Region.free_spec hi hf) (by simpa using hr) hy (fun h=>h.elim) (fun _=>hS) h
theorem wpAnyP_one{i:Nat}{oi:Oper}{fuel:Nat}{listed:Array Bool}{a:Act}{w:World}(hi:ops[i]?=some oi)(hr:Region.ready md ops listed=[i])(hg:oi.guard=none)(hp:(listed.setIfInBounds i true).getD p true=true)
 (h:∀ K:Act->World->Prop,(∀ a' w',wpAnyP P md ops Q S p fuel (listed.setIfInBounds i true) a' w'->K a' w')->oi.wp P a w K Q):wpAnyP P md ops Q S p (fuel+1) listed a w:=by
 refine⟨fun h0=>?_,fun j hj=>?_⟩
 . rw [hr]at h0
   cases h0
 . rw [hr]at hj
   have hj':j=i:=by simpa using hj
   subst hj';unfold wpOp;simp only [hi];rw [if_pos (by simp [Region.wanted,hg])];exact .inl (h _ fun _ _ h2=>⟨fun h9=>(by rw [hp]at h9;cases h9),h2⟩)
theorem wpAnyP_done{listed:Array Bool}{a:Act}{w:World}(hr:Region.ready md ops listed=[])(h:Q .normal a w):∀ fuel,wpAnyP P md ops Q S p fuel listed a w
 | 0=>⟨hr,h⟩
 | _+1=>⟨fun _=>h,by rw [hr];simp⟩
theorem wp_region_P{id:Nat}{a:Act}{w:World}(S:World->Prop)(p:Nat)(hm:P.follows .mixedOrders=true)(h:wpAnyP P .any ops Q S p ops.size (Array.replicate ops.size false) a w.drew):(Code.region id ops true).wp P Q a w :=
 wp_region_any hm (wpAny_of_P _ _ _ _ h)
end
section
variable {P : Program} {ops : Array Oper} {Q : Exit -> Act -> World -> Prop} {md : Region.Mode} {S : World -> Prop} {p : Nat}
theorem P_start{id:Nat}{a:Act}{w:World}(S:World->Prop)(p n:Nat)(l0:Array Bool)(hn:ops.size=n)(hl:Array.replicate n false=l0)(hm:P.follows .mixedOrders=true)(h:wpAnyP P .any ops Q S p n l0 a w.drew):(Code.region id ops true).wp P Q a w:=by
 subst hl;subst hn;exact wp_region_P S p hm h
theorem P_take(i d:Nat)(v:Value)(l':Array Bool){oi:Oper}{fuel:Nat}{listed:Array Bool}{ts:Array Value}{ds:List Deferred}{w:World}(hi:ops[i]?=some oi)(hd:oi.dst=some d)(hl:listed.setIfInBounds i true=l')
 (hs:Region.noSelect ops=true) (hf:Region.free md ops listed i=true) (hr:(Region.ready md ops listed).contains i=true) (hz:Region.waitsFor md ops p i=true) (hp:listed.getD p true=false) (hip:p≠i)
 (hQ:∀ c a w,Q (.panic c) (a.put oi.dst v) w->Q (.panic c) a w) (hy:YieldsIf P ops S oi v ⟨ts,ds⟩) (hS:S w)
 (h:wpAnyP P md ops Q S p fuel l' ⟨ts.setIfInBounds d v,ds⟩ w):wpAnyP P md ops Q S p (fuel+1) listed ⟨ts,ds⟩ w:=by
 subst hl;refine wpAnyP_take hi hs hf hr hz hp hip hQ hy hS ?_;rw [hd];exact h
theorem P_takeW(i d:Nat)(v:Value)(l':Array Bool){oi:Oper}{fuel:Nat}{listed:Array Bool}{ts:Array Value}{ds:List Deferred}{w:World}(hi:ops[i]?=some oi)(hd:oi.dst=some d)(hl:listed.setIfInBounds i true=l')
 (hs:Region.noSelect ops=true) (hf:Region.free md ops listed i=true) (hr:(Region.ready md ops listed).contains i=true) (hip:p≠i)
 (hQ:∀ c a w,Q (.panic c) (a.put oi.dst v) w->Q (.panic c) a w) (hy:YieldsIf P ops (fun _=>True) oi v ⟨ts,ds⟩) (hS:S w)
 (h:wpAnyP P md ops Q S p fuel l' ⟨ts.setIfInBounds d v,ds⟩ w):wpAnyP P md ops Q S p (fuel+1) listed ⟨ts,ds⟩ w:=by
 subst hl;refine wpAnyP_takeW hi hs hf hr hip hQ hy hS ?_;rw [hd];exact h
theorem P_one(i:Nat)(l':Array Bool){oi:Oper}{fuel:Nat}{listed:Array Bool}{a:Act}{w:World}(hi:ops[i]?=some oi)(hl:listed.setIfInBounds i true=l')(hr:Region.ready md ops listed=[i])(hg:oi.guard=none)(hp:l'.getD p true=true)
 (h:∀ K:Act->World->Prop,(∀ a' w',wpAnyP P md ops Q S p fuel l' a' w'->K a' w')->oi.wp P a w K Q):wpAnyP P md ops Q S p (fuel+1) listed a w:=by
 subst hl;exact wpAnyP_one hi hr hg hp h
theorem P_oneS(i:Nat)(l':Array Bool){oi:Oper}{fuel:Nat}{listed:Array Bool}{a:Act}{w:World}(hi:ops[i]?=some oi)(hl:listed.setIfInBounds i true=l')(hr:Region.ready md ops listed=[i])(hg:oi.guard=none)
 (h:∀ K:Act->World->Prop,(∀ a' w',S w'->wpAnyP P md ops Q S p fuel l' a' w'->K a' w')->oi.wp P a w K Q):wpAnyP P md ops Q S p (fuel+1) listed a w:=by
 subst hl;refine⟨fun h0=>?_,fun j hj=>?_⟩
 . rw [hr]at h0
   cases h0
 . rw [hr]at hj
   have hj':j=i:=by simpa using hj
   subst hj';unfold wpOp;simp only [hi];rw [if_pos (by simp [Region.wanted,hg])];exact .inl (h _ fun _ _ h1 h2=>⟨fun _=>h1,h2⟩)
theorem P_takeX(i d:Nat)(v:Value)(l':Array Bool){oi:Oper}{fuel:Nat}{listed:Array Bool}{ts:Array Value}{ds:List Deferred}{w:World}(hi:ops[i]?=some oi)(hd:oi.dst=some d)(hl:listed.setIfInBounds i true=l')
 (hs:Region.noSelect ops=true) (hf:Region.free md ops listed i=true) (hr:(Region.ready md ops listed).contains i=true) (hip:p≠i)
 (hQ:∀ c a w,Q (.panic c) (a.put oi.dst v) w->Q (.panic c) a w) (hy:YieldsIf P ops (fun _=>True) oi v ⟨ts,ds⟩) (hp:listed.getD p true=true)
 (h:wpAnyP P md ops Q S p fuel l' ⟨ts.setIfInBounds d v,ds⟩ w):wpAnyP P md ops Q S p (fuel+1) listed ⟨ts,ds⟩ w:=by
 subst hl;refine wpAnyP_first (needs:=False) hi (Region.noSelect_spec hs) hQ (fun w h=>trivial) (fun h=>h.elim) hip fuel listed _ w (Region.free_spec hi hf) (by simpa using hr) hy (fun h=>h.elim) (fun h=>by rw [hp]at h;cases h) ?_;rw [hd];exact h
theorem P_oneG(i:Nat)(l':Array Bool){oi:Oper}{fuel:Nat}{listed:Array Bool}{a:Act}{w:World}(hi:ops[i]?=some oi)(hl:listed.setIfInBounds i true=l')(hr:Region.ready md ops listed=[i])(hg:Region.wanted oi (yielded ops a.tmps)=true)(hp:l'.getD p true=true)
 (h:∀ K:Act->World->Prop,(∀ a' w',wpAnyP P md ops Q S p fuel l' a' w'->K a' w')->oi.wp P a w K Q):wpAnyP P md ops Q S p (fuel+1) listed a w:=by
 subst hl;refine⟨fun h0=>?_,fun j hj=>?_⟩
 . rw [hr]at h0
   cases h0
 . rw [hr]at hj
   have hj':j=i:=by simpa using hj
   subst hj';unfold wpOp;simp only [hi];rw [if_pos hg];exact .inl (h _ fun _ _ h2=>⟨fun h9=>(by rw [hp]at h9;cases h9),h2⟩)
theorem P_done{listed:Array Bool}{a:Act}{w:World}(hr:Region.ready md ops listed=[])(h:Q .normal a w):∀ fuel,wpAnyP P md ops Q S p fuel listed a w:=wpAnyP_done hr h
end
section
variable {P : Program} {ops : Array Oper} {Q : Exit -> Act -> World -> Prop} {md : Region.Mode} {S : World -> Prop} {p : Nat}
def ClosedR(md:Region.Mode)(ops:Array Oper)(listed:Array Bool):Prop:=∀ j oj,ops[j]?=some oj->listed.getD j true=true->∀ e ∈ oj.after,Region.binds md e=true->listed.getD e.on true=true
def closedB(md:Region.Mode)(ops:Array Oper)(listed:Array Bool):Bool:=(List.range ops.size).all fun j=>match ops[j]? with
 | some oj=>!listed.getD j true || oj.after.all fun e=>!Region.binds md e || listed.getD e.on true
 | none=>true
theorem closedB_spec{listed:Array Bool}(h:closedB md ops listed=true):ClosedR md ops listed:=by
 intro j oj hj hl e he hb;unfold closedB at h;rw [List.all_eq_true]at h;have h1:=h j (by simpa using (Array.getElem?_eq_some_iff.1 hj).1);simp only [hj,hl,Bool.not_true,Bool.false_or]at h1;obtain⟨q,hq,rfl⟩:=Array.mem_iff_getElem.1 he;have h2:=(Array.all_eq_true.1 h1) q hq;simpa [hb] using h2
theorem getD_both_true{listed:Array Bool}{i:Nat}(h:listed.getD i false=true):listed.getD i true=true:=by
 by_cases hi:i<listed.size
 . simpa [Array.getD,hi] using h
 . simp [Array.getD,hi]
theorem closed_set{listed:Array Bool}(h:ClosedR md ops listed){i:Nat}(hi:i ∈ Region.ready md ops listed):ClosedR md ops (listed.setIfInBounds i true):=by
 intro j oj hj hl e he hb;have up:∀ q,listed.getD q true=true->(listed.setIfInBounds i true).getD q true=true:=fun q hq=>by
  by_cases e:i=q
  . subst e
    by_cases hs:i<listed.size
    . simp [Array.getD,hs]
    . simp [Array.getD,hs]
  . rw [getD_set_ne true e];exact hq
 by_cases hji:i=j
 . subst hji
   obtain⟨_,o',ho',hall⟩:=mem_ready.1 hi;have:oj=o':=Option.some.inj (hj.symm.trans ho');subst this;exact up _ (getD_both_true (hall e he hb))
 . rw [getD_set_ne true hji]at hl
   exact up _ (h j oj hj hl e he hb)
def pathB(md:Region.Mode)(ops:Array Oper)(i:Nat):Nat->List Nat->Bool
 | q,[]=>Region.waitsFor md ops q i
 | q,x :: xs=>Region.waitsFor md ops q x && pathB md ops i x xs
theorem path_listed{i:Nat}{listed:Array Bool}(hc:ClosedR md ops listed):∀ (xs:List Nat) (q:Nat),pathB md ops i q xs=true->(∃ oq,ops[q]?=some oq)->listed.getD q true=true->listed.getD i true=true
 | [],q,h,_,hq=>by
   obtain⟨oj,hoj,e,he,hb,hon⟩:=Region.waitsFor_spec h;rw [<- hon];exact hc q oj hoj hq e he hb
 | x :: xs,q,h,_,hq=>by
   simp only [pathB,Bool.and_eq_true]at h;obtain⟨oj,hoj,e,he,hb,hon⟩:=Region.waitsFor_spec h.1;have hx:listed.getD x true=true:=by rw [<- hon];exact hc q oj hoj hq e he hb
   cases xs with
   | nil =>
     obtain⟨ox,hox,-⟩:=Region.waitsFor_spec h.2;exact path_listed hc [] x h.2 ⟨ox,hox⟩ hx
   | cons y ys =>
     have h3:=h.2;simp only [pathB,Bool.and_eq_true]at h3;obtain⟨ox,hox,-⟩:=Region.waitsFor_spec h3.1;exact path_listed hc (y :: ys) x h.2 ⟨ox,hox⟩ hx
theorem not_ready_path{i:Nat}{listed:Array Bool}{xs:List Nat}(hc:ClosedR md ops listed)(hp:pathB md ops i p xs=true)(hun:listed.getD i true=false):p ∉ Region.ready md ops listed:=by
 intro hr;obtain⟨_,oj,hoj,hall⟩:=mem_ready.1 hr;have key:listed.getD i true=true:=by
  cases xs with
  | nil =>
    obtain⟨oj',hoj',e,he,hb,hon⟩:=Region.waitsFor_spec hp;have:oj=oj':=Option.some.inj (hoj.symm.trans hoj');subst this;rw [<- hon];exact getD_both_true (hall e he hb)
  | cons x xs =>
    simp only [pathB,Bool.and_eq_true]at hp;obtain⟨oj',hoj',e,he,hb,hon⟩:=Region.waitsFor_spec hp.1;have:oj=oj':=Option.some.inj (hoj.symm.trans hoj');subst this;have hx:listed.getD x true=true:=by rw [<- hon];exact getD_both_true (hall e he hb)
    have hex:∃ ox,ops[x]?=some ox:=by
     cases xs with
     | nil =>
       obtain⟨ox,hox,-⟩:=Region.waitsFor_spec hp.2;exact⟨ox,hox⟩
     | cons y ys =>
       have h3:=hp.2;simp only [pathB,Bool.and_eq_true]at h3;obtain⟨ox,hox,-⟩:=Region.waitsFor_spec h3.1;exact⟨ox,hox⟩
    exact path_listed hc xs x hp.2 hex hx
 rw [key]at hun;cases hun
theorem wpAnyP_firstT{i:Nat}{oi:Oper}{v:Value}{xs:List Nat}(hi:ops[i]?=some oi)(hsel:∀ (j:Nat) (o:Oper) cs b,ops[j]?=some o->o.op≠.select cs b)
 (hQ:∀ c a w,Q (.panic c) (a.put oi.dst v) w->Q (.panic c) a w) (hw:pathB md ops i p xs=true) (hip:p≠i) :
 ∀ (fuel:Nat) (listed:Array Bool) (a:Act) (w:World),ClosedR md ops listed ->
  (∀ j oj,ops[j]?=some oj->j≠i->listed.getD j true=false->(∀ e ∈ oj.after,Region.binds md e=true->e.on≠i)->oi.apart ops oj=true) ->
  i ∈ Region.ready md ops listed->YieldsIf P ops S oi v a->listed.getD p true=false->S w ->
  wpAnyP P md ops Q S p fuel (listed.setIfInBounds i true) (a.put oi.dst v) w->wpAnyP P md ops Q S p (fuel+1) listed a w:=by
 intro fuel;induction fuel with
 | zero =>
   intro listed a w hc _ hr hy hp hS H;refine⟨fun h=>(by rw [h]at hr;cases hr),fun j hj=>?_⟩;by_cases hji:j=i
   . subst hji;exact hy.wpOp hi hS ⟨fun _=>hS,H⟩
   . have:=ready_mono hj hji
     rw [H.1]at this;cases this
 | succ fuel ih =>
   intro listed a w hc hfree hr hy hp hS H;refine⟨fun h=>(by rw [h]at hr;cases hr),fun j hj=>?_⟩;by_cases hji:j=i
   . subst hji;exact hy.wpOp hi hS ⟨fun _=>hS,H⟩
   . have hun:=(mem_ready.1 hr).1
     have h1:=H.2 j (ready_mono hj hji);obtain⟨hjun,oj,hoj,hall⟩:=mem_ready.1 hj;have hnot:∀ e ∈ oj.after,Region.binds md e=true->e.on≠i:=fun e he hb heq=>by
      have h9:=hall e he hb;rw [heq,getD_both hun]at h9;cases h9
     have h2:=wpOp_putIf hoj (hfree j oj hoj hji hjun hnot) (fun cs b=>hsel i oi cs b hi) (fun cs b=>hsel j oj cs b hoj) hQ hy h1;have hfree':∀ k ok,ops[k]?=some ok->k≠i->(listed.setIfInBounds j true).getD k true=false ->
      (∀ e ∈ ok.after,Region.binds md e=true->e.on≠i)->oi.apart ops ok=true:=fun k ok hk hki hun' hno=>hfree k ok hk hki (getD_unset hun') hno
     refine wpOp_mono (fun a' w' h3=>?_) h2;have hjp:j≠p:=fun e=>not_ready_path hc hw hun (e ▸ hj);have hpp:(listed.setIfInBounds j true).getD p true=false:=by rw [getD_set_ne true hjp];exact hp
     have hS':S w':=h3.2.1 (by rw [Array.setIfInBounds_comm _ _ (Ne.symm hji),getD_set_ne true (Ne.symm hip)];exact hpp);refine⟨fun _=>hS',ih (listed.setIfInBounds j true) a' w' (closed_set hc hj) hfree' (ready_mono hr (Ne.symm hji)) h3.1 hpp hS' ?_⟩;rw [Array.setIfInBounds_comm _ _ hji];exact h3.2.2
theorem P_takeT(i d:Nat)(v:Value)(l':Array Bool)(xs:List Nat){oi:Oper}{fuel:Nat}{listed:Array Bool}{ts:Array Value}{ds:List Deferred}{w:World}(hi:ops[i]?=some oi)(hd:oi.dst=some d)(hl:listed.setIfInBounds i true=l')
 (hs:Region.noSelect ops=true) (hf:Region.free md ops listed i=true) (hr:(Region.ready md ops listed).contains i=true) (hz:pathB md ops i p xs=true) (hc:closedB md ops listed=true) (hp:listed.getD p true=false) (hip:p≠i)
 (hQ:∀ c a w,Q (.panic c) (a.put oi.dst v) w->Q (.panic c) a w) (hy:YieldsIf P ops S oi v ⟨ts,ds⟩) (hS:S w)
 (h:wpAnyP P md ops Q S p fuel l' ⟨ts.setIfInBounds d v,ds⟩ w):wpAnyP P md ops Q S p (fuel+1) listed ⟨ts,ds⟩ w:=by
 subst hl;refine wpAnyP_firstT hi (Region.noSelect_spec hs) hQ hz hip fuel listed _ w (closedB_spec hc) (Region.free_spec hi hf) (by simpa using hr) hy hp hS ?_;rw [hd];exact h
end
def noPanic(Q:Exit->Act->World->Prop):Exit->Act->World->Prop
 | .panic _,_,_=>False
 | e,a,w=>Q e a w
theorem wp_nopanic{P:Program}{c:Code}{Q:Exit->Act->World->Prop}{a:Act}{w:World}(h:c.wp P (noPanic Q) a w):c.wp P Q a w :=
 Code.wp_mono (fun e a w h=>by cases e<;>first | exact h | exact h.elim) h
theorem noPanic_normal{Q:Exit->Act->World->Prop}{a:Act}{w:World}(h:Q .normal a w):noPanic Q .normal a w:=h
def bz(n m:Nat):Array Bool:=((List.range n).map m.testBit).toArray
def ckI(md:Region.Mode)(ops:Array Oper)(n m m' i:Nat):Bool:=decide ((bz n m).setIfInBounds i true=bz n m') && (Region.ready md ops (bz n m)).contains i
def ckD(ops:Array Oper)(i d:Nat):Bool:=match ops[i]? with
 | some o=>decide (o.dst=some d)
 | none=>false
def ckW(md:Region.Mode)(ops:Array Oper)(p n m m' i d:Nat):Bool:=ckI md ops n m m' i && ckD ops i d && Region.noSelect ops && Region.free md ops (bz n m) i && decide (p≠i)
def ckT(md:Region.Mode)(ops:Array Oper)(p n m m' i d:Nat)(xs:List Nat):Bool:=ckW md ops p n m m' i d && pathB md ops i p xs && closedB md ops (bz n m) && decide ((bz n m).getD p true=false)
def ckO(md:Region.Mode)(ops:Array Oper)(n m m' i:Nat):Bool:=decide ((bz n m).setIfInBounds i true=bz n m') && decide (Region.ready md ops (bz n m)=[i])
section
variable {P : Program} {ops : Array Oper} {Q : Exit -> Act -> World -> Prop} {md : Region.Mode} {S : World -> Prop} {p n m fuel : Nat} {ts : Array Value} {ds : List Deferred} {w : World} {oi : Oper} {a : Act}
theorem ckD_of{i d:Nat}(h:ckD ops i d=true)(hi:ops[i]?=some oi):oi.dst=some d:=by
 unfold ckD at h;rw [hi]at h;exact of_decide_eq_true h
theorem ckW_of{m' i d:Nat}(h:ckW md ops p n m m' i d=true)(hi:ops[i]?=some oi):((bz n m).setIfInBounds i true=bz n m'/\(Region.ready md ops (bz n m)).contains i=true)/\oi.dst=some d/\Region.noSelect ops=true/\Region.free md ops (bz n m) i=true/\p≠i:=by
 unfold ckW at h;simp only [Bool.and_eq_true,decide_eq_true_eq,ckI]at h;obtain⟨⟨⟨⟨⟨h1,h2⟩,h3⟩,h4⟩,h5⟩,h6⟩:=h;exact⟨⟨h1,h2⟩,ckD_of h3 hi,h4,h5,h6⟩
theorem Q_start{id:Nat}(S:World->Prop)(p n:Nat)(h:wpAnyP P .any ops (noPanic Q) S p n (bz n 0) a w.drew)(hn:ops.size=n:=by kernel_rfl)(hl:Array.replicate n false=bz n 0:=by kernel_rfl)(hm:P.follows .mixedOrders=true:=by kernel_rfl):(Code.region id ops true).wp P Q a w :=
 wp_nopanic (P_start S p n (bz n 0) hn hl hm h)
theorem Q_W(i d m':Nat)(v:Value)(hi:ops[i]?=some oi)(hS:S w)(h:wpAnyP P md ops (noPanic Q) S p fuel (bz n m') ⟨ts.setIfInBounds d v,ds⟩ w)
 (hc:ckW md ops p n m m' i d=true:=by kernel_rfl) (hy:YieldsIf P ops (fun _=>True) oi v ⟨ts,ds⟩:=by exact .inl ⟨by rfl,fun _ _=>by go_simp⟩):wpAnyP P md ops (noPanic Q) S p (fuel+1) (bz n m) ⟨ts,ds⟩ w:=by
 obtain⟨⟨h1,h2⟩,h3,h4,h5,h6⟩:=ckW_of hc hi;exact P_takeW i d v _ hi h3 h1 h4 h5 h2 h6 (fun _ _ _ h=>h) hy hS h
theorem Q_T(i d m':Nat)(v:Value)(xs:List Nat)(hi:ops[i]?=some oi)(hS:S w)(hy:YieldsIf P ops S oi v ⟨ts,ds⟩)(h:wpAnyP P md ops (noPanic Q) S p fuel (bz n m') ⟨ts.setIfInBounds d v,ds⟩ w)
 (hc:ckT md ops p n m m' i d xs=true:=by kernel_rfl):wpAnyP P md ops (noPanic Q) S p (fuel+1) (bz n m) ⟨ts,ds⟩ w:=by
 unfold ckT at hc;simp only [Bool.and_eq_true,decide_eq_true_eq]at hc;obtain⟨⟨⟨hc,g1⟩,g2⟩,g3⟩:=hc;obtain⟨⟨h1,h2⟩,h3,h4,h5,h6⟩:=ckW_of hc hi;exact P_takeT i d v _ xs hi h3 h1 h4 h5 h2 g1 g2 g3 h6 (fun _ _ _ h=>h) hy hS h
theorem Q_X(i d m':Nat)(v:Value)(hi:ops[i]?=some oi)(h:wpAnyP P md ops (noPanic Q) S p fuel (bz n m') ⟨ts.setIfInBounds d v,ds⟩ w)
 (hc:ckW md ops p n m m' i d=true:=by kernel_rfl) (hp:(bz n m).getD p true=true:=by kernel_rfl) (hy:YieldsIf P ops (fun _=>True) oi v ⟨ts,ds⟩:=by exact .inl ⟨by rfl,fun _ _=>by go_simp⟩):wpAnyP P md ops (noPanic Q) S p (fuel+1) (bz n m) ⟨ts,ds⟩ w:=by
 obtain⟨⟨h1,h2⟩,h3,h4,h5,h6⟩:=ckW_of hc hi;exact P_takeX i d v _ hi h3 h1 h4 h5 h2 h6 (fun _ _ _ h=>h) hy hp h
theorem Q_1(i m':Nat)(hi:ops[i]?=some oi)(h:∀ K:Act->World->Prop,(∀ a' w',wpAnyP P md ops Q S p fuel (bz n m') a' w'->K a' w')->oi.wp P a w K Q)
 (hc:ckO md ops n m m' i=true:=by kernel_rfl) (hg:Region.wanted oi (yielded ops a.tmps)=true:=by rfl) (hp:(bz n m').getD p true=true:=by kernel_rfl):wpAnyP P md ops Q S p (fuel+1) (bz n m) a w:=by
 unfold ckO at hc;simp only [Bool.and_eq_true,decide_eq_true_eq]at hc;exact P_oneG i _ hi hc.1 hc.2 hg hp h
theorem Q_1S(i m':Nat)(hi:ops[i]?=some oi)(h:∀ K:Act->World->Prop,(∀ a' w',S w'->wpAnyP P md ops Q S p fuel (bz n m') a' w'->K a' w')->oi.wp P a w K Q)
 (hc:ckO md ops n m m' i=true:=by kernel_rfl) (hg:oi.guard=none:=by rfl):wpAnyP P md ops Q S p (fuel+1) (bz n m) a w:=by
 unfold ckO at hc;simp only [Bool.and_eq_true,decide_eq_true_eq]at hc;exact P_oneS i _ hi hc.1 hc.2 hg h
theorem Q_end(h:Q .normal a w)(hr:Region.ready md ops (bz n m)=[]:=by kernel_rfl):wpAnyP P md ops (noPanic Q) S p fuel (bz n m) a w:=P_done hr (noPanic_normal h) fuel
end
end Go.Proofs.YthmhogdceolkdaaGreat