/- Bundle. Conditions: none. -/
import Derived.Test.YtkdfefpnhaebfaaGreatBwoaw
import Derived.Test.YtkdfefpnhaebfaaGreatBwoab
import Derived.OrdersIn
set_option linter.unusedVariables false
set_option linter.unusedSimpArgs false
namespace Go.Proofs.YtkdfefpnhaebfaaGreat.Cr
open CM Go.RowKit
theorem p0(W:World):Calls Tryz.prog 27 #[.int .i64 0] W fun e w'=>e= .returned (.tuple #[.agg #[.int .i64 0,.int .i64 0,.int .i64 0,.int .i64 0,.int .i64 0,.int .i64 0,.int .i64 0],.int .i64 2])∧Below W.heap.size W w':=plan_top_bad 0 W (by decide)
def sE(xs:List Int):Int:=if xs.length<1∨79560<xs.length then 2 else if ValidB xs=true then 0 else 3
def sD(xs:List Int):List (List Int):=if sE xs=0 then segs xs.length (List.replicate (fi xs.length) 0 ++ xs) (bC xs.length) else []
structure SpAllS (w:World) (xs:List Int) (w':World) (A':Option Addr) (n' c':Nat) (L:List Sv):Prop where
 b:BL w' w.heap.size A' c' L
 n:n'=L.length
 l:L.map (·.xs)=sD xs
 y:∀ s ∈ L,Bit s.xs
 k:Below w.heap.size w w'
def SpAll(xs:List Int)(w:World)(e:Ending)(w':World):Prop:=∃ A' n' c' L,e= .returned (.tuple #[.slice A' n' c',.int .i64 (sE xs)])∧SpAllS w xs w' A' n' c' L
theorem segB_bit{b:Nat}{d:List Int}(h:Bit d):Bit (segB b d):=by
 unfold segB;split
 · exact h
 · exact bit_app h (bit_sum (by decide) h)
theorem segs_bit{b k:Nat}{full:List Int}(h:Bit full):∀ d ∈ segs b full k,Bit d:=by
 intro d hd
 unfold segs at hd
 obtain⟨i,_,rfl⟩:=List.mem_map.1 hd
 exact segB_bit (bit_take _ (bit_drop _ h))
theorem SpAll.bad{xs:List Int}{k:Int}{w w':World}{e:Ending}(h:SpBad k w e w')(hk:sE xs=k)(h0:k≠0):SpAll xs w e w':=by
 obtain⟨rfl,hB⟩:=h
 exact⟨none,0,0,[],by rw [hk],BL.nil _ _,rfl,by unfold sD;rw [if_neg (by rw [hk];exact h0)];rfl,by simp,hB⟩
theorem SpAll.ok{xs:List Int}{w w':World}{A':Option Addr}{c':Nat}{L:List Sv}(hb:Bit xs)(hE:sE xs=0)(hBL:BL w' w.heap.size A' c' L)(hxs:L.map (·.xs)=segs xs.length (List.replicate (fi xs.length) 0 ++ xs) (bC xs.length))(hB:Below w.heap.size w w'):SpAll xs w (.returned (.tuple #[.slice A' L.length c',.int .i64 0])) w':=by
 refine⟨A',L.length,c',L,by rw [hE],hBL,rfl,by unfold sD;rw [if_pos hE];exact hxs,fun s hs=>?_,hB⟩
 have h1:s.xs ∈ L.map (·.xs):=List.mem_map.2 ⟨s,hs,rfl⟩
 rw [hxs]at h1
 exact segs_bit (bit_app (bit_zeros _) hb) _ h1
theorem split_all(A:Option Addr)(n c:Nat)(xs:List Int)(w:World)(hx:Rd .u8 w A n c xs)(hy:Byt xs):Calls Tryz.prog 57 #[.slice A n c] w (SpAll xs w):=by
 have hl:=hx.len
 by_cases h:n<1∨79560<n
 · exact(split_bad A n c w h).mono fun e w' he=>SpAll.bad he (by unfold sE;rw [hl,if_pos h]) (by decide)
 · by_cases hv:ValidB xs=true
   · have hE:sE xs=0:=by unfold sE;rw [hl,if_neg h,if_pos hv]
     refine(split_ok A n c xs w hx (by omega) (by omega) hv).mono ?_
     rintro e w' ⟨A',c',L,rfl,hBL,hxs,hB⟩
     exact SpAll.ok (bit_of (fun x hx=>(hy x hx).1) hv) hE hBL (by rw [hl];exact hxs) hB
   · have hf:ValidB xs=false:=by simpa using hv
     exact(split_bit A n c xs w hx (by omega) (by omega) hf).mono fun e w' he=>SpAll.bad he (by unfold sE;rw [hl,if_neg h,if_neg hv]) (by decide)
def jE(b:Int)(L:List Sv):Int:=if b<1∨79560<b then 2 else jErr b.toNat L
def jR(b:Int)(L:List Sv):List Int:=if b<1∨79560<b then [] else jRes b.toNat L
def JAll(b:Int)(L:List Sv)(w:World)(e:Ending)(w':World):Prop:=∃ A' n' c',e= .returned (.tuple #[.slice A' n' c',.int .i64 (jE b L)])∧Rd .u8 w' A' n' c' (jR b L)∧Below w.heap.size w w'
theorem jbad_all{b:Int}{L:List Sv}{w w':World}{e:Ending}(h:JBad 2 w e w')(hb:b<1∨79560<b):JAll b L w e w':=by
 obtain⟨rfl,hB⟩:=h
 refine⟨none,0,0,by rw [jE,if_pos hb],?_,hB⟩
 rw [jR,if_pos hb]
 exact Rd.nilv _ _
theorem jpost_all{b:Int}{L:List Sv}{w w':World}{e:Ending}(h:JPost b.toNat L w e w')(hb:¬ (b<1∨79560<b)):JAll b L w e w':=by
 obtain⟨A',n',c',rfl,hR,hB⟩:=h
 refine⟨A',n',c',by rw [jE,if_neg hb],?_,hB⟩
 rw [jR,if_neg hb]
 exact hR
theorem join_all(b:Int)(A:Option Addr)(n c:Nat)(L:List Sv)(w:World)(hL:RL w A n c L)(hs:∀ s ∈ L,s.n≤100000):Calls Tryz.prog 127 #[.int .i64 b,.slice A n c] w (JAll b L w):=by
 by_cases hb:b<1∨79560<b
 · exact(join_bad b A n c w hb).mono fun e w' he=>jbad_all he hb
 · have h:=join_any b.toNat A n c L w (by omega) (by omega) hL hs
   rw [show ((b.toNat:Nat):Int)=b by omega]at h
   exact h.mono fun e w' he=>jpost_all he hb
theorem segs_le{b k:Nat}{full:List Int}(h1:1≤b):∀ d ∈ segs b full k,d.length≤6168:=by
 intro d hd
 unfold segs at hd
 obtain⟨i,_,rfl⟩:=List.mem_map.1 hd
 have h2:=(sz_ge (i:=i) h1).2
 unfold segB
 split
 · rw [List.length_take];omega
 · rw [List.length_append,crcSum_len,List.length_take,show sLen 2=24 from rfl];omega
theorem sD_le{xs:List Int}:(∀ d ∈ sD xs,d.length≤6168)∧(sD xs).length≤13:=by
 unfold sD
 split
 · rename_i h
   have h1:1≤xs.length∧xs.length≤79560:=by
    unfold sE at h
    split at h
    · cases h
    · omega
   exact⟨segs_le h1.1,by unfold segs;rw [List.length_map,List.length_range];exact bC_le h1.2⟩
 · exact⟨by simp,by simp⟩
theorem SpAllS.few{w w':World}{xs:List Int}{A':Option Addr}{n' c':Nat}{L:List Sv}(h:SpAllS w xs w' A' n' c' L):n'≤13:=by
 have h1:=congrArg List.length h.l
 rw [List.length_map]at h1
 have h2:=sD_le (xs:=xs).2
 rw [h.n];omega
section
variable {w : World} {base c : Nat} {A : Option Addr} {L : List Sv}
end
end Go.Proofs.YtkdfefpnhaebfaaGreat.Cr
namespace Go.Proofs.YtkdfefpnhaebfaaGreat.Cr
open Go.RowKit Go.Shelf
attribute [local go_sem] Oper.semAt_some
def Cl{β:Type}(B:Nat)(J:β→World→Prop):Prop:=∀ s W W' row,J s W→W.grownBy W' row→(∀ r,row=some r→B≤r)→J s W'
theorem Cl.alloc{β:Type}{B:Nat}{J:β→World→Prop}(h:Cl B J){s:β}{W:World}(o:Obj)(hs:J s W):J s (W.alloc o):=h s W _ none hs (World.grownBy_alloc W o none) (fun r e=>by cases e)
theorem Cl.put{β:Type}{B:Nat}{J:β→World→Prop}(h:Cl B J){s:β}{W:World}{l:Nat}(o:Obj)(hs:J s W)(hl:B≤l):J s (W.putObj l o):=h s W _ (some l) hs (grownBy_putObj' W l o) (fun r e=>by cases e;exact hl)
theorem Cl.set{β:Type}{B:Nat}{J:β→World→Prop}(h:Cl B J){s:β}{W W':World}{l:Nat}(hs:J s W)(hg:W.grownBy W' (some l))(hl:B≤l):J s W':=h s W _ (some l) hs hg (fun r e=>by cases e;exact hl)
theorem grown_of_below{W W':World}(h:Below W.heap.size W W'):W.grownBy W' none:=⟨h.os,h.tape,h.output,h.size,fun k hk _=>h.block k hk⟩
theorem Cl.call{β:Type}{B:Nat}{J:β→World→Prop}(h:Cl B J){s:β}{W W':World}(hs:J s W)(hb:Below W.heap.size W W'):J s W':=h s W _ none hs (grown_of_below hb) (fun r e=>by cases e)
def KpB(bs:List Nat)(A B:World):Prop:=A.heap.size≤B.heap.size∧∀ k o,A.heap[k]?=some o→o.isCells=true→k ∉ bs→B.heap[k]?=some o
theorem KpB.trans{bs:List Nat}{A B C:World}(h:KpB bs A B)(k:KpB bs B C):KpB bs A C:=⟨Nat.le_trans h.1 k.1,fun i o hi hc hb=>k.2 i o (h.2 i o hi hc hb) hc hb⟩
theorem KpB.set{bs:List Nat}{W W':World}{b:Nat}(hg:W.grownBy W' (some b))(hb:b ∈ bs):KpB bs W W':=⟨hg.size,fun k o hk hc hn=>(hg.block k (Array.getElem?_eq_some_iff.1 hk).1 (fun e=>by cases e;exact hn hb)).trans hk⟩
theorem KpB.put{bs:List Nat}{W:World}{l:Nat}{o:Obj}(o':Obj)(h:W.heap[l]?=some o)(ho:o.isCells=false):KpB bs W (W.putObj l o'):=by
 have hg:=grownBy_putObj' W l o'
 refine⟨hg.size,fun k x hk hc hn=>(hg.block k (Array.getElem?_eq_some_iff.1 hk).1 (fun e=>?_)).trans hk⟩
 cases e
 rw [h]at hk
 cases hk
 rw [ho]at hc
 cases hc
theorem Blk.kp{W W':World}{b:Nat}{t:TypeId}{cs:List Value}{bs:List Nat}(h:Blk W b t cs)(hk:KpB bs W W')(hb:b ∉ bs):Blk W' b t cs:=hk.2 b _ h rfl hb
section
variable {P : Program} {Q : Exit → Act → World → Prop} {n : Nat}
theorem operIn_w{o:Oper}{a:Act}{w:World}{K:Act→World→Prop}(hd:∀ c,o.op≠.defer c)(h:o.wp P a w K Q):o.wpIn Fence.wide n P a w K Q:=by
 refine⟨fun _ _=>trivial,?_⟩
 rw [Oper.semAt_eq _ _ _ hd]
 unfold Oper.wp at h
 cases hr:(execOp a.eval o).run P w with
 | ok x w' =>
   rw [hr]at h
   cases x<;>first | exact h | exact(h:False).elim | skip
   · exact⟨by simp [Fence.wide],callsIn_wide.2 h⟩
   all_goals exact⟨by simp [Fence.wide],fun c cs _=>let ⟨v,w',r,s⟩:=h c cs;⟨v,w',r,stepsIn_wide.2 s⟩⟩
 | halt x w' =>
   rw [hr]at h
   cases x<;>first | exact h | exact(h:False).elim
theorem listIn_of{ops:Array Oper}{rest:List Oper}{o:Oper}{a:Act}{w:World}(hgd:o.guard=none)(hd:∀ c,o.op≠.defer c)(h:∀ K:Act→World→Prop,(∀ a w,wpListIn Fence.wide n P ops Q rest a w→K a w)→o.wp P a w K Q):wpListIn Fence.wide n P ops Q (o :: rest) a w :=
 wpListIn_plain hgd fun K hK=>operIn_w hd (h K hK)
end
section
variable {F : Fence} {n : Nat} {P : Program} {Q : Exit → Act → World → Prop} {a : Act} {w : World}
theorem wpIn_scope_straight{c:Code}(hro:F.round=none)(h:c.wpIn F n P (Exit.noGoto Q) a w):(Code.scope c).wpIn F n P Q a w:=by
 intro b k cs hb1 hb hr
 have hn:b.roundOf=none:=by rw [hb1,hro]
 have h0:(lone (b.atR a (.code (.scope c) :: k)) cs w).fenced P F:=fenced_calm hb hr rfl
 have s0:step P (lone (b.atR a (.code (.scope c) :: k)) cs w)= .next (lone (b.atR a (.code c :: .inScope c :: k)) cs w):=by
  rw [Frame.atR_of_none hn,Frame.atR_of_none hn];exact step_scope
 have s1:∀ a₁ w₁,step P (lone (b.atR a₁ (.inScope c :: k)) cs w₁)= .next (lone (b.atR a₁ k) cs w₁):=fun a₁ w₁=>by
  rw [Frame.atR_of_none hn,Frame.atR_of_none hn];exact step_inScope
 obtain⟨e,a₁,w₁,hq,harr⟩:=h b (.inScope c :: k) cs hb1 hb hr
 cases e with
 | normal=>exact⟨.normal,a₁,w₁,hq,.of_steps (.one h0 s0) (StepsIn.trans harr (.one (fenced_calm hb hr rfl) (s1 a₁ w₁)))⟩
 | exit id=>exact⟨.exit id,a₁,w₁,hq,fun k' hk=>StepsIn.trans (.one h0 s0) (harr.1 k' (by simp [exitTo,hk])),fun hs=>by rw [hn]at hs;cases hs⟩
 | goto l=>exact hq.elim
 | ret=>exact⟨_,a₁,w₁,hq,.of_steps (.one h0 s0) harr⟩
 | panic ch=>exact⟨_,a₁,w₁,hq,.of_steps (.one h0 s0) harr⟩
 | outgrown=>exact⟨_,a₁,w₁,hq,.of_steps (.one h0 s0) harr⟩
end
theorem takeP_succ(ps:List (Int × Int))(k:Nat)(h:k<ps.length):ps.take (k+1)=ps.take k ++ [ps[k]]:=by
 rw [List.take_succ_eq_append_getElem h]
def encP(x:Int × Int):Array Value:=#[.int .i64 x.1,.int .i64 x.2]
/-! ### the loop over it -/
end Go.Proofs.YtkdfefpnhaebfaaGreat.Cr
namespace Go.Proofs.YtkdfefpnhaebfaaGreat.Cr
open Go.RowKit
section
variable {F : Fence} {n : Nat} {P : Program} {ops : Array Oper} {Q : Exit → Act → World → Prop} {md : Region.Mode} {S : World → Prop} {p : Nat}
def YieldsFor(P:Program)(ops:Array Oper)(S:World→Prop)(o:Oper)(v:Value)(a:Act):Prop:=YieldsIf P ops S o v a∧∀ w,o.about P w a.eval=none
theorem YieldsFor.goes{i:Nat}{o:Oper}{v:Value}{a:Act}(hro:F.round=none)(hi:ops[i]?=some o)(hy:YieldsFor P ops S o v a){K:Act→World→Prop}{w:World}(hS:S w)(h:K (a.put o.dst v) w):wpOpIn F n P ops Q i K a w:=by
 have hab:∀ f,o.about P w a.eval=some f→F.fn f:=fun f hf=>by rw [hy.2 w]at hf;cases hf
 unfold wpOpIn
 simp only [hi]
 rcases hy.1 with⟨hw,hv⟩ | ⟨hw,rfl⟩
 · simp only [hw,if_true,Oper.wpIn,hro,Oper.semAt_none,hv w hS,Oper.uponIn];exact⟨hab,h⟩
 · simp only [hw,Bool.false_eq_true,if_false];exact⟨hab,h⟩
theorem YieldsFor.same{o:Oper}{v:Value}{a a':Act}(hy:YieldsFor P ops S o v a)(he:execOp a'.eval o=execOp a.eval o)(hw:Region.wanted o (yielded ops a'.tmps)=Region.wanted o (yielded ops a.tmps))(hb:∀ w,o.about P w a'.eval=o.about P w a.eval):YieldsFor P ops S o v a' :=
 ⟨hy.1.of_same he hw,fun w=>by rw [hb w];exact hy.2 w⟩
theorem wpOpIn_for{j:Nat}{oi oj:Oper}{v:Value}(hro:F.round=none)(hj:ops[j]?=some oj)(hap:oi.apart ops oj=true)(hsi:∀ cs b,oi.op≠.select cs b)(hsj:∀ cs b,oj.op≠.select cs b)
 (hQ:∀ c a w,Q (.panic c) (a.put oi.dst v) w→Q (.panic c) a w) {K:Act→World→Prop} {a:Act} {w:World} (hy:YieldsFor P ops S oi v a) (h:wpOpIn F n P ops Q j K (a.put oi.dst v) w) :
 wpOpIn F n P ops Q j (fun a' w'=>YieldsFor P ops S oi v a'∧K (a'.put oi.dst v) w') a w:=by
 obtain⟨h1,h2,h3⟩:=Oper.apart_spec hap
 have hk:∀ (b:Act),YieldsFor P ops S oi v b→∀ u,YieldsFor P ops S oi v (b.put oj.dst u):=fun b hb u=>hb.same (execOp_put oi hsi b oj.dst u h3) (wanted_put oi b oj.dst u h3) (fun w=>about_put oi w b oj.dst u h3)
 have hd:∀ d,YieldsFor P ops S oi v {a with defers:=d :: a.defers}:=fun d=>hy.same rfl rfl (fun _=>rfl)
 have hc:∀ (b:Act) u,(b.put oj.dst u).put oi.dst v=(b.put oi.dst v).put oj.dst u:=fun b u=>(Act.put_comm b v u h2).symm
 unfold wpOpIn at *
 simp only [hj]at *
 rw [wanted_put oj a oi.dst v h1,about_put oj w a oi.dst v h1]at h
 by_cases hw:Region.wanted oj (yielded ops a.tmps)=true
 · rw [if_pos hw]at h ⊢
   unfold Oper.wpIn at *
   rw [about_put oj w a oi.dst v h1]at h
   refine⟨h.1,?_⟩
   have h9:=h.2
   rw [hro,Oper.semAt_none,execOp_put oj hsj a oi.dst v h1]at h9
   rw [hro,Oper.semAt_none]
   cases hr:(execOp a.eval oj).run P w with
   | ok x w' =>
     rw [hr]at h9
     cases x with
     | value u=>exact⟨hk a hy u,by rw [hc];exact h9⟩
     | skip=>exact⟨hk a hy _,by rw [hc];exact h9⟩
     | defer d=>exact⟨hk _ (hd d) _,by rw [hc,← Act.put_defers];exact h9⟩
     | enter f args =>
       refine⟨h9.1,CallsIn.mono h9.2 fun e w'' he=>?_⟩
       cases e with
       | returned u=>exact⟨hk a hy u,by rw [hc];exact he⟩
       | panicked c=>exact hQ _ _ _ he
       | outgrown=>exact he
     | row r args=>exact⟨h9.1,RowsIn.mono h9.2 fun u w'' he=>⟨hk a hy u,by rw [hc];exact he⟩⟩
     | round l f tmps assign body =>
       refine⟨h9.1,RoundIn.mono h9.2 fun e w'' he=>?_⟩
       cases e with
       | returned u=>exact⟨hk a hy u,by rw [hc];exact he⟩
       | panicked c=>exact hQ _ _ _ he
       | outgrown=>exact he
     | _=>exact h9
   | halt x w' =>
     rw [hr]at h9
     cases x with
     | panic u=>exact hQ _ _ _ h9
     | _=>exact h9
 · rw [if_neg hw]at h ⊢
   exact⟨h.1,hk a hy _,by rw [hc];exact h.2⟩
def wpInP(F:Fence)(n:Nat)(P:Program)(md:Region.Mode)(ops:Array Oper)(Q:Exit→Act→World→Prop)(S:World→Prop)(p:Nat):Nat→Array Bool→Act→World→Prop
 | 0,listed,a,w=>Region.ready md ops listed=[]∧Q .normal a w
 | fuel+1,listed,a,w=>(Region.ready md ops listed=[]→Q .normal a w) ∧
   ∀ i ∈ Region.ready md ops listed,wpOpIn F n P ops Q i (fun a' w'=>((listed.setIfInBounds i true).getD p true=false→S w')∧wpInP F n P md ops Q S p fuel (listed.setIfInBounds i true) a' w') a w
theorem wpAnyIn_of_P:∀ (fuel:Nat) (listed:Array Bool) (a:Act) (w:World),wpInP F n P md ops Q S p fuel listed a w→wpAnyIn F n P md ops Q fuel listed a w
 | 0,_,_,_,h=>h
 | fuel+1,_,_,_,h=>⟨h.1,fun i hi=>wpOpIn_mono (fun a' w' h'=>wpAnyIn_of_P fuel _ a' w' h'.2) (h.2 i hi)⟩
theorem wpInP_first{T:World→Prop}{i:Nat}{oi:Oper}{v:Value}{xs:List Nat}{needs:Prop}(hro:F.round=none)(hi:ops[i]?=some oi)(hsel:∀ (j:Nat) (o:Oper) cs b,ops[j]?=some o→o.op≠.select cs b)
 (hQ:∀ c a w,Q (.panic c) (a.put oi.dst v) w→Q (.panic c) a w) (hT:∀ w,(needs→S w)→T w) (hw:needs→pathB md ops i p xs=true) (hip:p≠i) :
 ∀ (fuel:Nat) (listed:Array Bool) (a:Act) (w:World),(needs→ClosedR md ops listed) →
  (∀ j oj,ops[j]?=some oj→j≠i→listed.getD j true=false→(∀ e ∈ oj.after,Region.binds md e=true→e.on≠i)→oi.apart ops oj=true) →
  i ∈ Region.ready md ops listed→YieldsFor P ops T oi v a→(needs→listed.getD p true=false)→(listed.getD p true=false→S w) →
  wpInP F n P md ops Q S p fuel (listed.setIfInBounds i true) (a.put oi.dst v) w→wpInP F n P md ops Q S p (fuel+1) listed a w:=by
 intro fuel
 induction fuel with
 | zero =>
   intro listed a w hc _ hr hy hp hS H
   refine⟨fun h=>(by rw [h]at hr;cases hr),fun j hj=>?_⟩
   by_cases hji:j=i
   · subst hji;exact hy.goes hro hi (hT w fun m=>hS (hp m)) ⟨fun h=>hS (getD_unset h),H⟩
   · have:=ready_mono hj hji
     rw [H.1]at this
     cases this
 | succ fuel ih =>
   intro listed a w hc hfree hr hy hp hS H
   refine⟨fun h=>(by rw [h]at hr;cases hr),fun j hj=>?_⟩
   by_cases hji:j=i
   · subst hji;exact hy.goes hro hi (hT w fun m=>hS (hp m)) ⟨fun h=>hS (getD_unset h),H⟩
   · have hun:=(mem_ready.1 hr).1
     have h1:=H.2 j (ready_mono hj hji)
     obtain⟨hjun,oj,hoj,hall⟩:=mem_ready.1 hj
     have hnot:∀ e ∈ oj.after,Region.binds md e=true→e.on≠i:=fun e he hb heq=>by
      have h9:=hall e he hb
      rw [heq,getD_both hun]at h9
      cases h9
     have h2:=wpOpIn_for hro hoj (hfree j oj hoj hji hjun hnot) (fun cs b=>hsel i oi cs b hi) (fun cs b=>hsel j oj cs b hoj) hQ hy h1
     have hfree':∀ k ok,ops[k]?=some ok→k≠i→(listed.setIfInBounds j true).getD k true=false →
      (∀ e ∈ ok.after,Region.binds md e=true→e.on≠i)→oi.apart ops ok=true:=fun k ok hk hki hun' hno=>hfree k ok hk hki (getD_unset hun') hno
     refine wpOpIn_mono (fun a' w' h3=>?_) h2
     have hpp:needs→(listed.setIfInBounds j true).getD p true=false:=fun m=>by
      have hjp:j≠p:=fun e=>not_ready_path (hc m) (hw m) hun (e ▸ hj)
      rw [getD_set_ne true hjp];exact hp m
     have hSS:(listed.setIfInBounds j true).getD p true=false→S w':=fun hp=>by
      exact h3.2.1 (by rw [Array.setIfInBounds_comm _ _ (Ne.symm hji),getD_set_ne true (Ne.symm hip)];exact hp)
     refine⟨hSS,ih (listed.setIfInBounds j true) a' w' (fun m=>closed_set (hc m) hj) hfree' (ready_mono hr (Ne.symm hji)) h3.1 hpp hSS ?_⟩
     rw [Array.setIfInBounds_comm _ _ hji]
     exact h3.2.2
theorem PI_start{id:Nat}{a:Act}{w:World}(S:World→Prop)(p m:Nat)(l0:Array Bool)(hn:ops.size=m)(hl:Array.replicate m false=l0)(hm:P.follows .mixedOrders=true)(h:wpInP F n P .any ops Q S p m l0 a w.drew):(Code.region id ops true).wpIn F n P Q a w:=by
 subst hl;subst hn;exact wpIn_region_any hm (wpAnyIn_of_P _ _ _ _ h)
theorem PI_takeT(i d:Nat)(v:Value)(l':Array Bool)(xs:List Nat){oi:Oper}{fuel:Nat}{listed:Array Bool}{ts:Array Value}{ds:List Deferred}{w:World}(hro:F.round=none)(hi:ops[i]?=some oi)(hd:oi.dst=some d)(hl:listed.setIfInBounds i true=l')
 (hs:Region.noSelect ops=true) (hf:Region.free md ops listed i=true) (hr:(Region.ready md ops listed).contains i=true) (hz:pathB md ops i p xs=true) (hc:closedB md ops listed=true) (hp:listed.getD p true=false) (hip:p≠i)
 (hQ:∀ c a w,Q (.panic c) (a.put oi.dst v) w→Q (.panic c) a w) (hy:YieldsFor P ops S oi v ⟨ts,ds⟩) (hS:S w)
 (h:wpInP F n P md ops Q S p fuel l' ⟨ts.setIfInBounds d v,ds⟩ w):wpInP F n P md ops Q S p (fuel+1) listed ⟨ts,ds⟩ w:=by
 subst hl
 refine wpInP_first (needs:=True) hro hi (Region.noSelect_spec hs) hQ (fun w h=>h trivial) (fun _=>hz) hip fuel listed _ w (fun _=>closedB_spec hc) (Region.free_spec hi hf) (by simpa using hr) hy (fun _=>hp) (fun _=>hS) ?_
 rw [hd];exact h
theorem PI_takeW(i d:Nat)(v:Value)(l':Array Bool){oi:Oper}{fuel:Nat}{listed:Array Bool}{ts:Array Value}{ds:List Deferred}{w:World}(hro:F.round=none)(hi:ops[i]?=some oi)(hd:oi.dst=some d)(hl:listed.setIfInBounds i true=l')
 (hs:Region.noSelect ops=true) (hf:Region.free md ops listed i=true) (hr:(Region.ready md ops listed).contains i=true) (hip:p≠i)
 (hQ:∀ c a w,Q (.panic c) (a.put oi.dst v) w→Q (.panic c) a w) (hy:YieldsFor P ops (fun _=>True) oi v ⟨ts,ds⟩) (hS:S w)
 (h:wpInP F n P md ops Q S p fuel l' ⟨ts.setIfInBounds d v,ds⟩ w):wpInP F n P md ops Q S p (fuel+1) listed ⟨ts,ds⟩ w:=by
 subst hl
 refine wpInP_first (xs:=[]) (needs:=False) hro hi (Region.noSelect_spec hs) hQ (fun w h=>trivial) (fun h=>h.elim) hip fuel listed _ w (fun h=>h.elim) (Region.free_spec hi hf) (by simpa using hr) hy (fun h=>h.elim) (fun _=>hS) ?_
 rw [hd];exact h
theorem PI_one(i:Nat)(l':Array Bool){oi:Oper}{fuel:Nat}{listed:Array Bool}{a:Act}{w:World}(hi:ops[i]?=some oi)(hl:listed.setIfInBounds i true=l')(hr:Region.ready md ops listed=[i])(hg:oi.guard=none)(hp:l'.getD p true=true)
 (h:∀ K:Act→World→Prop,(∀ a' w',wpInP F n P md ops Q S p fuel l' a' w'→K a' w')→oi.wpIn F n P a w K Q):wpInP F n P md ops Q S p (fuel+1) listed a w:=by
 subst hl
 refine⟨fun h0=>?_,fun j hj=>?_⟩
 · rw [hr]at h0
   cases h0
 · rw [hr]at hj
   have hj':j=i:=by simpa using hj
   subst hj'
   unfold wpOpIn
   simp only [hi]
   rw [if_pos (by simp [Region.wanted,hg])]
   exact h _ fun _ _ h2=>⟨fun h9=>(by rw [hp]at h9;cases h9),h2⟩
theorem PI_done{listed:Array Bool}{a:Act}{w:World}(hr:Region.ready md ops listed=[])(h:Q .normal a w):∀ fuel,wpInP F n P md ops Q S p fuel listed a w
 | 0=>⟨hr,h⟩
 | _+1=>⟨fun _=>h,by rw [hr];simp⟩
end
theorem wpIn_nopanic{F:Fence}{n:Nat}{P:Program}{c:Code}{Q:Exit→Act→World→Prop}{a:Act}{w:World}(h:c.wpIn F n P (noPanic Q) a w):c.wpIn F n P Q a w :=
 wpIn_mono h (fun e a w h=>by cases e<;>first | exact h | exact h.elim)
def rwS(d:Nat):Nat:=(d+31) / 32
theorem rwS_le{d:Nat}(h:d≤6148):rwS d≤193:=by unfold rwS;omega
theorem rwS_pos{d:Nat}(h:1≤d):1≤rwS d:=by unfold rwS;omega
theorem rwS_ge(d:Nat):d≤32*rwS d:=by unfold rwS;omega
def cpL:List Nat:=[0,16,8,24,4,20,12,28,2,18,10,26,6,22,14,30,1,17,9,25,5,21,13,29,3,19,11,27,7,23,15,31]
def cpN(c:Nat):Nat:=cpL.getD c 0
theorem cpN_lt(c:Nat):cpN c<32:=by
 by_cases h:c<32
 · exact(show ∀ c:Fin 32,cpN c.1<32 by decide) ⟨c,h⟩
 · unfold cpN
   rw [List.getD_eq_getElem?_getD,List.getElem?_eq_none (by simpa [cpL] using h)]
   decide
def mx0(d s c r:Nat):Nat:=if s=2 then(32*r+cpN c+1) % (32*rwS d) else 32*r+cpN c
def mxV(d m:Nat):Int:=if m<32*rwS d - d then -1 else(m:Int) - ((32*rwS d - d:Nat):Int)
def ordV(d s k:Nat):Int:=mxV d (mx0 d s (k / rwS d) (k % rwS d))
def ordT(d s n:Nat):List Int:=(List.range n).map (ordV d s)
def ordL(d s:Nat):List Int:=ordT d s (32*rwS d)
theorem ordT_len(d s n:Nat):(ordT d s n).length=n:=by simp [ordT]
theorem ordT_succ(d s n:Nat):ordT d s (n+1)=ordT d s n ++ [ordV d s n]:=by simp [ordT,List.range_succ]
theorem mx0_lt{d s c r:Nat}(hr:r<rwS d):mx0 d s c r<32*rwS d:=by
 have:=cpN_lt c
 unfold mx0
 split
 · exact Nat.mod_lt _ (by omega)
 · omega
end Go.Proofs.YtkdfefpnhaebfaaGreat.Cr
