/- Bundle. Conditions: none. -/
import Derived.Test.YthmhogdceolkdaaGreatBqaj
import Derived.Great.BuildSlice
import Derived.Test.YthmhogdceolkdaaGreatBqao
set_option linter.unusedVariables false
set_option linter.unusedSimpArgs false
namespace Go.Proofs.YthmhogdceolkdaaGreat
open Tryz
open Go.RowKit
structure Mx (W:World) (base bg cap:Nat) (ms:List (List Int)):Prop where
 ow:W.ownsRow base 346 8 (.slice (some ⟨bg,0,none⟩) ms.length cap) ms.length (ms.flatMap ints8)
 l8:∀ m ∈ ms,m.length=8
theorem flat8:∀ (ms:List (List Int)) (h:∀ m ∈ ms,m.length=8) (j q:Nat) (m:List Int),ms[j]?=some m->q<8->(ms.flatMap ints8)[8*j+q]?=(ints8 m)[q]?
 | [],h,j,q,m,hm,hq=>by simp at hm
 | x :: ms,h,0,q,m,hm,hq=>by
   simp at hm;subst hm;have hx:(ints8 x).length=8:=by simp [ints8,h x (by simp)]
   rw [List.flatMap_cons,List.getElem?_append_left (by omega),Nat.mul_zero,Nat.zero_add]
 | x :: ms,h,j+1,q,m,hm,hq=>by
   have hx:(ints8 x).length=8:=by simp [ints8,h x (by simp)]
   rw [List.flatMap_cons,List.getElem?_append_right (by omega),hx,show 8*(j+1)+q - 8=8*j+q from by omega];exact flat8 ms (fun m' hm'=>h m' (by simp [hm'])) j q m (by simpa using hm) hq
section
variable {W W' : World} {base bg cap : Nat} {ms : List (List Int)}
theorem Mx.blk(h:Mx W base bg cap ms):∃ cur,W.heap[bg]?=some (.cells cur 346 (0,0))/\base<=bg/\ms.length<=cap/\cap<=maxLen/\cur.size=cap*8/\cur.toList.take (ms.length*8)=ms.flatMap ints8:=by
 obtain⟨h1,h2⟩:=h.ow;rcases h2 with⟨h2,h3⟩ | ⟨g,cap',cur,h2,h3,h4,h5,h6,h7,h8⟩
 . simp at h2
 . simp only [Value.slice.injEq,Option.some.injEq,Addr.mk.injEq,true_and,and_true]at h2
   obtain⟨rfl,rfl⟩:=h2;exact⟨cur,h4,h3,h5,h6,h7,h8⟩
theorem Mx.lt(h:Mx W base bg cap ms):bg<W.heap.size:=by
 obtain⟨cur,h1,-⟩:=h.blk;exact heap_lt' h1
theorem Mx.ge(h:Mx W base bg cap ms):base<=bg:=by
 obtain⟨cur,h1,h2,-⟩:=h.blk;exact h2
theorem Mx.keep(h:Mx W base bg cap ms)(hk:W'.heap[bg]?=W.heap[bg]?):Mx W' base bg cap ms:=by
 obtain⟨cur,h1,h2,h3,h4,h5,h6⟩:=h.blk;exact⟨⟨h.ow.1,.inr ⟨bg,cap,cur,rfl,h2,hk.trans h1,h3,h4,h5,h6⟩⟩,h.l8⟩
theorem Mx.below(h:Mx W base bg cap ms)(hB:Below W.heap.size W W'):Mx W' base bg cap ms:=h.keep (hB.block bg h.lt)
theorem Mx.alloc(h:Mx W base bg cap ms)(o:Obj):Mx (W.alloc o) base bg cap ms:=h.keep (heap_alloc_old (h:=h.lt) ..)
theorem Mx.grown(h:Mx W base bg cap ms){row:Option Nat}(hg:W.grownBy W' row)(hne:some bg≠row):Mx W' base bg cap ms:=h.keep (hg.block bg h.lt hne)
theorem Mx.row(h:Mx W base bg cap ms){j:Nat}{m:List Int}(hj:ms[j]?=some m):W.rangeAt bg (8*j) (ints8 m):=fun q v hv=>by
 obtain⟨cur,h1,h2,h3,h4,h5,h6⟩:=h.blk;have hm:m.length=8:=h.l8 m (List.mem_of_getElem? hj);have hq:q<8:=by have:=(List.getElem?_eq_some_iff.1 hv).1;simpa [ints8,hm] using this
 have hjl:j<ms.length:=(List.getElem?_eq_some_iff.1 hj).1;rw [cell_of_row W bg _ cur 346 (0,0) h1];have h7:=flat8 ms h.l8 j q m hj hq;rw [<- h6,List.getElem?_take,if_pos (by omega),hv]at h7;simpa using h7
theorem Mx.new(m:List Int)(hm:m.length=8)(hb:base<=W.heap.size){N:Nat}(hN:N=W.heap.size):Mx (W.alloc (.cells (ints8 m).toArray 346)) base N 1 [m]:=by
 subst hN;have h:=World.ownsRow_lit (base:=base) (e:=346) (size:=8) W (ints8 m).toArray 1 hb (by unfold maxLen;omega) (by simp [ints8,hm]);exact⟨by simpa using h,by simpa using hm⟩
theorem info66b:(prog.info? 346).map (fun i=>(i.zero,i.size,i.bytes))=some (some (.agg (ints8 (List.replicate 8 0)).toArray),8,64):=by kernel_rfl
theorem wp_appM{o:Oper}{a:Act}{K:Act->World->Prop}{Q:Exit->Act->World->Prop}(s x:Operand)(m:List Int)(hm:m.length=8)
 (ho:o.op= .call {callee:=.builtin .append,args:=#[s,x],argTypes:=#[348,348]}) (hs:a.eval s= .slice (some ⟨bg,0,none⟩) ms.length cap) (hx:a.eval x= .slice (some ⟨W.heap.size,0,none⟩) 1 1)
 (hO:Mx W base bg cap ms) (hn:ms.length<1000000) (hbase:base<=W.heap.size)
 (h:∀ bg' cap' w',Mx w' base bg' cap' (ms ++ [m])->W.grownBy w' (some bg)->K (a.put o.dst (.slice (some ⟨bg',0,none⟩) (ms.length+1) cap')) w'):o.wp prog a (W.alloc (.cells (ints8 m).toArray 346)) K Q:=by
 obtain⟨i,hi,hz0,hz1,hz2⟩:=info_parts info66b;have hl:(ints8 m).length=8:=by simp [ints8,hm]
 obtain⟨v',w',hr,h2,h3,h4⟩:=run_append_own (P:=prog) (W.alloc (.cells (ints8 m).toArray 346)) base 348 o.type 346 i _ 8 64 underlying348 hi hz0 hz1 hz2 (by rfl) (by decide) _ ms.length _ (hO.alloc _).ow ⟨W.heap.size,0,none⟩ 1 1 (ints8 m) (by simp [hl])
  (fun j u hj=>by
    rw [add_lit,cell_of_row _ W.heap.size _ _ _ (0,0) (heap_alloc_new _ _)]
    simpa using hj) (ints8_one m) (by unfold maxLen;omega) (by omega) (by simp;omega)
 rcases h2.2 with⟨h5,h6⟩ | ⟨g,cap',cur,h5,_⟩
 . omega
 . rw [h5]at hr h2
   have h6:Mx w' base g cap' (ms ++ [m]):=⟨by simpa [List.flatMap_append] using h2,fun m' hm'=>by
    rw [List.mem_append]at hm';rcases hm' with hm' | hm'
    . exact hO.l8 m' hm'
    . simp at hm';subst hm';exact hm⟩
   unfold Oper.wp;simp only [execOp,ho,resolve,invoke,builtin,Sem.run_bind,Sem.run_pure,Result.andThen_ok,List.map_toArray,List.map_cons,List.map_nil,hs,hx,hr];exact h g cap' w' h6 (grownBy_of_alloc h3)
end
theorem ix68(g n c:Nat){j:Nat}(hj:j<n)(kd:IntKind)(W:World):(Instr.indexAt 348 (.slice (some ⟨g,0,none⟩) n c) (.int kd (j:Int))).run prog W= .ok (.pointer (some ⟨g,8*j,none⟩)) W:=by
 have h1:(0:Int)<=(j:Int)/\(j:Int)<(n:Int):=by omega
 have hs:(sizeOf 346).run prog W= .ok 8 W:=by kernel_rfl
 simp only [Instr.indexAt,Sem.run_bind,run_underlying underlying348,Result.andThen_ok,asIntOf,Sem.run_pure,if_pos h1,hs,Int.toNat_natCast];rw [add_lit,Nat.zero_add,Nat.mul_comm]
theorem run_bs68(m:List Int)(hm:m.length=8)(W:World):(Instr.buildSlice 348 1 #[(0,.agg (ints8 m).toArray)]).run prog W= .ok (.slice (some ⟨W.heap.size,0,none⟩) 1 1) (W.alloc (.cells (ints8 m).toArray 346)):=by
 obtain⟨i,hi,hz0,hz1,hz2⟩:=info_parts info66b;match m,hm with
 | [a,b,c,d,e,f,g,h],_ =>
   refine run_buildSlice (P:=prog) W 348 346 1 _ _ i _ underlying348 hi hz0 (by rw [hz1];decide) (by rw [hz1];decide) ?_;rw [hz1]
   first
    | kernel_rfl
    | (simp [Instr.fill,Value.cells,ints8,List.zipIdx,List.range,List.range.loop,Array.range];done)
theorem wpo_bs{o:Oper}{a:Act}{W:World}{K:Act->World->Prop}{Q:Exit->Act->World->Prop}(x:Operand)(m:List Int)(hm:m.length=8)(ho:o.op= .buildSlice 348 1 #[(0,x)])(hx:a.eval x= .agg (ints8 m).toArray)
 (h:K (a.put o.dst (.slice (some ⟨W.heap.size,0,none⟩) 1 1)) (W.alloc (.cells (ints8 m).toArray 346))):o.wp prog a W K Q:=by
 unfold Oper.wp;have hp:(#[(0,x)]:Array (Nat × Operand)).map (fun(i,x)=>(i,a.eval x))=#[(0,.agg (ints8 m).toArray)]:=by simp [hx]
 simp only [execOp,ho,hp,run_bs68 m hm,Sem.run_bind,Sem.run_pure,Result.andThen_ok];exact h
theorem wpM_bs{ops:Array Oper}{rest:List Oper}{o:Oper}{a:Act}{W:World}{Q:Exit->Act->World->Prop}(hgd:o.guard=none)(x:Operand)(m:List Int)(hm:m.length=8)(ho:o.op= .buildSlice 348 1 #[(0,x)])(hx:a.eval x= .agg (ints8 m).toArray)
 (h:wpList prog ops Q rest (a.put o.dst (.slice (some ⟨W.heap.size,0,none⟩) 1 1)) (W.alloc (.cells (ints8 m).toArray 346))):wpList prog ops Q (o :: rest) a W :=
 wpList_plain hgd fun K hK=>wpo_bs x m hm ho hx (hK _ _ h)
theorem info28:(prog.info? 250).map (·.size)=some 3:=by kernel_rfl
theorem res28{W:World}{b:Nat}{cs:List Value}(h:Blk W b 250 cs)(hl:cs.length=3):(loadVar 250 ⟨b,0,none⟩).run prog W= .ok (.agg cs.toArray) W :=
 run_loadVar_row (P:=prog) W b 250 250 _ (0,0) _ h underlying250 rfl (by rw [info28];simp [hl])
theorem results12{W:World}{b:Nat}{cs:List Value}{a:Array Value}{E:Int}(h:Blk W b 250 cs)(hl:cs.length=3)(h2:a.getD 6 undef= .pointer (some ⟨b,0,none⟩))(h3:a.getD 7 undef= .int .i64 E) :
 (results Tryz.f243 a).run prog W= .ok (.tuple #[.agg cs.toArray,.int .i64 E]) W:=by
 rw [results_cell_tmp rfl,h2,h3];simp [asAddr,res28 h hl,Sem.run_pure]
def zero28:List Value:=[.slice none 0 0,.slice none 0 0,.slice none 0 0]
instance (o:Ob):Decidable o.lens:=by unfold Ob.lens;infer_instance
section
variable {P : Program} {ops : Array Oper} {Q : Exit -> Act -> World -> Prop} {md : Region.Mode} {S : World -> Prop} {p : Nat}
theorem wpAnyP_cases{L:List Nat}{fuel:Nat}{listed:Array Bool}{a:Act}{w:World}(hr:Region.ready md ops listed=L)(hne:L≠[])(hS:∀ w,S w)
 (h:∀ i ∈ L,∃ oi,ops[i]?=some oi/\oi.guard=none/\∀ K:Act->World->Prop,(∀ a' w',wpAnyP P md ops Q S p fuel (listed.setIfInBounds i true) a' w'->K a' w')->oi.wp P a w K Q):wpAnyP P md ops Q S p (fuel+1) listed a w:=by
 refine⟨fun h0=>absurd (hr.symm.trans h0) hne,fun j hj=>?_⟩;rw [hr]at hj;obtain⟨oi,hi,hg,hK⟩:=h j hj;unfold wpOp;simp only [hi];rw [if_pos (by simp [Region.wanted,hg])];exact .inl (hK _ fun _ _ h2=>⟨fun _=>hS _,h2⟩)
theorem wpAnyP_two{i j:Nat}{oi oj:Oper}{fuel:Nat}{listed:Array Bool}{a:Act}{w:World}(hi:ops[i]?=some oi)(hj:ops[j]?=some oj)(hr:Region.ready md ops listed=[i,j])(gi:oi.guard=none)(gj:oj.guard=none)(hS:∀ w,S w)
 (h1:∀ K:Act->World->Prop,(∀ a' w',wpAnyP P md ops Q S p fuel (listed.setIfInBounds i true) a' w'->K a' w')->oi.wp P a w K Q)
 (h2:∀ K:Act->World->Prop,(∀ a' w',wpAnyP P md ops Q S p fuel (listed.setIfInBounds j true) a' w'->K a' w')->oj.wp P a w K Q):wpAnyP P md ops Q S p (fuel+1) listed a w :=
 wpAnyP_cases hr (by simp) hS fun q hq=>by
  simp only [List.mem_cons,List.not_mem_nil,or_false]at hq;rcases hq with rfl | rfl
  . exact⟨_,hi,gi,h1⟩
  . exact⟨_,hj,gj,h2⟩
theorem wpAnyP_three{i j k:Nat}{oi oj ok:Oper}{fuel:Nat}{listed:Array Bool}{a:Act}{w:World}(hi:ops[i]?=some oi)(hj:ops[j]?=some oj)(hk:ops[k]?=some ok)(hr:Region.ready md ops listed=[i,j,k])(gi:oi.guard=none)(gj:oj.guard=none)(gk:ok.guard=none)(hS:∀ w,S w)
 (h1:∀ K:Act->World->Prop,(∀ a' w',wpAnyP P md ops Q S p fuel (listed.setIfInBounds i true) a' w'->K a' w')->oi.wp P a w K Q)
 (h2:∀ K:Act->World->Prop,(∀ a' w',wpAnyP P md ops Q S p fuel (listed.setIfInBounds j true) a' w'->K a' w')->oj.wp P a w K Q)
 (h3:∀ K:Act->World->Prop,(∀ a' w',wpAnyP P md ops Q S p fuel (listed.setIfInBounds k true) a' w'->K a' w')->ok.wp P a w K Q):wpAnyP P md ops Q S p (fuel+1) listed a w :=
 wpAnyP_cases hr (by simp) hS fun q hq=>by
  simp only [List.mem_cons,List.not_mem_nil,or_false]at hq;rcases hq with rfl | rfl | rfl
  . exact⟨_,hi,gi,h1⟩
  . exact⟨_,hj,gj,h2⟩
  . exact⟨_,hk,gk,h3⟩
end
structure Mk3 (W w:World) (n:Nat) (A1 A2 A3:Option Addr):Prop where
 o1:Ownv 3 w W.heap.size A1 n n (List.replicate n (.int .i64 0))
 o2:Ownv 3 w W.heap.size A2 n n (List.replicate n (.int .i64 0))
 o3:Ownv 5 w W.heap.size A3 n n (List.replicate n (.int .u8 0))
 n12:blk A1≠blk A2
 n13:blk A1≠blk A3
 n23:blk A2≠blk A3
 b:Below W.heap.size W w
theorem chain3{w0 w1 w2 w3:World}{n:Nat}{A1 A2 A3:Option Addr}{e1 e2 e3:TypeId}{v1 v2 v3:List Value}(hn:0<n)(h1:Ownv e1 w1 w0.heap.size A1 n n v1)(b1:Below w0.heap.size w0 w1)
 (h2:Ownv e2 w2 w1.heap.size A2 n n v2) (b2:Below w1.heap.size w1 w2) (h3:Ownv e3 w3 w2.heap.size A3 n n v3) (b3:Below w2.heap.size w2 w3) :
 Ownv e1 w3 w0.heap.size A1 n n v1/\Ownv e2 w3 w0.heap.size A2 n n v2/\Ownv e3 w3 w0.heap.size A3 n n v3/\blk A1<blk A2/\blk A2<blk A3/\Below w0.heap.size w0 w3:=by
 have g1:=h1.blk_ge hn;have g2:=h2.blk_ge hn;have g3:=h3.blk_ge hn;exact⟨(h1.below b2).below b3,(h2.below b3).mono b1.size,h3.mono (Nat.le_trans b1.size b2.size),by omega,by omega,(b1.trans (b2.mono b1.size)).trans (b3.mono (Nat.le_trans b1.size b2.size))⟩
section
variable {P : Program} {ops : Array Oper} {Q : Exit -> Act -> World -> Prop} {md : Region.Mode} {S : World -> Prop} {p : Nat}
theorem P_two(i j:Nat)(l1 l2:Array Bool){oi oj:Oper}{fuel:Nat}{listed:Array Bool}{a:Act}{w:World}(hi:ops[i]?=some oi)(hj:ops[j]?=some oj)(e1:listed.setIfInBounds i true=l1)(e2:listed.setIfInBounds j true=l2)(hr:Region.ready md ops listed=[i,j])(gi:oi.guard=none)(gj:oj.guard=none)(hS:∀ w,S w)
 (h1:∀ K:Act->World->Prop,(∀ a' w',wpAnyP P md ops Q S p fuel l1 a' w'->K a' w')->oi.wp P a w K Q)
 (h2:∀ K:Act->World->Prop,(∀ a' w',wpAnyP P md ops Q S p fuel l2 a' w'->K a' w')->oj.wp P a w K Q):wpAnyP P md ops Q S p (fuel+1) listed a w:=by
 subst e1;subst e2;exact wpAnyP_two hi hj hr gi gj hS h1 h2
theorem P_three(i j k:Nat)(l1 l2 l3:Array Bool){oi oj ok:Oper}{fuel:Nat}{listed:Array Bool}{a:Act}{w:World}(hi:ops[i]?=some oi)(hj:ops[j]?=some oj)(hk:ops[k]?=some ok)(e1:listed.setIfInBounds i true=l1)(e2:listed.setIfInBounds j true=l2)(e3:listed.setIfInBounds k true=l3)
 (hr:Region.ready md ops listed=[i,j,k]) (gi:oi.guard=none) (gj:oj.guard=none) (gk:ok.guard=none) (hS:∀ w,S w)
 (h1:∀ K:Act->World->Prop,(∀ a' w',wpAnyP P md ops Q S p fuel l1 a' w'->K a' w')->oi.wp P a w K Q)
 (h2:∀ K:Act->World->Prop,(∀ a' w',wpAnyP P md ops Q S p fuel l2 a' w'->K a' w')->oj.wp P a w K Q)
 (h3:∀ K:Act->World->Prop,(∀ a' w',wpAnyP P md ops Q S p fuel l3 a' w'->K a' w')->ok.wp P a w K Q):wpAnyP P md ops Q S p (fuel+1) listed a w:=by
 subst e1;subst e2;subst e3;exact wpAnyP_three hi hj hk hr gi gj gk hS h1 h2 h3
theorem wp_mkd{w:World}{o:Oper}{ts:Array Value}{ds:List Deferred}{K:Act->World->Prop}{Q:Exit->Act->World->Prop}(d:Nat)(l r:Operand)(t:TypeId){e:TypeId}{n:Nat}
 (ho:o.op= .makeSlice t l r) (hd:o.dst=some d) {z:Value} {bytes:Nat} (hE:El P t e z bytes) {kl kr:IntKind} (hs:(⟨ts,ds⟩:Act).eval l= .int kl (n:Int)) (hx:(⟨ts,ds⟩:Act).eval r= .int kr (n:Int))
 (hby:bytes*n<=281474976710656) (hm:n<=maxLen)
 (h:∀ A w',Ownv e w' w.heap.size A n n (List.replicate n z)->Below w.heap.size w w'->A≠none->K ⟨ts.setIfInBounds d (.slice A n n),ds⟩ w'):o.wp P ⟨ts,ds⟩ w K Q :=
 wp_mk l r t ho hE hs hx hby hm fun A w' h1 h2 h3=>by rw [hd];exact h A w' h1 h2 h3
end
section
variable {P : Program} {ops : Array Oper} {Q : Exit -> Act -> World -> Prop} {md : Region.Mode} {S : World -> Prop} {p : Nat}
theorem P_w(i d:Nat)(v:Value)(l':Array Bool){oi:Oper}{fuel:Nat}{listed:Array Bool}{ts:Array Value}{ds:List Deferred}{w:World}(hi:ops[i]?=some oi)(hS:S w)
 (h:wpAnyP P md ops Q S p fuel l' ⟨ts.setIfInBounds d v,ds⟩ w) (hd:oi.dst=some d:=by rfl) (hl:listed.setIfInBounds i true=l':=by kernel_rfl)
 (hs:Region.noSelect ops=true:=by kernel_rfl) (hf:Region.free md ops listed i=true:=by kernel_rfl) (hr:(Region.ready md ops listed).contains i=true:=by kernel_rfl) (hip:p≠i:=by decide)
 (hQ:∀ c a w,Q (.panic c) (a.put oi.dst v) w->Q (.panic c) a w:=by exact fun _ _ _ h=>h) (hy:YieldsIf P ops (fun _=>True) oi v ⟨ts,ds⟩:=by exact Or.inl ⟨by rfl,fun W hS=>by go_simp⟩):wpAnyP P md ops Q S p (fuel+1) listed ⟨ts,ds⟩ w :=
 P_takeW i d v l' hi hd hl hs hf hr hip hQ hy hS h
theorem P_k(i d:Nat)(v:Value)(l':Array Bool){oi:Oper}{fuel:Nat}{listed:Array Bool}{ts:Array Value}{ds:List Deferred}{w:World}(hi:ops[i]?=some oi)(hy:YieldsIf P ops S oi v ⟨ts,ds⟩)(hS:S w)
 (h:wpAnyP P md ops Q S p fuel l' ⟨ts.setIfInBounds d v,ds⟩ w) (hd:oi.dst=some d:=by rfl) (hl:listed.setIfInBounds i true=l':=by kernel_rfl)
 (hs:Region.noSelect ops=true:=by kernel_rfl) (hf:Region.free md ops listed i=true:=by kernel_rfl) (hr:(Region.ready md ops listed).contains i=true:=by kernel_rfl) (hz:Region.waitsFor md ops p i=true:=by kernel_rfl) (hp:listed.getD p true=false:=by kernel_rfl) (hip:p≠i:=by decide)
 (hQ:∀ c a w,Q (.panic c) (a.put oi.dst v) w->Q (.panic c) a w:=by exact fun _ _ _ h=>h):wpAnyP P md ops Q S p (fuel+1) listed ⟨ts,ds⟩ w :=
 P_take i d v l' hi hd hl hs hf hr hz hp hip hQ hy hS h
end
theorem y0{α:Type}{l:List α}{i:Nat}{a:α}:l.toArray.setIfInBounds i a=(l.set i a).toArray:=List.setIfInBounds_toArray _ _ _
theorem y1{α:Type}{x a:α}{xs:List α}:(x :: xs).set 0 a=a :: xs:=List.set_cons_zero
theorem y2{α:Type}{x a:α}{xs:List α}{n:Nat}:(x :: xs).set (n+1) a=x :: xs.set n a:=List.set_cons_succ
def swC(bo bb:Nat):List Value:=[.pointer (some ⟨bo,0,none⟩),.slice (some ⟨bb,0,none⟩) 16 16]
def frows(o:Ob)(j:Nat):List (List Int):=(List.range j).map o.f
theorem frows_len(o:Ob)(j:Nat):(frows o j).length=j:=by simp [frows]
theorem frows_succ(o:Ob)(j:Nat):frows o (j+1)=frows o j ++ [o.f j]:=by simp [frows,List.range_succ]
theorem frows_get(o:Ob){i j:Nat}(h:i<j):(frows o j)[i]?=some (o.f i):=by simp [frows,h]
def dec3(A1 A2 A3:Option Addr)(n:Nat):List Value:=[.slice A1 n n,.slice A2 n n,.slice A3 n n]
theorem dec3_one(A1 A2 A3:Option Addr)(n:Nat):∀ v ∈ dec3 A1 A2 A3 n,v.oneCell'=true:=by simp [dec3,Value.oneCell']
def fillL(g:Nat->Int)(n k:Nat):List Int:=(List.range n).map fun j=>if k<=j then g j else 0
theorem fill_len(g:Nat->Int)(n k:Nat):(fillL g n k).length=n:=by simp [fillL]
theorem fill_gi(g:Nat->Int)(n k j:Nat)(h:j<n):gi (fillL g n k) j=if k<=j then g j else 0:=by
 rw [gi_eq _ _ (by rw [fill_len];exact h)];simp [fillL]
theorem fill_end(g:Nat->Int)(n k:Nat)(h:n<=k):fillL g n k=List.replicate n 0 :=
 ext_gi (by simp [fillL]) fun j hj=>by
  rw [fill_len]at hj;rw [fill_gi g n k j hj,if_neg (by omega),gi_eq _ _ (by simpa using hj)];simp
theorem fill_set(g:Nat->Int)(n k:Nat)(h:k<n):(fillL g n (k+1)).set k (g k)=fillL g n k :=
 ext_gi (by simp [fillL]) fun j hj=>by
  rw [List.length_set,fill_len]at hj;rw [gi_set' _ _ _ _ (by rw [fill_len];exact hj),fill_gi g n k j hj,fill_gi g n (k+1) j hj];by_cases e:k=j
  . subst e;simp
  . rw [if_neg e]
    by_cases e2:k<=j
    . rw [if_pos e2,if_pos (by omega)]
    . rw [if_neg e2,if_neg (by omega)]
theorem fill_same(g:Nat->Int)(n k:Nat)(h:g k=0):fillL g n (k+1)=fillL g n k :=
 ext_gi (by simp [fillL]) fun j hj=>by
  rw [fill_len]at hj;rw [fill_gi g n k j hj,fill_gi g n (k+1) j hj];by_cases e:k=j
  . subst e;rw [if_neg (by omega),if_pos (Nat.le_refl _),h]
  . by_cases e2:k<=j
    . rw [if_pos e2,if_pos (by omega)]
    . rw [if_neg e2,if_neg (by omega)]
theorem fill_all(g:Nat->Int)(n:Nat):fillL g n 0=(List.range n).map g:=by simp [fillL]
theorem fill_past(g:Nat->Int)(n k:Nat)(h:n<=k):fillL g n (k+1)=fillL g n k:=by rw [fill_end g n _ h,fill_end g n _ (by omega)]
def Ob.tN(o:Ob)(i:Nat):Int:=(gN o i 0 (o.f i) (o.b (i+1)) 16 - gN o i 1 (o.f i) (o.b (i+1)) 16).tdiv 2
def Ob.eN(o:Ob)(i:Nat):Int:=ext (o.tN i - gi o.s i - gi o.a i)
def Ob.bN(o:Ob)(i:Nat):Int:=if o.tN i<0 then 1 else 0
structure L2 (o:Ob) (S P A:Option Addr) (cs cp ca bo bb b0 b1 b3 b6 bg cap N7:Nat) (A1 A2 A3:Option Addr) (w:World) (wr:World) (m l1 l2 l3:List Int):Prop where
 sw:SwAt wr bo bb o S P A cs cp ca
 k1:Blk wr b1 343 (swC bo bb)
 mx:Mx wr b3 bg cap (frows o (o.s.length+1))
 dc:Blk wr b0 250 (dec3 A1 A2 A3 o.a.length)
 af:Blk wr b6 346 (ints8 m)
 o1:Own .i64 3 wr N7 A1 o.a.length o.a.length l1
 o2:Own .i64 3 wr N7 A2 o.a.length o.a.length l2
 o3:Own .u8 5 wr N7 A3 o.a.length o.a.length l3
 bl:Below b0 w wr
structure L2S (o:Ob) (S P A:Option Addr) (bo bb b0 b1 b3 b6 bg N7:Nat) (A1 A2 A3:Option Addr):Prop where
 hS:S≠none->blk S<b0
 hP:P≠none->blk P<b0
 hA:A≠none->blk A<b0
 h01:b0<b1
 ho:bo<b1
 hb:bb<b1
 h13:b1<b3
 hg:b3<=bg/\bg<b6
 h67:b6<N7
 h1:N7<=blk A1
 h2:N7<=blk A2
 h3:N7<=blk A3
 n12:blk A1≠blk A2
 n13:blk A1≠blk A3
 n23:blk A2≠blk A3
section
variable {o : Ob} {S P A : Option Addr} {cs cp ca bo bb b0 b1 b3 b6 bg cap N7 : Nat} {A1 A2 A3 : Option Addr} {w wr w' : World} {m m' l1 l2 l3 : List Int}
theorem L2.call(h:L2 o S P A cs cp ca bo bb b0 b1 b3 b6 bg cap N7 A1 A2 A3 w wr m l1 l2 l3)(hB:Below wr.heap.size wr w'):L2 o S P A cs cp ca bo bb b0 b1 b3 b6 bg cap N7 A1 A2 A3 w w' m l1 l2 l3:=by
 have h5:=h.dc.lt;exact⟨h.sw.below hB,h.k1.below hB,h.mx.below hB,h.dc.below hB,h.af.below hB,Ownv.below h.o1 hB,Ownv.below h.o2 hB,Ownv.below h.o3 hB,h.bl.trans (hB.mono (by omega))⟩
theorem SwAt.grownX{W W':World}{g:Nat}(h:SwAt W bo bb o S P A cs cp ca)(hg:W.grownBy W' (some g))(h1:bo≠g)(h2:bb≠g)(h3:S≠none->blk S≠g)(h4:P≠none->blk P≠g)(h5:A≠none->blk A≠g):SwAt W' bo bb o S P A cs cp ca :=
 ⟨⟨h.o.blk.grown hg h1,Rdv.grown h.o.s hg (fun h=>by simpa using h3 h),Rdv.grown h.o.p hg (fun h=>by simpa using h4 h),Rdv.grown h.o.a hg (fun h=>by simpa using h5 h)⟩,h.b.grown hg h2⟩
theorem L2S.sw(hs:L2S o S P A bo bb b0 b1 b3 b6 bg N7 A1 A2 A3){W W':World}{g:Nat}(h:SwAt W bo bb o S P A cs cp ca)(hg:W.grownBy W' (some g))(hge:b1<=g):SwAt W' bo bb o S P A cs cp ca:=by
 have a1:=hs.h01;have a2:=hs.ho;have a3:=hs.hb;exact h.grownX hg (by omega) (by omega) (fun h=>by have:=hs.hS h;omega) (fun h=>by have:=hs.hP h;omega) (fun h=>by have:=hs.hA h;omega)
theorem L2.put(h:L2 o S P A cs cp ca bo bb b0 b1 b3 b6 bg cap N7 A1 A2 A3 w wr m l1 l2 l3)(hs:L2S o S P A bo bb b0 b1 b3 b6 bg N7 A1 A2 A3){g:Nat}{k1 k2 k3:List Int}(hg:wr.grownBy w' (some g))(hge:b6<=g)
 (af:Blk w' b6 346 (ints8 m')) (o1:Own .i64 3 w' N7 A1 o.a.length o.a.length k1) (o2:Own .i64 3 w' N7 A2 o.a.length o.a.length k2)
 (o3:Own .u8 5 w' N7 A3 o.a.length o.a.length k3):L2 o S P A cs cp ca bo bb b0 b1 b3 b6 bg cap N7 A1 A2 A3 w w' m' k1 k2 k3:=by
 have a1:=hs.h01;have a4:=hs.h13;have a5:=hs.hg;exact⟨hs.sw h.sw hg (by omega),h.k1.grown hg (by omega),h.mx.grown hg (by simp;omega),h.dc.grown hg (by omega),af,o1,o2,o3,h.bl.grown hg (by have:=h.dc.lt;omega) (fun k hk=>by cases hk;omega)⟩
theorem L2.set1(h:L2 o S P A cs cp ca bo bb b0 b1 b3 b6 bg cap N7 A1 A2 A3 w wr m l1 l2 l3)(hs:L2S o S P A bo bb b0 b1 b3 b6 bg N7 A1 A2 A3){i:Nat}(hi:i<o.a.length)(v:Int):L2 o S P A cs cp ca bo bb b0 b1 b3 b6 bg cap N7 A1 A2 A3 w (wr.setCell (adr A1 i) (.int .i64 v)) m (l1.set i v) l2 l3:=by
 obtain⟨h1,h2⟩:=h.o1.set_ hi v;have q1:=hs.h1;have q6:=hs.h67;have n12:=hs.n12;have n13:=hs.n13;exact h.put hs h2 (by omega) (h.af.grown h2 (by omega)) h1 (Ownv.grown h.o2 h2 (fun _=>by simp;omega)) (Ownv.grown h.o3 h2 (fun _=>by simp;omega))
theorem L2.set2(h:L2 o S P A cs cp ca bo bb b0 b1 b3 b6 bg cap N7 A1 A2 A3 w wr m l1 l2 l3)(hs:L2S o S P A bo bb b0 b1 b3 b6 bg N7 A1 A2 A3){i:Nat}(hi:i<o.a.length)(v:Int):L2 o S P A cs cp ca bo bb b0 b1 b3 b6 bg cap N7 A1 A2 A3 w (wr.setCell (adr A2 i) (.int .i64 v)) m l1 (l2.set i v) l3:=by
 obtain⟨h1,h2⟩:=h.o2.set_ hi v;have q1:=hs.h2;have q6:=hs.h67;have n12:=hs.n12;have n23:=hs.n23;exact h.put hs h2 (by omega) (h.af.grown h2 (by omega)) (Ownv.grown h.o1 h2 (fun _=>by simp;omega)) h1 (Ownv.grown h.o3 h2 (fun _=>by simp;omega))
theorem L2.set3(h:L2 o S P A cs cp ca bo bb b0 b1 b3 b6 bg cap N7 A1 A2 A3 w wr m l1 l2 l3)(hs:L2S o S P A bo bb b0 b1 b3 b6 bg N7 A1 A2 A3){i:Nat}(hi:i<o.a.length)(v:Int):L2 o S P A cs cp ca bo bb b0 b1 b3 b6 bg cap N7 A1 A2 A3 w (wr.setCell (adr A3 i) (.int .u8 v)) m l1 l2 (l3.set i v):=by
 obtain⟨h1,h2⟩:=h.o3.set_ hi v;have q1:=hs.h3;have q6:=hs.h67;have n13:=hs.n13;have n23:=hs.n23;exact h.put hs h2 (by omega) (h.af.grown h2 (by omega)) (Ownv.grown h.o1 h2 (fun _=>by simp;omega)) (Ownv.grown h.o2 h2 (fun _=>by simp;omega)) h1
theorem L2.setm(h:L2 o S P A cs cp ca bo bb b0 b1 b3 b6 bg cap N7 A1 A2 A3 w wr m l1 l2 l3)(hs:L2S o S P A bo bb b0 b1 b3 b6 bg N7 A1 A2 A3)(hb:Blk w' b6 346 (ints8 m'))(h2:wr.grownBy w' (some b6)):L2 o S P A cs cp ca bo bb b0 b1 b3 b6 bg cap N7 A1 A2 A3 w w' m' l1 l2 l3:=by
 have q1:=hs.h1;have q2:=hs.h2;have q3:=hs.h3;have q6:=hs.h67;exact h.put hs h2 (Nat.le_refl _) hb (Ownv.grown h.o1 h2 (fun _=>by simp;omega)) (Ownv.grown h.o2 h2 (fun _=>by simp;omega)) (Ownv.grown h.o3 h2 (fun _=>by simp;omega))
end
theorem Blk.ne{w:World}{b b':Nat}{t t':TypeId}{cs cs':List Value}(h:Blk w b t cs)(h':Blk w b' t' cs')(ht:t≠t'):b≠b':=by
 rintro rfl;have:=Option.some.inj (h.symm.trans h');simp only [Obj.cells.injEq]at this;exact ht this.2.1
theorem Rdv.blk_lt{w:World}{A:Option Addr}{n c:Nat}{vs:List Value}(h:Rdv w A n c vs)(hn:0<n):A≠none->blk A<w.heap.size:=fun _=>by
 obtain⟨b,o,rfl,hb⟩:=h.ptr (by have:=h.le;omega);exact hb
def L2R(o:Ob)(S P A:Option Addr)(cs cp ca bo bb b0 b1 b3 b6 bg cap N7:Nat)(A1 A2 A3:Option Addr)(w:World)(v:Value)(wr:World):Prop :=
 ∃ j:Nat,j<=o.s.length/\v= .int .i64 ((j:Int) - 1)/\L2 o S P A cs cp ca bo bb b0 b1 b3 b6 bg cap N7 A1 A2 A3 w wr (o.b j) (fillL o.tN o.a.length j) (fillL o.eN o.a.length j) (fillL o.bN o.a.length j)
def DecOk(o:Ob)(w:World)(e:Ending)(w':World):Prop:=∃ (A1 A2 A3:Option Addr),e= .returned (.tuple #[.agg (dec3 A1 A2 A3 o.a.length).toArray,.int .i64 0]) /\
 Own .i64 3 w' w.heap.size A1 o.a.length o.a.length ((List.range o.a.length).map o.tN)/\Own .i64 3 w' w.heap.size A2 o.a.length o.a.length ((List.range o.a.length).map o.eN)/\Own .u8 5 w' w.heap.size A3 o.a.length o.a.length ((List.range o.a.length).map o.bN) /\
 blk A1≠blk A2/\blk A1≠blk A3/\blk A2≠blk A3/\Below w.heap.size w w'
theorem tdiv_bd(x:Int)(d:Int)(hd:0<d)(B:Int)(h:-B<=x/\x<=B):-B<=x.tdiv d/\x.tdiv d<=B:=by
 have h1:∀ y:Int,0<=y->0<=y.tdiv d/\y.tdiv d<=y:=fun y hy=>by
  rw [Int.tdiv_eq_ediv_of_nonneg hy];exact⟨Int.ediv_nonneg hy (by omega),Int.ediv_le_self _ hy⟩
 rcases Int.le_total 0 x with hx | hx
 . have:=h1 x hx;omega
 . have:=h1 (-x) (by omega)
   rw [Int.neg_tdiv]at this;omega
theorem tN_bd{o:Ob}(h:o.ok)(i:Nat)(hi:i<o.s.length):-1125899926842624<=o.tN i/\o.tN i<=1125899926842624:=by
 have hl:=h.2.1;have hl2:=h.2.2.1;have hf:=(f_met h i (by omega)).mono (C:=381*(o.s.length:Int)) (by omega);have hb:=(bd_met h (o.s.length - (i+1)) (by omega)).mono (C:=381*(o.s.length:Int)) (by omega);have q0:=gN_bd h i 0 hi (B:=381*(o.s.length:Int)) (by omega) (by omega) hf hb 16 (Nat.le_refl _);have q1:=gN_bd h i 1 hi (B:=381*(o.s.length:Int)) (by omega) (by omega) hf hb 16 (Nat.le_refl _);rw [UU_eq]at q0 q1;exact tdiv_bd _ 2 (by omega) _ (by unfold Ob.b;omega)
theorem min_if(a b:Int):(if b<a then b else a)=min a b:=by
 by_cases h:b<a
 . rw [if_pos h];omega
 . rw [if_neg h];omega
theorem bN_t{o:Ob}{i:Nat}(h:o.tN i<0):o.bN i=1:=if_pos h
theorem bN_f{o:Ob}{i:Nat}(h:¬ o.tN i<0):o.bN i=0:=if_neg h
end Go.Proofs.YthmhogdceolkdaaGreat