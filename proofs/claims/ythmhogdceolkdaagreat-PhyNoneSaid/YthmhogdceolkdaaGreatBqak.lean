/- Bundle. Conditions: none. -/
import Derived.Test.YthmhogdceolkdaaGreatBqaj
set_option linter.unusedVariables false
set_option linter.unusedSimpArgs false
namespace Go.Proofs.YthmhogdceolkdaaGreat.Tu
open Tryz
open Go.RowKit
set_option maxRecDepth 100000
set_option maxHeartbeats 600000
theorem id_any(i:Int)(w:World):Calls prog 328 #[.int .i64 i] w fun e w'=>e= .returned (.int .i64 i)/\w=w':=by
 go_enter func328,ntmps328;go_wp2;go_ret;exact⟨rfl,rfl⟩
def rngL(k:Nat):List Int:=(List.range k).map fun i:Nat=>(i:Int)
def RngInv(w:World)(k:Nat)(M:Option Addr)(i:Value)(wr:World):Prop :=
 ∃ (j:Nat) (vs:List Int),j<=k/\i= .int .i64 j/\Own .i64 3 wr w.heap.size M k k vs/\(∀ q,q<j->gi vs q=(q:Int))/\Below w.heap.size w wr
theorem made1_any(k:Nat)(w:World)(hk:k<=6144):Calls prog 327 #[.int .i64 k,.func (.func 328) #[] #[]] w fun e w'=>∃ A,e= .returned (.slice A k k)/\Own .i64 3 w' w.heap.size A k k (rngL k)/\Below w.heap.size w w':=by
 go_enter func327,ntmps327;go_wp2_with (at_make;refine list_of rfl fun K hK=>wp_mk (n:=k) _ _ 51 rfl el33 rfl rfl (by omega) (by unfold maxLen;omega) ?_;intro M wm hOm hBm hM;refine hK _ _ ?_;clear hK K);have hst:RngInv w k M (.int .i64 0) wm:=⟨0,List.replicate k 0,by omega,rfl,Own.of_eq hOm rfl (by simp),by intro q hq;omega,hBm⟩
 clear hOm hBm;go_loopw [11] (fun i wr=>RngInv w k M i wr) (fun i _=>k - (intOf i).toNat)
 case atStart=>exact hst
 case round =>
  obtain⟨j,vs,hj,rfl,hO,hq,hB⟩:=hrel;clear hst;by_cases hlt:j<k
  . have hix:=fun W=>Rdv.ix (Own.rd hO) el33 hlt .i64 W
    have hcell:=Rd.cell (Own.rd hO) hlt;have hfz:=Ownv.frozen hO (by omega) j;have HSET:=aq (Own.set_ hO hlt (j:Int));have HQ:=aq hq;have HB:=aq hB;have HLV:=aq (Own.rd hO).len;have HGE:=aq (Ownv.blk_ge hO (by omega)).1;clear hq hB hO;go_wp2_with (go_at_call 328;refine(id_any _ _).mono ?_;rintro e w4 ⟨rfl,rfl⟩);go_roundw
    case rel =>
     refine⟨j+1,_,by omega,by go_num,HSET.o.1,fun q hq=>?_,HB.o.grown HSET.o.2 HB.o.size (fun k hk=>by have:=Option.some.inj hk;have:=HGE.o;omega)⟩;rw [gi_set _ _ _ _ (by rw [HLV.o];exact hlt)];by_cases e:j=q
     . subst e;rw [if_pos rfl]
     . rw [if_neg e];exact HQ.o q (by omega)
    case measure=>simp [intOf];omega
  . obtain rfl:j=k:=by omega
    have he:vs=rngL j:=by
     have hl:=(Own.rd hO).len;refine ext_gi (by rw [hl];simp [rngL]) fun q hq'=>?_;rw [hq q (by omega),gi_eq (rngL j) q (by simp [rngL];omega)];simp [rngL]
    subst he;have HO:=aq hO;have HB:=aq hB;clear hq hB hO;go_wp2;go_ret;exact⟨M,rfl,HO.o,HB.o⟩
structure PairCtx (w:World) (b6 b3 b5:Nat) (O:Option Addr) (k cO:Nat) (os:List Int) (code n:Nat):Prop where
 c6:w.cell? ⟨b6,0,none⟩=some (.slice O k cO)
 c3:w.cell? ⟨b3,0,none⟩=some (.int .i64 (code:Int))
 c5:w.cell? ⟨b5,0,none⟩=some (.int .i64 (n:Int))
 rd:Rd .i64 w O k cO os
theorem PairCtx.below{w w':World}{b6 b3 b5:Nat}{O:Option Addr}{k cO:Nat}{os:List Int}{code n:Nat}(h:PairCtx w b6 b3 b5 O k cO os code n)(hB:Below w.heap.size w w'):PairCtx w' b6 b3 b5 O k cO os code n :=
 ⟨(hB.cell (p:=⟨b6,0,none⟩) (World.block_lt_of_cell? w _ h.c6)).trans h.c6,(hB.cell (p:=⟨b3,0,none⟩) (World.block_lt_of_cell? w _ h.c3)).trans h.c3,(hB.cell (p:=⟨b5,0,none⟩) (World.block_lt_of_cell? w _ h.c5)).trans h.c5,Rdv.below h.rd hB⟩
theorem pair_any(b6 b3 b5:Nat)(O:Option Addr)(k cO:Nat)(os:List Int)(code n i:Nat)(w:World)(h:PairCtx w b6 b3 b5 O k cO os code n)(hi:i<k)(hk:k<=6144)(hc:code<=2)(hn:n<=6148) :
 Calls prog 330 #[.int .i64 i,.pointer (some ⟨b6,0,none⟩),.pointer (some ⟨b3,0,none⟩),.pointer (some ⟨b5,0,none⟩)] w fun e w'=>e= .returned (.agg #[.int .i64 (gi os i),.int .i64 ((code*n+i:Nat):Int)])/\Below w.heap.size w w':=by
 obtain⟨d6,d3,d5,hr⟩:=h.below ((Below.refl w.heap.size w).alloc (Nat.le_refl _) (.cells #[.int .i64 0,.int .i64 0] 49));have hix:=fun W=>Rdv.ix hr el33 hi .i64 W;have hcell:=Rd.cell hr hi;have hcn:code*n<=12296:=Nat.le_trans (Nat.mul_le_mul hc hn) (by omega);obtain⟨cn,hcn'⟩:∃ cn,code*n=cn:=⟨_,rfl⟩
 rw [hcn']at hcn ⊢;have em:(code:Int)*(n:Int)=(cn:Int):=by rw [<- hcn',Int.natCast_mul]
 have ew:IntKind.i64.wrap ((code:Int)*(n:Int))=(cn:Int):=by rw [em];exact IntWalk.i64_in _ (by omega)
 have ew2:IntKind.i64.wrap ((cn:Int)+(i:Int))=(cn:Int)+(i:Int):=IntWalk.i64_in _ (by omega);have hi0:(0:Int)<=(i:Int):=by omega
 have hik:(i:Int)<(k:Int):=by omega
 clear hr hcn' h;go_enter func330,ntmps330;go_wp2;go_region;go_wp2;have hrow:((w.alloc (.cells #[.int .i64 (gi os i),.int .i64 ((cn:Int)+(i:Int))] 49)).drew).heap[w.heap.size]?=some (.cells #[.int .i64 (gi os i),.int .i64 ((cn:Int)+(i:Int))] 49 (0,0)):=heap_alloc_new w _;have hl:=run_loadVar_row (P:=prog) _ w.heap.size 49 49 _ (0,0) _ hrow underlying49 rfl (by kernel_rfl);refine bodyPost_ret (v:=.agg #[.int .i64 (gi os i),.int .i64 ((cn:Int)+(i:Int))]) ?_ rfl ⟨?_,((Below.refl _ w).alloc (Nat.le_refl _) _).drew⟩
 . rw [results_c rfl]
   simp [asAddr,hl,Sem.run_pure]
 . rw [Int.natCast_add]
def pairL(os:List Int)(cn:Nat)(j:Nat):List Value:=(List.range j).flatMap fun q=>[.int .i64 (gi os q),.int .i64 ((cn+q:Nat):Int)]
theorem pairL_succ(os:List Int)(cn j:Nat):pairL os cn (j+1)=pairL os cn j ++ [.int .i64 (gi os j),.int .i64 ((cn+j:Nat):Int)]:=by
 unfold pairL;rw [List.range_succ,List.flatMap_append];simp
theorem pairL_len(os:List Int)(cn:Nat):∀ j,(pairL os cn j).length=2*j
 | 0=>rfl
 | j+1=>by rw [pairL_succ,List.length_append,pairL_len os cn j];simp;omega
theorem ix75(g n c:Nat){j:Nat}(hj:j<n)(kd:IntKind)(W:World):(Instr.indexAt 44 (.slice (some ⟨g,0,none⟩) n c) (.int kd (j:Int))).run prog W= .ok (.pointer (some ⟨g,2*j,none⟩)) W:=by
 have h1:(0:Int)<=(j:Int)/\(j:Int)<(n:Int):=by omega
 have hu:prog.underlying 44=some (.slice 49):=by kernel_rfl
 have hs:(sizeOf 49).run prog W= .ok 2 W:=by kernel_rfl
 simp only [Instr.indexAt,Sem.run_bind,run_underlying hu,Result.andThen_ok,asIntOf,Sem.run_pure,if_pos h1,hs,Int.toNat_natCast];congr 3;rw [add_lit,Nat.zero_add,Nat.mul_comm]
theorem info77:(prog.info? 49).map (fun i=>(i.zero,i.size,i.bytes))=some (some (.agg #[.int .i64 0,.int .i64 0]),2,16):=by kernel_rfl
theorem made_zero(k:Nat):(madeCells #[Value.int .i64 0,.int .i64 0] (k*2)).toList=List.replicate (2*k) (.int .i64 0):=by
 apply List.ext_getElem
 . simp [madeCells,Nat.mul_comm]
 . intro i h1 h2
   simp only [madeCells,Array.getElem_toList,Array.getElem_map,Array.getElem_range,List.getElem_replicate];have h3:i % 2=0\/i % 2=1:=by omega
   rcases h3 with h3 | h3<;>simp [h3]
theorem wp_mk75{o:Oper}{a:Act}{K:Act->World->Prop}{Q:Exit->Act->World->Prop}{w:World}(l r:Operand)(ho:o.op= .makeSlice 44 l r){n:Nat}(hs:a.eval l= .int .i64 (n:Int))(hx:a.eval r= .int .i64 (n:Int))(hn:n<=100000)
 (h:Ownv 49 (w.alloc (.cells (List.replicate (2*n) (Value.int .i64 0)).toArray 49)) w.heap.size (some ⟨w.heap.size,0,none⟩) (2*n) (2*n) (List.replicate (2*n) (.int .i64 0))->K (a.put o.dst (.slice (some ⟨w.heap.size,0,none⟩) n n)) (w.alloc (.cells (List.replicate (2*n) (Value.int .i64 0)).toArray 49))):o.wp prog a w K Q:=by
 obtain⟨i,hi,hz0,hz1,hz2⟩:=info_parts info77;have hr:=run_make (P:=prog) w 44 49 i _ (by kernel_rfl) hi hz0 .i64 .i64 n n (by omega) (Int.le_refl _) (by rw [hz2];omega) (by omega);simp only [Int.toNat_natCast,hz1]at hr;have e:madeCells (Value.agg #[.int .i64 0,.int .i64 0]).cells (n*2)=(List.replicate (2*n) (Value.int .i64 0)).toArray:=by
  rw [<- made_zero];rfl
 rw [e]at hr;unfold Oper.wp;simp only [execOp,ho,Sem.run_bind,Sem.run_pure,Result.andThen_ok,hs,hx,hr];refine h ?_;have:=Ownv.lit w (List.replicate (2*n) (Value.int .i64 0)).toArray 49 rfl (Nat.le_refl _) (by simp;unfold maxLen;omega);simpa using this
def PMadeInv(w:World)(b6 b3 b5:Nat)(O:Option Addr)(k cO:Nat)(os:List Int)(code n:Nat)(i:Value)(wr:World):Prop :=
 ∃ (j:Nat),j<=k/\i= .int .i64 j/\Ownv 49 wr w.heap.size (some ⟨w.heap.size,0,none⟩) (2*k) (2*k) (pairL os (code*n) j ++ List.replicate (2*(k - j)) (Value.int .i64 0))/\Below w.heap.size w wr
theorem pair_put(os:List Int)(cn k j:Nat)(hj:j<k)(x y:Value)(hx:x= .int .i64 (gi os j))(hy:y= .int .i64 ((cn+j:Nat):Int)) :
 ((pairL os cn j ++ List.replicate (2*(k - j)) (Value.int .i64 0)).set (2*j) x).set (2*j+1) y=pairL os cn (j+1) ++ List.replicate (2*(k - (j+1))) (Value.int .i64 0):=by
 have hl:=pairL_len os cn j;obtain⟨m,hm⟩:∃ m,k - j=m+1:=⟨k - j - 1,by omega⟩
 rw [hm,show k - (j+1)=m by omega,show 2*(m+1)=2*m+1+1 by omega,List.replicate_succ,List.replicate_succ,pairL_succ,hx,hy];rw [List.set_append_right _ _ (by omega),List.set_append_right _ _ (by omega),hl,show 2*j - 2*j=0 by omega,show 2*j+1 - 2*j=1 by omega];simp
theorem made2_any(b6 b3 b5:Nat)(O:Option Addr)(k cO:Nat)(os:List Int)(code n:Nat)(w:World)(h:PairCtx w b6 b3 b5 O k cO os code n)(hk:k<=6144)(hk1:1<=k)(hc:code<=2)(hn:n<=6148) :
 Calls prog 329 #[.int .i64 k,.func (.func 330) #[] #[.pointer (some ⟨b6,0,none⟩),.pointer (some ⟨b3,0,none⟩),.pointer (some ⟨b5,0,none⟩)]] w fun e w' =>
  e= .returned (.slice (some ⟨w.heap.size,0,none⟩) k k)/\Ownv 49 w' w.heap.size (some ⟨w.heap.size,0,none⟩) (2*k) (2*k) (pairL os (code*n) k)/\Below w.heap.size w w':=by
 have HC:=aq h;clear h;go_enter func329,ntmps329;go_wp2_with (at_make;refine list_of rfl fun K hK=>wp_mk75 _ _ rfl (n:=k) rfl rfl (by omega) ?_;intro hOm;refine hK _ _ ?_;clear hK K);have hst:PMadeInv w b6 b3 b5 O k cO os code n (.int .i64 0) (w.alloc (.cells (List.replicate (2*k) (Value.int .i64 0)).toArray 49)):=⟨0,by omega,rfl,by simpa [pairL] using hOm,(Below.refl _ w).alloc (Nat.le_refl _) _⟩
 clear hOm;go_loopw [11] (fun i wr=>PMadeInv w b6 b3 b5 O k cO os code n i wr) (fun i _=>k - (intOf i).toNat)
 case atStart=>exact hst
 case round =>
  obtain⟨j,hj,rfl,hO,hB⟩:=hrel;clear hst;by_cases hlt:j<k
  . have hp:=fun W h=>aq (pair_any b6 b3 b5 O k cO os code n j W h hlt hk hc hn)
    have hix:=fun W=>ix75 w.heap.size k k hlt .i64 W;have HO:=aq hO;have HB:=aq hB;have hll:2*j<(pairL os (code*n) j ++ List.replicate (2*(k - j)) (Value.int .i64 0)).length:=by rw [List.length_append,pairL_len];simp;omega
    have hll2:2*j+1<(pairL os (code*n) j ++ List.replicate (2*(k - j)) (Value.int .i64 0)).length:=by rw [List.length_append,pairL_len];simp;omega
    clear hO hB;go_wp2_with (go_at_call 330;refine(hp _ (HC.o.below HB.o)).out.mono ?_;rintro e w4 ⟨rfl,hB4⟩;have hO4:=HO.o.below hB4;have d0:=hO4.rd.at_ (2*j) _ (List.getElem?_eq_getElem hll);have d1:=hO4.rd.at_ (2*j+1) _ (List.getElem?_eq_getElem hll2);have f0:=Ownv.frozen hO4 (by omega) (2*j);have f1:=Ownv.frozen hO4 (by omega) (2*j+1);simp only [adr_some,Nat.zero_add]at d0 d1 f0 f1;have HO4:=aq hO4;have HB4:=aq hB4;clear hO4 hB4);have s1:=Ownv.set_ HO4.o (j:=2*j) (by omega) (.int .i64 (gi os j));have s2:=Ownv.set_ s1.1 (j:=2*j+1) (by omega) (.int .i64 ((code:Int)*(n:Int)+(j:Int)));simp only [adr_some,Nat.zero_add]at s1 s2;have b1:=(HB.o.trans (HB4.o.mono HB.o.size)).grown s1.2 (HB.o.trans (HB4.o.mono HB.o.size)).size (fun k hk=>by have:=Option.some.inj hk;simp [blk]at this;omega);have b2:=b1.grown s2.2 b1.size (fun k hk=>by have:=Option.some.inj hk;simp [blk]at this;omega);refine⟨⟨j+1,by omega,by go_num,?_,b2⟩,by simp [intOf];omega⟩;rw [<- pair_put os (code*n) k j hlt _ _ rfl rfl];have e5:((code*n+j:Nat):Int)=(code:Int)*(n:Int)+(j:Int):=by rw [Int.natCast_add,Int.natCast_mul]
    rw [e5];exact s2.1
  . obtain rfl:j=k:=by omega
    rw [Nat.sub_self,Nat.mul_zero,List.replicate_zero,List.append_nil]at hO;have HO:=aq hO;have HB:=aq hB;clear hO hB;go_wp2;go_ret;exact⟨rfl,HO.o,HB.o⟩
theorem heap_drew'{w:World}{N:Nat}{x:Obj}(h:w.heap[N]?=some x):w.drew.heap[N]?=some x:=h
theorem hv_{p q:Prop}(h:p)(k:p->q):q:=k h
theorem box_put{w:World}{g:Nat}{v:Value}{e:TypeId}{u:Value}(h:w.heap[g]?=some (.cells #[v] e (0,0))):w.grownBy (w.setCell ⟨g,0,none⟩ u) (some g):=by
 have:=(Ownv.set_ (Ownv.of_heap (base:=0) h (Nat.zero_le _) (by show 1<=maxLen;unfold maxLen;omega)) (j:=0) (by show 0<1;omega) u).2;simp only [adr_some,Nat.zero_add]at this;exact this
theorem two_pos{k:Nat}(h:1<=k):0<2*k:=by omega
theorem heap_box{w:World}{g:Nat}{v:Value}{e:TypeId}(h:w.heap[g]?=some (.cells #[v] e (0,0))):w.cell? ⟨g,0,none⟩=some v/\w.frozen? ⟨g,0,none⟩=false:=⟨by rw [cell_of_row w g 0 _ _ _ h];rfl,frozen_of_row w g _ _ _ h⟩
theorem heap_tag_ne{w:World}{g:Nat}{t:TypeId}(h:∃ cur,w.heap[g]?=some (.cells cur t (0,0))):∀ (b:Nat) (v:Value) (t':TypeId),w.heap[b]?=some (.cells #[v] t' (0,0))->t'≠t->g≠b:=by
 rintro b v t' hb hne rfl;obtain⟨cur,hc⟩:=h;rw [hb]at hc;injection hc with h1
 injection h1 with _ h2
 exact hne h2
theorem bheap{w w1:World}(h:Below w.heap.size w w1):∀ (g:Nat) (x:Obj),w.heap[g]?=some x->w1.heap[g]?=some x:=fun g x hx=>(h.block g (heap_lt hx)).trans hx
theorem bsz{w w1 w2:World}(_:Below w1.heap.size w1 w2)(h:Below w.heap.size w w1):w.heap.size<=w1.heap.size:=h.size
def osL(k code:Nat):List Int:=if code=1 then rngL k else ordL k
def atN(k code:Nat):Nat:=k+2*code - 2
def tailL(k code:Nat):List Value:=[.int .i64 (atN k code:Int),.int .i64 ((k+4+atN k code:Nat):Int),.int .i64 ((2*(k+4)+atN k code:Nat):Int),.int .i64 ((atN k code+1:Nat):Int),.int .i64 ((k+4+atN k code+1:Nat):Int),.int .i64 ((2*(k+4)+atN k code+1:Nat):Int)]
def stepsL(k code:Nat):List Value:=pairL (osL k code) (code*(k+4)) k ++ tailL k code
def StepsOk(w':World)(k code:Nat)(v:Value):Prop:=∃ b8 g c',v= .func (.func 331) #[] #[.pointer (some ⟨b8,0,none⟩)]/\w'.cell? ⟨b8,0,none⟩=some (.slice (some ⟨g,0,none⟩) (k+3) c')/\Rdv w' (some ⟨g,0,none⟩) (2*(k+3)) (2*(k+3)) (stepsL k code)
theorem ordL_len(k:Nat):(ordL k).length=k:=by simp [ordL]
def RegS(W0:World)(k code:Nat)(v:Value)(wx:World):Prop:=∃ b8 g c',v= .pointer (some ⟨b8,0,none⟩)/\wx.cell? ⟨b8,0,none⟩=some (.slice (some ⟨g,0,none⟩) (k+3) c')/\Rdv wx (some ⟨g,0,none⟩) (2*(k+3)) (2*(k+3)) (stepsL k code)/\Below W0.heap.size W0 wx
theorem wp_app75{o:Oper}{a:Act}{K:Act->World->Prop}{Q:Exit->Act->World->Prop}{w w0:World}(s x:Operand)
 (ho:o.op= .call {callee:=.builtin .append,args:=#[s,x],argTypes:=#[44,44]}) {g n m:Nat} {gx:Nat} {vs us:List Value} (hs:a.eval s= .slice (some ⟨g,0,none⟩) n n) (hx:a.eval x= .slice (some ⟨gx,0,none⟩) m m)
 (hB:Below w0.heap.size w0 w) (hO:Ownv 49 w w0.heap.size (some ⟨g,0,none⟩) (2*n) (2*n) vs) (hX:w.heap[gx]?=some (.cells us.toArray 49 (0,0))) (hl:us.length=2*m) (h1:∀ u ∈ us,u.oneCell'=true) (hn:n+m<=100000) (hn0:0<n)
 (h:∀ g' c' w',Rdv w' (some ⟨g',0,none⟩) (2*(n+m)) (2*(n+m)) (vs ++ us)->(∃ cur,w'.heap[g']?=some (.cells cur 49 (0,0)))->Below w0.heap.size w0 w'->(∀ b x,w.heap[b]?=some x->b≠g->w'.heap[b]?=some x)->K (a.put o.dst (.slice (some ⟨g',0,none⟩) (n+m) c')) w'):o.wp prog a w K Q:=by
 obtain⟨i,hi,hz0,hz1,hz2⟩:=info_parts info77;have hrow:=Ownv.row hO;have hge:=(Ownv.blk_ge hO (by omega)).1;have hvl:=hO.rd.len;have ho2:w.ownsRow w0.heap.size 49 2 (.slice (some ⟨g,0,none⟩) n n) n vs:=⟨by rw [hvl,Nat.mul_comm],.inr ⟨g,n,vs.toArray,rfl,hge,hrow,Nat.le_refl _,by unfold maxLen;omega,by simp [hvl,Nat.mul_comm],List.take_of_length_le (by simp [hvl,Nat.mul_comm])⟩⟩
 obtain⟨v',w',hr,h2,h3,h4⟩:=run_append_own (P:=prog) w w0.heap.size 44 o.type 49 i _ 2 16 (by kernel_rfl) hi hz0 hz1 hz2 (by rfl) (by simp) _ n vs ho2 ⟨gx,0,none⟩ m m us (by rw [hl,Nat.mul_comm])
  (fun j u hj=>by
    have h5:w.cell? ⟨gx,j,none⟩=us.toArray[j]?:=cell_of_row w gx j _ _ _ hX
    rw [add_lit,Nat.zero_add,h5];simpa using hj) h1 (by unfold maxLen;omega) (by omega) hB.size
 rcases h2.2 with⟨h5,h6⟩ | ⟨g',cap,cur,h5,h6,h7,h8,h9,h10,h11⟩
 . omega
 . subst h5
   unfold Oper.wp;simp only [execOp,ho,resolve,invoke,builtin,Sem.run_bind,Sem.run_pure,Result.andThen_ok,List.map_toArray,List.map_cons,List.map_nil,hs,hx,hr];have hl2:=h2.1;have hg':g'<w'.heap.size:=(Array.getElem?_eq_some_iff.1 h7).1;refine h g' cap w' ⟨by rw [hl2];omega,Nat.le_refl _,by unfold maxLen;omega,nofun,by rintro _ a ⟨⟩;rfl,by rintro _ a ⟨⟩;exact hg',fun j v hj=>?_⟩ ⟨cur,h7⟩ (hB.grown h3 hB.size (fun k hk=>by simp [Value.ownBlock]at hk;rw [<- hk];exact hge)) (fun b x hb hne=>?_)
   . rw [adr_some,Nat.zero_add,cell_of_row w' g' j cur 49 (0,0) h7]
     rw [<- h11,List.getElem?_take]at hj;split at hj
     . simpa using hj
     . cases hj
   . rw [h3.block b (Array.getElem?_eq_some_iff.1 hb).1 (by simp [Value.ownBlock];exact hne)];exact hb
theorem steps1_any(k:Nat)(w:World)(hv:validK (k:Int)=true):Calls prog 296 #[.int .i64 k,.int .i64 1] w fun e w'=>∃ v,e= .returned v/\StepsOk w' k 1 v/\Below w.heap.size w w':=by
 obtain⟨n0,n1⟩:=valid_len hv;have hvv:=fun W=>aq (valid_any (k:Int) W);rw [hv]at hvv;have hmd:=fun W=>aq (made1_any k W n1);clear hv;have K3:=aq (Ownv.lit (base:=0) w #[.int .i64 1] 3 rfl (Nat.zero_le _) (by show 1<=maxLen;unfold maxLen;omega));have L5:=fun W:World=>aq (Ownv.lit (base:=0) W #[.int .i64 ((k:Int)+4)] 3 rfl (Nat.zero_le _) (by show 1<=maxLen;unfold maxLen;omega));have L6:=fun(W:World) (O:Option Addr)=>aq (Ownv.lit (base:=0) W #[.slice O k k] 51 rfl (Nat.zero_le _) (by show 1<=maxLen;unfold maxLen;omega));go_enter func296,ntmps296
 go_wp2_with (first
  | (go_at_call 238;refine(hvv _).out.mono ?_;rintro e w1 ⟨rfl,hB1⟩;have hk3:=K3.o.below hB1;have c3:=hk3.rd.at_ 0 _ rfl;simp only [adr_some,Nat.zero_add]at c3;have K3a:=aq hk3;have HS0:Hid (w.heap.size+1<=w1.heap.size):=aq (by have:=hB1.size;simpa using this);have HB1:=aq (((Below.refl _ w).alloc (Nat.le_refl _) _).trans (hB1.mono (by simp)));clear hk3 hB1)
  | (go_at_call 327;refine(hmd _).out.mono ?_;rintro e w2 ⟨O2,rfl,hO2,hB2⟩;have hk3:=Ownv.alloc ((Ownv.alloc K3a.o _).below hB2) (.cells #[.slice O2 k k] 51);have hk5:=Ownv.alloc ((L5 w1).out.below hB2) (.cells #[.slice O2 k k] 51);have c3b:=hk3.rd.at_ 0 _ rfl;have c5b:=hk5.rd.at_ 0 _ rfl;simp only [adr_some,Nat.zero_add]at c3b c5b;have K3b:=aq hk3;have K5b:=aq hk5;have K6b:=aq (L6 w2 O2).out;have HB2:=aq ((HB1.o.alloc HB1.o.size _).trans (hB2.mono (HB1.o.alloc HB1.o.size (.cells #[.int .i64 ((k:Int)+4)] 3)).size));have HO2:=aq hO2;have HS1:Hid (w.heap.size+1<=w1.heap.size/\w1.heap.size+1<=w2.heap.size):=aq ⟨HS0.o,(by have:=hB2.size;simpa using this)⟩;clear hk3 hk5 hB2 hO2))
 obtain⟨W0,hW0⟩:∃ W,W=w2.alloc (.cells #[.slice O2 k k] 51):=⟨_,rfl⟩
 have K6z:=K6b.o;have K3z:=K3b.o;have K5z:=K5b.o;have HRO:=aq (Ownv.rd (Ownv.alloc HO2.o (.cells #[.slice O2 k k] 51)));have HBW:=aq (HB2.o.alloc HB2.o.size (.cells #[.slice O2 k k] 51));rw [<- hW0]at K6z K3z K5z HRO HBW;rw [<- hW0];have hk1:1<=k:=by omega
 have hk100:k+3<=100000:=by omega
 have hn48:k+4<=6148:=by omega
 have HSL:Hid (stepsL k 1=pairL (osL k 1) (1*(k+4)) k ++ [.int .i64 (k:Int),.int .i64 ((k:Int)+4+(k:Int)),.int .i64 (2*((k:Int)+4)+(k:Int)),.int .i64 ((k:Int)+1),.int .i64 ((k:Int)+4+(k:Int)+1),.int .i64 (2*((k:Int)+4)+(k:Int)+1)]):=aq (by first | (simp [stepsL,tailL,atN];done) | (simp [stepsL,tailL,atN];omega));have hctx:PairCtx W0 w2.heap.size w.heap.size w1.heap.size O2 k k (osL k 1) 1 (k+4):=⟨K6z.rd.at_ 0 _ rfl,K3z.rd.at_ 0 _ rfl,K5z.rd.at_ 0 _ rfl,HRO.o⟩
 have HC5:Hid (∀ W:World,Below W0.heap.size W0 W->W.cell? ⟨w1.heap.size,0,none⟩=some (.int .i64 ((k:Int)+4))):=aq (fun W hB=>(hctx.below hB).c5);have HCTX:=aq hctx;clear hctx K6z K3z K5z hW0 c3 c3b c5b;have e0:IntKind.i64.wrap (2*((k:Int)+4))=(2*((k:Int)+4)):=IntWalk.i64_in _ (by omega);have e1:IntKind.i64.wrap ((k:Int)+4+(k:Int))=((k:Int)+4+(k:Int)):=IntWalk.i64_in _ (by omega);have e2:IntKind.i64.wrap (2*((k:Int)+4)+(k:Int))=(2*((k:Int)+4)+(k:Int)):=IntWalk.i64_in _ (by omega);have e3:IntKind.i64.wrap ((k:Int)+1)=((k:Int)+1):=IntWalk.i64_in _ (by omega);have e4:IntKind.i64.wrap ((k:Int)+4+(k:Int)+1)=((k:Int)+4+(k:Int)+1):=IntWalk.i64_in _ (by omega);have e5:IntKind.i64.wrap (2*((k:Int)+4)+(k:Int)+1)=(2*((k:Int)+4)+(k:Int)+1):=IntWalk.i64_in _ (by omega);go_cut [8] (fun v wx=>RegS W0 k 1 v wx)
 case first =>
  go_region_held3 (fun W=>W.cell? ⟨w1.heap.size,0,none⟩=some (.int .i64 ((k:Int)+4))) (exact HC5.o _ (by first | exact Below.refl _ W0 | exact(Below.refl _ W0).drew | exact bal (Below.refl _ W0) _ | exact bal (Below.refl _ W0).drew _ | exact bal (bal (Below.refl _ W0).drew _) _ | exact hB9p | exact hB9p.drew | exact bal hB9p _ | exact bal (bal hB9p _) _ | exact hB10 | exact hB10.drew | exact bal hB10 _ | exact hB10.setCell (by first | exact Nat.le_refl _ | exact Nat.le_succ _ | exact hs9 | exact Nat.le_succ_of_le hs9) _))
   (first
     | (go_at_call 329
        clear e0 e1 e2 e3 e4 e5;refine(made2_any w2.heap.size w.heap.size w1.heap.size O2 k k (osL k 1) 1 (k+4) _ (HCTX.o.below (by first | exact Below.refl _ W0 | exact(Below.refl _ W0).drew | exact bal (Below.refl _ W0) _ | exact bal (Below.refl _ W0).drew _ | exact bal (bal (Below.refl _ W0).drew _) _ | exact hB9p | exact hB9p.drew | exact bal hB9p _ | exact bal (bal hB9p _) _ | exact hB10 | exact hB10.drew | exact bal hB10 _ | exact hB10.setCell (by first | exact Nat.le_refl _ | exact Nat.le_succ _ | exact hs9 | exact Nat.le_succ_of_le hs9) _)) n1 hk1 (by decide) hn48).mono ?_;rintro e w9 ⟨rfl,hO9,hB9⟩;have hB9p:=bnext (by first | exact Below.refl _ W0 | exact(Below.refl _ W0).drew | exact bal (Below.refl _ W0) _ | exact bal (Below.refl _ W0).drew _ | exact bal (bal (Below.refl _ W0).drew _) _ | exact hB9p | exact hB9p.drew | exact bal hB9p _ | exact bal (bal hB9p _) _ | exact hB10 | exact hB10.drew | exact bal hB10 _ | exact hB10.setCell (by first | exact Nat.le_refl _ | exact Nat.le_succ _ | exact hs9 | exact Nat.le_succ_of_le hs9) _) hB9;have h39:=bheap hB9;have hO9m:=Ownv.mono hO9 (bsz hB9 (by first | exact Below.refl _ W0 | exact(Below.refl _ W0).drew | exact bal (Below.refl _ W0) _ | exact bal (Below.refl _ W0).drew _ | exact bal (bal (Below.refl _ W0).drew _) _ | exact hB9p | exact hB9p.drew | exact bal hB9p _ | exact bal (bal hB9p _) _ | exact hB10 | exact hB10.drew | exact bal hB10 _ | exact hB10.setCell (by first | exact Nat.le_refl _ | exact Nat.le_succ _ | exact hs9 | exact Nat.le_succ_of_le hs9) _));have hlo:=(Ownv.blk_ge hO9 (two_pos hk1)).2;simp only [World.size_alloc,World.size_drew]at hO9m hlo
        clear hO9 hB9)
     | (refine step_of rfl ?_
        refine wp_app75 (w0:=W0) (.tmp 38) (.tmp 61) rfl (vs:=pairL (osL k 1) (1*(k+4)) k) (us:=[.int .i64 (k:Int),.int .i64 ((k:Int)+4+(k:Int)),.int .i64 (2*((k:Int)+4)+(k:Int)),.int .i64 ((k:Int)+1),.int .i64 ((k:Int)+4+(k:Int)+1),.int .i64 (2*((k:Int)+4)+(k:Int)+1)]) rfl rfl ?_ ?_ ?_ rfl ?_ hk100 hk1 ?_
        . first | exact Below.refl _ W0 | exact(Below.refl _ W0).drew | exact bal (Below.refl _ W0) _ | exact bal (Below.refl _ W0).drew _ | exact bal (bal (Below.refl _ W0).drew _) _ | exact hB9p | exact hB9p.drew | exact bal hB9p _ | exact bal (bal hB9p _) _ | exact hB10 | exact hB10.drew | exact bal hB10 _ | exact hB10.setCell (by first | exact Nat.le_refl _ | exact Nat.le_succ _ | exact hs9 | exact Nat.le_succ_of_le hs9) _
        . first | exact hO9m | exact hO9m.drew | exact hO9m.alloc _ | exact(hO9m.alloc _).alloc _
        . repeat (first | ((with_reducible refine heap_new' ?_);simp;done) | (with_reducible refine heap_drew' ?_) | (with_reducible refine heap_old' ?_) | (with_reducible refine h39 _ _ ?_))
        . exact oneCell_ints .i64 [(k:Int),((k:Int)+4+(k:Int)),(2*((k:Int)+4)+(k:Int)),((k:Int)+1),((k:Int)+4+(k:Int)+1),(2*((k:Int)+4)+(k:Int)+1)]
        intro g10 c10 w10 hR10 ht10 hB10 hk10;have hg10:=heap_tag_ne ht10;have hs9:=hB9p.size;try
         refine hv_ (hk10 W0.heap.size (.cells #[.slice none 0 0] 44 (0,0)) ?_ ?_) ?_
         . repeat (first | ((with_reducible refine heap_new' ?_);simp;done) | (with_reducible refine heap_drew' ?_) | (with_reducible refine heap_old' ?_) | (with_reducible refine h39 _ _ ?_))
         . first | (simp;done) | exact Nat.ne_of_gt hlo | exact Nat.ne_of_gt (Nat.lt_succ_of_lt hlo) | omega
         intro x8
         have y8:=heap_box x8
        try
         refine hv_ (hk10 (W0.heap.size+1) (.cells #[.slice none 0 0] 44 (0,0)) ?_ ?_) ?_
         . repeat (first | ((with_reducible refine heap_new' ?_);simp;done) | (with_reducible refine heap_drew' ?_) | (with_reducible refine heap_old' ?_) | (with_reducible refine h39 _ _ ?_))
         . first | (simp;done) | exact Nat.ne_of_gt hlo | exact Nat.ne_of_gt (Nat.lt_succ_of_lt hlo) | omega
         intro x8
         have y8:=heap_box x8
        try
         refine hv_ (hk10 w9.heap.size (.cells #[.slice none 0 0] 44 (0,0)) ?_ ?_) ?_
         . repeat (first | ((with_reducible refine heap_new' ?_);simp;done) | (with_reducible refine heap_drew' ?_) | (with_reducible refine heap_old' ?_) | (with_reducible refine h39 _ _ ?_))
         . first | (simp;done) | exact Nat.ne_of_gt hlo | exact Nat.ne_of_gt (Nat.lt_succ_of_lt hlo) | omega
         intro x8
         have y8:=heap_box x8
        try
         refine hv_ (hk10 (w9.heap.size+1) (.cells #[.slice none 0 0] 44 (0,0)) ?_ ?_) ?_
         . repeat (first | ((with_reducible refine heap_new' ?_);simp;done) | (with_reducible refine heap_drew' ?_) | (with_reducible refine heap_old' ?_) | (with_reducible refine h39 _ _ ?_))
         . first | (simp;done) | exact Nat.ne_of_gt hlo | exact Nat.ne_of_gt (Nat.lt_succ_of_lt hlo) | omega
         intro x8
         have y8:=heap_box x8
        try obtain⟨y8c,y8f⟩:=y8))
  all_goals
   go_wp2_with fail
   go_meet
   rw [<- HSL.o]at hR10
   refine⟨_,g10,c10,rfl,?_,?_,?_⟩
   . first | exact(heap_box (heap_new' rfl)).1 | exact World.cell?_setCell_same' w10 _ _ (by rw [y8c];rfl)
   . first | exact hR10.alloc _ | exact Rdv.grown hR10 (box_put x8) (fun _ he=>hg10 _ _ 44 x8 (by decide) (Option.some.inj he))
   . first | exact bal hB10 _ | exact hB10.setCell (by first | exact Nat.le_refl _ | exact Nat.le_succ _ | exact hs9 | exact Nat.le_succ_of_le hs9) _
 case rest =>
  obtain⟨b8,g',c',rfl,hc8,hr8,hB8⟩:=hcut;go_wp2;go_ret;exact⟨_,rfl,⟨b8,g',c',rfl,hc8,hr8⟩,HBW.o.trans (hB8.mono HBW.o.size)⟩
theorem steps2_any(k:Nat)(w:World)(hv:validK (k:Int)=true):Calls prog 296 #[.int .i64 k,.int .i64 2] w fun e w'=>∃ v,e= .returned v/\StepsOk w' k 2 v/\Below w.heap.size w w':=by
 obtain⟨n0,n1⟩:=valid_len hv;have ho:=fun W=>aq (order_any (k:Int) W);have e1:permE (k:Int)=0:=by unfold permE;rw [if_pos hv]
 have e2:ordR (k:Int)=ordL k:=by unfold ordR;rw [if_pos hv,Int.toNat_natCast]
 rw [e1,e2]at ho;clear e1 e2;have hvv:=fun W=>aq (valid_any (k:Int) W);rw [hv]at hvv;have hmd:=fun W=>aq (made1_any k W n1);clear hv;have K3:=aq (Ownv.lit (base:=0) w #[.int .i64 2] 3 rfl (Nat.zero_le _) (by show 1<=maxLen;unfold maxLen;omega));have L5:=fun W:World=>aq (Ownv.lit (base:=0) W #[.int .i64 ((k:Int)+4)] 3 rfl (Nat.zero_le _) (by show 1<=maxLen;unfold maxLen;omega));have L6:=fun(W:World) (O:Option Addr)=>aq (Ownv.lit (base:=0) W #[.slice O k k] 51 rfl (Nat.zero_le _) (by show 1<=maxLen;unfold maxLen;omega));go_enter func296,ntmps296
 go_wp2_with (first
  | (go_at_call 238;refine(hvv _).out.mono ?_;rintro e w1 ⟨rfl,hB1⟩;have hk3:=K3.o.below hB1;have c3:=hk3.rd.at_ 0 _ rfl;simp only [adr_some,Nat.zero_add]at c3;have K3a:=aq hk3;have HS0:Hid (w.heap.size+1<=w1.heap.size):=aq (by have:=hB1.size;simpa using this);have HB1:=aq (((Below.refl _ w).alloc (Nat.le_refl _) _).trans (hB1.mono (by simp)));clear hk3 hB1)
  | (go_at_call 327;refine(hmd _).out.mono ?_;rintro e w2 ⟨O2,rfl,hO2,hB2⟩;have hk3:=Ownv.alloc ((Ownv.alloc K3a.o _).below hB2) (.cells #[.slice O2 k k] 51);have hk5:=Ownv.alloc ((L5 w1).out.below hB2) (.cells #[.slice O2 k k] 51);have c3b:=hk3.rd.at_ 0 _ rfl;have c5b:=hk5.rd.at_ 0 _ rfl;simp only [adr_some,Nat.zero_add]at c3b c5b;have K3b:=aq hk3;have K5b:=aq hk5;have K6b:=aq (L6 w2 O2).out;have HB2:=aq ((HB1.o.alloc HB1.o.size _).trans (hB2.mono (HB1.o.alloc HB1.o.size (.cells #[.int .i64 ((k:Int)+4)] 3)).size));have HO2:=aq hO2;have HS1:Hid (w.heap.size+1<=w1.heap.size/\w1.heap.size+1<=w2.heap.size):=aq ⟨HS0.o,(by have:=hB2.size;simpa using this)⟩;clear hk3 hk5 hB2 hO2)
  | (go_at_call 240;refine(ho _).out.mono ?_;rintro e w3 ⟨O3,n3,rfl,hO3,hB3⟩;obtain rfl:k=n3:=(by have:=(Own.rd hO3).len;rw [ordL_len]at this;exact this);have hk6:=(K6b.o.below hB3);have c6:=hk6.rd.at_ 0 _ rfl;have f6:=Ownv.frozen hk6 (by simp) 0;simp only [adr_some,Nat.zero_add]at c6 f6;have s6:=Ownv.set_ hk6 (j:=0) (by simp) (.slice O3 k k);simp only [adr_some,Nat.zero_add]at s6;have hk3:=Ownv.grown (K3b.o.below hB3) s6.2 (fun _ he=>by have h9:w.heap.size=w2.heap.size:=Option.some.inj he;have:=HB2.o.size;have:=HS1.o;omega);have hk5:=Ownv.grown (K5b.o.below hB3) s6.2 (fun _ he=>by have h9:w1.heap.size=w2.heap.size:=Option.some.inj he;have:=HS1.o;omega);have c3c:=hk3.rd.at_ 0 _ rfl;have c5c:=hk5.rd.at_ 0 _ rfl;simp only [adr_some,Nat.zero_add]at c3c c5c;have K3c:=aq hk3;have K5c:=aq hk5;have K6c:=aq s6.1;have HO3:=aq (Ownv.grown hO3 s6.2 (fun hA he=>by have h9:blk O3=w2.heap.size:=Option.some.inj he;have:=(Ownv.blk_of hO3 hA).1;simp at this;omega));have HB3:=aq ((((HB2.o.alloc HB2.o.size _)).trans (hB3.mono (HB2.o.alloc HB2.o.size (.cells #[.slice O2 k k] 51)).size)).grown s6.2 ((HB2.o.alloc HB2.o.size _).trans (hB3.mono (HB2.o.alloc HB2.o.size (.cells #[.slice O2 k k] 51)).size)).size (fun q hq=>by have h8:w2.heap.size=q:=Option.some.inj hq;have:=HB2.o.size;omega));clear hk3 hk5 hk6 hO3 hB3 s6))
 obtain⟨W0,hW0⟩:∃ W,W=w3.setCell ⟨w2.heap.size,0,none⟩ (.slice O3 k k):=⟨_,rfl⟩
 have K6z:=K6c.o;have K3z:=K3c.o;have K5z:=K5c.o;have HRO:=aq (Ownv.rd HO3.o);have HBW:=HB3;rw [<- hW0]at K6z K3z K5z HRO HBW;rw [<- hW0];have hk1:1<=k:=by omega
 have hk100:k+3<=100000:=by omega
 have hn48:k+4<=6148:=by omega
 have HSL:Hid (stepsL k 2=pairL (osL k 2) (2*(k+4)) k ++ [.int .i64 ((k:Int)+4 - 2),.int .i64 ((k:Int)+4+((k:Int)+4 - 2)),.int .i64 (2*((k:Int)+4)+((k:Int)+4 - 2)),.int .i64 (((k:Int)+4 - 2)+1),.int .i64 ((k:Int)+4+((k:Int)+4 - 2)+1),.int .i64 (2*((k:Int)+4)+((k:Int)+4 - 2)+1)]):=aq (by first | (simp [stepsL,tailL,atN];done) | (simp [stepsL,tailL,atN];omega));have hctx:PairCtx W0 w2.heap.size w.heap.size w1.heap.size O3 k k (osL k 2) 2 (k+4):=⟨K6z.rd.at_ 0 _ rfl,K3z.rd.at_ 0 _ rfl,K5z.rd.at_ 0 _ rfl,HRO.o⟩
 have HC5:Hid (∀ W:World,Below W0.heap.size W0 W->W.cell? ⟨w1.heap.size,0,none⟩=some (.int .i64 ((k:Int)+4))):=aq (fun W hB=>(hctx.below hB).c5);have HCTX:=aq hctx;clear hctx K6z K3z K5z hW0 c3 c3b c5b c6 f6 c3c c5c;have e0:IntKind.i64.wrap (2*((k:Int)+4))=(2*((k:Int)+4)):=IntWalk.i64_in _ (by omega);have e1:IntKind.i64.wrap ((k:Int)+4+((k:Int)+4 - 2))=((k:Int)+4+((k:Int)+4 - 2)):=IntWalk.i64_in _ (by omega);have e2:IntKind.i64.wrap (2*((k:Int)+4)+((k:Int)+4 - 2))=(2*((k:Int)+4)+((k:Int)+4 - 2)):=IntWalk.i64_in _ (by omega);have e3:IntKind.i64.wrap (((k:Int)+4 - 2)+1)=(((k:Int)+4 - 2)+1):=IntWalk.i64_in _ (by omega);have e4:IntKind.i64.wrap ((k:Int)+4+((k:Int)+4 - 2)+1)=((k:Int)+4+((k:Int)+4 - 2)+1):=IntWalk.i64_in _ (by omega);have e5:IntKind.i64.wrap (2*((k:Int)+4)+((k:Int)+4 - 2)+1)=(2*((k:Int)+4)+((k:Int)+4 - 2)+1):=IntWalk.i64_in _ (by omega);go_cut [8] (fun v wx=>RegS W0 k 2 v wx)
 case first =>
  go_region_held3 (fun W=>W.cell? ⟨w1.heap.size,0,none⟩=some (.int .i64 ((k:Int)+4))) (exact HC5.o _ (by first | exact Below.refl _ W0 | exact(Below.refl _ W0).drew | exact bal (Below.refl _ W0) _ | exact bal (Below.refl _ W0).drew _ | exact bal (bal (Below.refl _ W0).drew _) _ | exact hB9p | exact hB9p.drew | exact bal hB9p _ | exact bal (bal hB9p _) _ | exact hB10 | exact hB10.drew | exact bal hB10 _ | exact hB10.setCell (by first | exact Nat.le_refl _ | exact Nat.le_succ _ | exact hs9 | exact Nat.le_succ_of_le hs9) _))
   (first
     | (go_at_call 329
        clear e0 e1 e2 e3 e4 e5;refine(made2_any w2.heap.size w.heap.size w1.heap.size O3 k k (osL k 2) 2 (k+4) _ (HCTX.o.below (by first | exact Below.refl _ W0 | exact(Below.refl _ W0).drew | exact bal (Below.refl _ W0) _ | exact bal (Below.refl _ W0).drew _ | exact bal (bal (Below.refl _ W0).drew _) _ | exact hB9p | exact hB9p.drew | exact bal hB9p _ | exact bal (bal hB9p _) _ | exact hB10 | exact hB10.drew | exact bal hB10 _ | exact hB10.setCell (by first | exact Nat.le_refl _ | exact Nat.le_succ _ | exact hs9 | exact Nat.le_succ_of_le hs9) _)) n1 hk1 (by decide) hn48).mono ?_;rintro e w9 ⟨rfl,hO9,hB9⟩;have hB9p:=bnext (by first | exact Below.refl _ W0 | exact(Below.refl _ W0).drew | exact bal (Below.refl _ W0) _ | exact bal (Below.refl _ W0).drew _ | exact bal (bal (Below.refl _ W0).drew _) _ | exact hB9p | exact hB9p.drew | exact bal hB9p _ | exact bal (bal hB9p _) _ | exact hB10 | exact hB10.drew | exact bal hB10 _ | exact hB10.setCell (by first | exact Nat.le_refl _ | exact Nat.le_succ _ | exact hs9 | exact Nat.le_succ_of_le hs9) _) hB9;have h39:=bheap hB9;have hO9m:=Ownv.mono hO9 (bsz hB9 (by first | exact Below.refl _ W0 | exact(Below.refl _ W0).drew | exact bal (Below.refl _ W0) _ | exact bal (Below.refl _ W0).drew _ | exact bal (bal (Below.refl _ W0).drew _) _ | exact hB9p | exact hB9p.drew | exact bal hB9p _ | exact bal (bal hB9p _) _ | exact hB10 | exact hB10.drew | exact bal hB10 _ | exact hB10.setCell (by first | exact Nat.le_refl _ | exact Nat.le_succ _ | exact hs9 | exact Nat.le_succ_of_le hs9) _));have hlo:=(Ownv.blk_ge hO9 (two_pos hk1)).2;simp only [World.size_alloc,World.size_drew]at hO9m hlo
        clear hO9 hB9)
     | (refine step_of rfl ?_
        refine wp_app75 (w0:=W0) (.tmp 38) (.tmp 61) rfl (vs:=pairL (osL k 2) (2*(k+4)) k) (us:=[.int .i64 ((k:Int)+4 - 2),.int .i64 ((k:Int)+4+((k:Int)+4 - 2)),.int .i64 (2*((k:Int)+4)+((k:Int)+4 - 2)),.int .i64 (((k:Int)+4 - 2)+1),.int .i64 ((k:Int)+4+((k:Int)+4 - 2)+1),.int .i64 (2*((k:Int)+4)+((k:Int)+4 - 2)+1)]) rfl rfl ?_ ?_ ?_ rfl ?_ hk100 hk1 ?_
        . first | exact Below.refl _ W0 | exact(Below.refl _ W0).drew | exact bal (Below.refl _ W0) _ | exact bal (Below.refl _ W0).drew _ | exact bal (bal (Below.refl _ W0).drew _) _ | exact hB9p | exact hB9p.drew | exact bal hB9p _ | exact bal (bal hB9p _) _ | exact hB10 | exact hB10.drew | exact bal hB10 _ | exact hB10.setCell (by first | exact Nat.le_refl _ | exact Nat.le_succ _ | exact hs9 | exact Nat.le_succ_of_le hs9) _
        . first | exact hO9m | exact hO9m.drew | exact hO9m.alloc _ | exact(hO9m.alloc _).alloc _
        . repeat (first | ((with_reducible refine heap_new' ?_);simp;done) | (with_reducible refine heap_drew' ?_) | (with_reducible refine heap_old' ?_) | (with_reducible refine h39 _ _ ?_))
        . exact oneCell_ints .i64 [((k:Int)+4 - 2),((k:Int)+4+((k:Int)+4 - 2)),(2*((k:Int)+4)+((k:Int)+4 - 2)),(((k:Int)+4 - 2)+1),((k:Int)+4+((k:Int)+4 - 2)+1),(2*((k:Int)+4)+((k:Int)+4 - 2)+1)]
        intro g10 c10 w10 hR10 ht10 hB10 hk10;have hg10:=heap_tag_ne ht10;have hs9:=hB9p.size;try
         refine hv_ (hk10 W0.heap.size (.cells #[.slice none 0 0] 44 (0,0)) ?_ ?_) ?_
         . repeat (first | ((with_reducible refine heap_new' ?_);simp;done) | (with_reducible refine heap_drew' ?_) | (with_reducible refine heap_old' ?_) | (with_reducible refine h39 _ _ ?_))
         . first | (simp;done) | exact Nat.ne_of_gt hlo | exact Nat.ne_of_gt (Nat.lt_succ_of_lt hlo) | omega
         intro x8
         have y8:=heap_box x8
        try
         refine hv_ (hk10 (W0.heap.size+1) (.cells #[.slice none 0 0] 44 (0,0)) ?_ ?_) ?_
         . repeat (first | ((with_reducible refine heap_new' ?_);simp;done) | (with_reducible refine heap_drew' ?_) | (with_reducible refine heap_old' ?_) | (with_reducible refine h39 _ _ ?_))
         . first | (simp;done) | exact Nat.ne_of_gt hlo | exact Nat.ne_of_gt (Nat.lt_succ_of_lt hlo) | omega
         intro x8
         have y8:=heap_box x8
        try
         refine hv_ (hk10 w9.heap.size (.cells #[.slice none 0 0] 44 (0,0)) ?_ ?_) ?_
         . repeat (first | ((with_reducible refine heap_new' ?_);simp;done) | (with_reducible refine heap_drew' ?_) | (with_reducible refine heap_old' ?_) | (with_reducible refine h39 _ _ ?_))
         . first | (simp;done) | exact Nat.ne_of_gt hlo | exact Nat.ne_of_gt (Nat.lt_succ_of_lt hlo) | omega
         intro x8
         have y8:=heap_box x8
        try
         refine hv_ (hk10 (w9.heap.size+1) (.cells #[.slice none 0 0] 44 (0,0)) ?_ ?_) ?_
         . repeat (first | ((with_reducible refine heap_new' ?_);simp;done) | (with_reducible refine heap_drew' ?_) | (with_reducible refine heap_old' ?_) | (with_reducible refine h39 _ _ ?_))
         . first | (simp;done) | exact Nat.ne_of_gt hlo | exact Nat.ne_of_gt (Nat.lt_succ_of_lt hlo) | omega
         intro x8
         have y8:=heap_box x8
        try obtain⟨y8c,y8f⟩:=y8))
  all_goals
   go_wp2_with fail
   go_meet
   rw [<- HSL.o]at hR10
   refine⟨_,g10,c10,rfl,?_,?_,?_⟩
   . first | exact(heap_box (heap_new' rfl)).1 | exact World.cell?_setCell_same' w10 _ _ (by rw [y8c];rfl)
   . first | exact hR10.alloc _ | exact Rdv.grown hR10 (box_put x8) (fun _ he=>hg10 _ _ 44 x8 (by decide) (Option.some.inj he))
   . first | exact bal hB10 _ | exact hB10.setCell (by first | exact Nat.le_refl _ | exact Nat.le_succ _ | exact hs9 | exact Nat.le_succ_of_le hs9) _
 case rest =>
  obtain⟨b8,g',c',rfl,hc8,hr8,hB8⟩:=hcut;go_wp2;go_ret;exact⟨_,rfl,⟨b8,g',c',rfl,hc8,hr8⟩,HBW.o.trans (hB8.mono HBW.o.size)⟩
end Go.Proofs.YthmhogdceolkdaaGreat.Tu