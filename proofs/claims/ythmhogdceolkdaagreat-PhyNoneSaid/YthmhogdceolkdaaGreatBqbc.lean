/- Bundle. Conditions: none. -/
import Derived.Test.YthmhogdceolkdaaGreatBqav
import Derived.Deep.AppendLies
import Derived.OrdersHeld
import Derived.Test.YthmhogdceolkdaaGreatBqbb
set_option linter.unusedVariables false
set_option linter.unusedSimpArgs false
namespace Go.Proofs.YthmhogdceolkdaaGreat.Tu
open Tryz
open Go.RowKit
def Apart(A B:Option Addr):Prop:=A≠none->B≠none->blk A≠blk B
theorem own_lt{e:TypeId}{w:World}{base:Nat}{A:Option Addr}{n c:Nat}{vs:List Value}(h:Ownv e w base A n c vs)(hA:A≠none):blk A<w.heap.size:=(Ownv.blk_of h hA).2
theorem own_beside{k:IntKind}{e:TypeId}{w w':World}{base:Nat}{A B:Option Addr}{n c m d:Nat}{ys:List Int}(hB:Own k e w base B m d ys)(hg:w.grownBy w' ((Value.slice A n c).ownBlock))(hap:Apart A B):Own k e w' base B m d ys:=by
 refine Ownv.grown hB hg (fun hb he=>?_);cases A with
 | none=>simp [Value.ownBlock]at he
 | some ad =>
   simp [Value.ownBlock]at he;exact hap (by simp) hb (by rw [he];rfl)
theorem apart_next{k:IntKind}{e:TypeId}{w:World}{base:Nat}{A B:Option Addr}{g m d:Nat}{ys:List Int}(hB:Own k e w base B m d ys)(hap:Apart A B)(h:A≠none/\g=blk A\/g=w.heap.size):Apart (some ⟨g,0,none⟩) B:=by
 intro _ hb he;have he':g=blk B:=he;rcases h with⟨hA,h⟩ | h
 . exact hap hA hb (by rw [<- h];exact he')
 . have:=own_lt hB hb;omega
theorem Apart.symm{A B:Option Addr}(h:Apart A B):Apart B A:=fun hb ha he=>h ha hb he.symm
def sysL(k code:Nat):List Int:=(stepsP k code).map Prod.fst
def parI(k code:Nat):List Int:=(stepsP k code).map Prod.snd
def sysP(k code j:Nat):List Int:=(List.range j).map fun q=>gi (osL k code) q
def parP(k code j:Nat):List Int:=(List.range j).map fun q:Nat=>((code*(k+4)+q:Nat):Int)
theorem sysL_eq(k code:Nat):sysL k code=sysP k code k ++ [(atN k code:Int),((2*(k+4)+atN k code:Nat):Int),((k+4+atN k code+1:Nat):Int)]:=by
 unfold sysL stepsP sysP;rw [List.map_append,List.map_map];rfl
theorem parI_eq(k code:Nat):parI k code=parP k code k ++ [((k+4+atN k code:Nat):Int),((atN k code+1:Nat):Int),((2*(k+4)+atN k code+1:Nat):Int)]:=by
 unfold parI stepsP parP;rw [List.map_append,List.map_map];rfl
theorem rng_gi{k j:Nat}(h:j<k):gi (osL k 1) j=(j:Int):=by
 show gi (rngL k) j=_;rw [gi_eq _ _ (by simp [rngL];exact h)];simp [rngL]
open Go.Shelf
attribute [local go_sem] Oper.semAt_some
set_option maxRecDepth 100000
set_option maxHeartbeats 8000000
theorem wp_appj{P:Program}{w:World}{A:Option Addr}{n c m gx base:Nat}{xs us:List Int}{o:Oper}{a:Act}{K:Act->World->Prop}{Q:Exit->Act->World->Prop}(s x:Operand)(t:TypeId)
 (ho:o.op= .call {callee:=.builtin .append,args:=#[s,x],argTypes:=#[t,t]}) {z:Value} (hE:El P t 3 z 8) (hs:a.eval s= .slice A n c) (hx:a.eval x= .slice (some ⟨gx,0,none⟩) m m)
 (hB:base<=w.heap.size) (hO:Own .i64 3 w base A n c xs) (hX:w.heap[gx]?=some (.cells (us.map (Value.int .i64)).toArray 3 (0,0))) (hm:0<m) (hl:us.length=m) (hn:n+m<=100000)
 (h:∀ g c' w',Own .i64 3 w' base (some ⟨g,0,none⟩) (n+m) c' (xs ++ us)->w.grownBy w' ((Value.slice A n c).ownBlock)->(A≠none/\g=blk A\/g=w.heap.size)->K (a.put o.dst (.slice (some ⟨g,0,none⟩) (n+m) c')) w'):o.wp P a w K Q:=by
 obtain⟨i,hi,hz0,hz1,hz2⟩:=info_parts hE.i;refine wp_append_lies w s x t ho base 3 i z 1 8 hE.u hi hz0 hz1 hz2 (by rw [hE.z1];rfl) (by decide) _ n _ hs hO.ow ⟨gx,0,none⟩ m m (us.map (Value.int .i64)) hx (by simp [hl]) ?_ (oneCell_ints .i64 us) hm (by unfold maxLen;omega) (by omega) hB _ rfl ?_
 . have:=World.news_of_block hX
   simpa using this
 . intro g cap w' h2 h3 h4 h5
   refine h g cap w' (Own.of_eq ⟨h2⟩ rfl (by rw [List.map_append])) h3 ?_;rcases h4 with h4 | h4
   . left
     cases A with
     | none=>simp [Value.ownBlock]at h4
     | some ad=>simp [Value.ownBlock]at h4;exact⟨by simp,by rw [<- h4];rfl⟩
   . exact .inr h4
structure FS (w Wb:World) (b0 g0 b4 b5:Nat) (vA vB:Value) (A:Option Addr) (n c:Nat) (xs:List Int) (B:Option Addr) (m d:Nat) (ys:List Int) (W:World):Prop where
 x4:Boxed W b4 51 vA
 x5:Boxed W b5 51 vB
 a:Own .i64 3 W b0 A n c xs
 b:Own .i64 3 W b0 B m d ys
 ap:Apart A B
 bl:Below w.heap.size w W
 ko:KeepsOthers Wb W
 hb:w.heap.size<=b0
 hs:b0<=W.heap.size
 hg:g0<b0
 n4:g0≠b4
 n5:g0≠b5
 kg:KeepG g0 Wb W
section
variable {w Wb W W' : World} {b0 g0 b4 b5 : Nat} {vA vB : Value} {A B : Option Addr} {n c m d : Nat} {xs ys : List Int}
theorem FS.drew(h:FS w Wb b0 g0 b4 b5 vA vB A n c xs B m d ys W):FS w Wb b0 g0 b4 b5 vA vB A n c xs B m d ys W.drew:=⟨h.x4,h.x5,Ownv.drew h.a,Ownv.drew h.b,h.ap,h.bl.drew,h.ko.trans (KeepsOthers.drew W),h.hb,h.hs,h.hg,h.n4,h.n5,h.kg⟩
theorem FS.alloc(h:FS w Wb b0 g0 b4 b5 vA vB A n c xs B m d ys W)(o:Obj):FS w Wb b0 g0 b4 b5 vA vB A n c xs B m d ys (W.alloc o):=⟨h.x4.alloc o,h.x5.alloc o,Ownv.alloc h.a o,Ownv.alloc h.b o,h.ap,h.bl.alloc h.bl.size o,h.ko.trans (KeepsOthers.alloc W o),h.hb,by have:=h.hs;simp;omega,h.hg,h.n4,h.n5,h.kg.trans (KeepG.alloc (Nat.lt_of_lt_of_le h.hg h.hs) o)⟩
theorem own_row_cells{e:TypeId}{base:Nat}{vs:List Value}(h:Ownv e W base A n c vs):∀ (j:Nat) (o:Obj),(Value.slice A n c).ownBlock=some j->W.heap[j]?=some o->o.isCells=true:=by
 intro j o hj ho;rcases (Ownv.cases h).2 with⟨rfl,_⟩ | ⟨g,cur,rfl,_,hh,_⟩
 . simp [Value.ownBlock]at hj
 . simp [Value.ownBlock]at hj
   subst hj;rw [hh]at ho;cases ho;rfl
theorem box_row{b:Nat}{v:Value}(hx:Boxed W b 51 v)(h:Own .i64 3 W b0 A n c xs):some b≠(Value.slice A n c).ownBlock:=by
 rcases (Ownv.cases h).2 with⟨rfl,_⟩ | ⟨g,cur,rfl,_,hh,_⟩
 . simp [Value.ownBlock]
 . intro he
   have he:b=g:=by simpa [Value.ownBlock] using he
   subst he;have:=(show W.heap[b]?=_ from hx).symm.trans hh;simp at this
theorem FS.appA{P:Program}{o:Oper}{a:Act}{K:Act->World->Prop}{Q:Exit->Act->World->Prop}{u:Int}{gx:Nat}{z:Value}(s x:Operand)(t:TypeId)
 (ho:o.op= .call {callee:=.builtin .append,args:=#[s,x],argTypes:=#[t,t]}) (hE:El P t 3 z 8) (hs:a.eval s= .slice A n c) (hx:a.eval x= .slice (some ⟨gx,0,none⟩) 1 1)
 (F:FS w Wb b0 g0 b4 b5 vA vB A n c xs B m d ys W) (hX:W.heap[gx]?=some (.cells #[.int .i64 u] 3 (0,0))) (hn:n+1<=100000) (hlt:A≠none->blk A<Wb.heap.size)
 (h:∀ g c' W',FS w Wb b0 g0 b4 b5 vA vB (some ⟨g,0,none⟩) (n+1) c' (xs ++ [u]) B m d ys W'->(∀ (b:Nat) (x:Obj),W.heap[b]?=some x->Wb.heap.size<=b->W'.heap[b]?=some x)->K (a.put o.dst (.slice (some ⟨g,0,none⟩) (n+1) c')) W'):o.wp P a W K Q:=by
 refine wp_appj (us:=[u]) s x t ho hE hs hx F.hs F.a hX (by decide) rfl hn ?_;intro g c' W' hO hg hl;have hB:=F.bl.grown hg F.bl.size (fun k hk=>Nat.le_trans F.hb (Ownv.ob' F.a hk));have hKG:=F.kg.trans (KeepG.grown hg (Nat.lt_of_lt_of_le F.hg F.hs) (fun e=>by have:=Ownv.ob' F.a e.symm;have:=F.hg;omega));refine h g c' W' ⟨F.x4.kept hg (box_row F.x4 F.a),F.x5.kept hg (box_row F.x5 F.a),hO,own_beside F.b hg F.ap,apart_next F.b F.ap hl,hB,F.ko.trans (KeepsOthers.of_grownBy hg (fun j o hj=>own_row_cells F.a j o hj)),F.hb,Nat.le_trans F.hs hg.size,F.hg,F.n4,F.n5,hKG⟩ (fun b x hb hlb=>?_)
 rw [hg.block b (Array.getElem?_eq_some_iff.1 hb).1 (by
  cases A with
  | none=>simp [Value.ownBlock]
  | some ad =>
    have h9:ad.block<Wb.heap.size:=hlt (by simp)
    simp [Value.ownBlock];omega)]
 exact hb
theorem FS.appB{P:Program}{o:Oper}{a:Act}{K:Act->World->Prop}{Q:Exit->Act->World->Prop}{u:Int}{gx:Nat}{z:Value}(s x:Operand)(t:TypeId)
 (ho:o.op= .call {callee:=.builtin .append,args:=#[s,x],argTypes:=#[t,t]}) (hE:El P t 3 z 8) (hs:a.eval s= .slice B m d) (hx:a.eval x= .slice (some ⟨gx,0,none⟩) 1 1)
 (F:FS w Wb b0 g0 b4 b5 vA vB A n c xs B m d ys W) (hX:W.heap[gx]?=some (.cells #[.int .i64 u] 3 (0,0))) (hn:m+1<=100000)
 (h:∀ g c' W',FS w Wb b0 g0 b4 b5 vA vB A n c xs (some ⟨g,0,none⟩) (m+1) c' (ys ++ [u]) W'->K (a.put o.dst (.slice (some ⟨g,0,none⟩) (m+1) c')) W'):o.wp P a W K Q:=by
 refine wp_appj (us:=[u]) s x t ho hE hs hx F.hs F.b hX (by decide) rfl hn ?_;intro g c' W' hO hg hl;have hB:=F.bl.grown hg F.bl.size (fun k hk=>Nat.le_trans F.hb (Ownv.ob' F.b hk));have hKG:=F.kg.trans (KeepG.grown hg (Nat.lt_of_lt_of_le F.hg F.hs) (fun e=>by have:=Ownv.ob' F.b e.symm;have:=F.hg;omega));exact h g c' W' ⟨F.x4.kept hg (box_row F.x4 F.b),F.x5.kept hg (box_row F.x5 F.b),own_beside F.a hg F.ap.symm,hO,(apart_next F.a F.ap.symm hl).symm,hB,F.ko.trans (KeepsOthers.of_grownBy hg (fun j o hj=>own_row_cells F.b j o hj)),F.hb,Nat.le_trans F.hs hg.size,F.hg,F.n4,F.n5,hKG⟩
theorem box_ne_row{b:Nat}{v u:Value}{k:IntKind}(hx:Boxed W b 51 v)(h:Own .i64 3 W b0 A n c xs)(hA:A≠none):some (blk A)≠some b:=by
 intro he;have:=box_row hx h;cases A with
 | none=>exact hA rfl
 | some ad=>exact this (by simp [Value.ownBlock];exact(Option.some.inj he).symm)
theorem FS.set4(F:FS w Wb b0 g0 b4 b5 vA vB A n c xs B m d ys W)(v:Value)(h4:w.heap.size<=b4)(hne:b5≠b4):FS w Wb b0 g0 b4 b5 v vB A n c xs B m d ys (W.setCell ⟨b4,0,none⟩ v) :=
 ⟨F.x4.set v,F.x5.other hne v,Ownv.grown F.a (grownBy_setCell' W b4 v) (fun hA=>box_ne_row (k:=.i64) (u:=v) F.x4 F.a hA),Ownv.grown F.b (grownBy_setCell' W b4 v) (fun hA=>box_ne_row (k:=.i64) (u:=v) F.x4 F.b hA),F.ap,F.bl.setCell h4 v,F.ko.trans (KeepsOthers.setCell W _ v),F.hb,Nat.le_trans F.hs (grownBy_setCell' W b4 v).size,F.hg,F.n4,F.n5,F.kg.trans (KeepG.grown (grownBy_setCell' W b4 v) (Nat.lt_of_lt_of_le F.hg F.hs) (fun e=>F.n4 (Option.some.inj e)))⟩
theorem FS.set5(F:FS w Wb b0 g0 b4 b5 vA vB A n c xs B m d ys W)(v:Value)(h5:w.heap.size<=b5)(hne:b4≠b5):FS w Wb b0 g0 b4 b5 vA v A n c xs B m d ys (W.setCell ⟨b5,0,none⟩ v) :=
 ⟨F.x4.other hne v,F.x5.set v,Ownv.grown F.a (grownBy_setCell' W b5 v) (fun hA=>box_ne_row (k:=.i64) (u:=v) F.x5 F.a hA),Ownv.grown F.b (grownBy_setCell' W b5 v) (fun hA=>box_ne_row (k:=.i64) (u:=v) F.x5 F.b hA),F.ap,F.bl.setCell h5 v,F.ko.trans (KeepsOthers.setCell W _ v),F.hb,Nat.le_trans F.hs (grownBy_setCell' W b5 v).size,F.hg,F.n4,F.n5,F.kg.trans (KeepG.grown (grownBy_setCell' W b5 v) (Nat.lt_of_lt_of_le F.hg F.hs) (fun e=>F.n5 (Option.some.inj e)))⟩
end
theorem wp_fs{P:Program}{o:Oper}{a:Act}{K:Act->World->Prop}{Q:Exit->Act->World->Prop}{w Wb W:World}{b0 g0 b4 b5:Nat}{vA vB:Value}{A B:Option Addr}{n c m d:Nat}{xs ys:List Int}(F:FS w Wb b0 g0 b4 b5 vA vB A n c xs B m d ys W)
 (h:W.cell? ⟨b4,0,none⟩=some vA->W.frozen? ⟨b4,0,none⟩=false->W.cell? ⟨b5,0,none⟩=some vB->W.frozen? ⟨b5,0,none⟩=false->o.wp P a W K Q):o.wp P a W K Q:=h F.x4.cell F.x4.frozen F.x5.cell F.x5.frozen
theorem any_step{P:Program}{md:Region.Mode}{ops:Array Oper}{Q:Exit->Act->World->Prop}{fuel:Nat}{listed:Array Bool}{a:Act}{w:World}(n:Nat)(hn:ops.size=n)(hne:(Region.ready md ops listed).isEmpty=false)
 (h:∀ i,i<n->(Region.ready md ops listed).contains i=true->wpOp P ops Q i (wpAny P md ops Q fuel (listed.setIfInBounds i true)) a w):wpAny P md ops Q (fuel+1) listed a w:=by
 unfold wpAny;refine⟨fun h0=>absurd hne (by rw [h0];decide),fun i hi=>?_⟩;obtain⟨-,oj,hoj,-⟩:=mem_ready.1 hi;exact h i (by rw [<- hn];exact(Array.getElem?_eq_some_iff.1 hoj).1) (by simpa using hi)
theorem all10{p:Nat->Prop}(h0:p 0)(h1:p 1)(h2:p 2)(h3:p 3)(h4:p 4)(h5:p 5)(h6:p 6)(h7:p 7)(h8:p 8)(h9:p 9):∀ i,i<10->p i:=by
 intro i hi;rcases (by omega:i=0\/i=1\/i=2\/i=3\/i=4\/i=5\/i=6\/i=7\/i=8\/i=9) with rfl | rfl | rfl | rfl | rfl | rfl | rfl | rfl | rfl | rfl<;>assumption
theorem nope{b:Bool}{X:Prop}(h:b=false):b=true->X:=fun e=>by rw [h]at e;cases e
theorem load_box{W:World}{b:Nat}{v:Value}(h:Boxed W b 51 v):(loadVar 51 ⟨b,0,none⟩).run prog W= .ok v W:=by
 have hc:=h.cell;simp [loadVar,hc,go_sem]
theorem wp_at{P:Program}{o:Oper}{a:Act}{W:World}{K:Act->World->Prop}{Q:Exit->Act->World->Prop}(S:World->Prop)(hS:S W)(h:S W->o.wp P a W K Q):o.wp P a W K Q:=h hS
def LayI(w:World)(b0 b4 b5:Nat)(pre:List (Int × Int))(W:World):Prop :=
 ∃ (A B:Option Addr) (c d:Nat),Boxed W b4 51 (.slice A pre.length c)/\Boxed W b5 51 (.slice B pre.length d)/\Own .i64 3 W b0 A pre.length c (pre.map Prod.fst)/\Own .i64 3 W b0 B pre.length d (pre.map Prod.snd)/\Apart A B/\Below w.heap.size w W/\b0<=W.heap.size
theorem layI_fin{w Wb W:World}{b0 g0 b4 b5:Nat}{A B:Option Addr}{c d:Nat}{pre:List (Int × Int)}{x1 x2:Int}(F:FS w Wb b0 g0 b4 b5 (.slice A (pre.length+1) c) (.slice B (pre.length+1) d) A (pre.length+1) c (pre.map Prod.fst ++ [x1]) B (pre.length+1) d (pre.map Prod.snd ++ [x2]) W) :
 KeepsOthers Wb W/\KeepG g0 Wb W/\LayI w b0 b4 b5 (pre ++ [(x1,x2)]) W:=by
 have hl:(pre ++ [(x1,x2)]).length=pre.length+1:=by simp
 refine⟨F.ko,F.kg,A,B,c,d,by rw [hl];exact F.x4,by rw [hl];exact F.x5,by rw [hl,List.map_append];exact F.a,by rw [hl,List.map_append];exact F.b,F.ap,F.bl,F.hs⟩
theorem layI_own(w:World)(b0 b4 b5 B0:Nat)(hb:w.heap.size<=B0):OwnFrom B0 (LayI w b0 b4 b5):=by
 rintro s X Y row ⟨A,B,c,d,h4,h5,hA,hB,hap,hbl,hsz⟩ hg hr;have hrow:∀ (e:TypeId) (C:Option Addr) (n c:Nat) (vs:List Value),Ownv e X b0 C n c vs->C≠none->some (blk C)≠row:=by
  rintro e C n c vs hC hn rfl;obtain⟨_,o,ho,hc⟩:=hr _ rfl;rcases (Ownv.cases hC).2 with⟨rfl,_⟩ | ⟨g,cur,rfl,_,hh,_⟩
  . exact hn rfl
  . have ho':X.heap[g]?=some o:=ho
    rw [hh]at ho';cases ho';cases hc
 have hbx:∀ (b:Nat) (v:Value),Boxed X b 51 v->some b≠row:=by
  rintro b v hx rfl;obtain⟨_,o,ho,hc⟩:=hr _ rfl;rw [show X.heap[b]?=_ from hx]at ho;cases ho;cases hc
 exact⟨A,B,c,d,h4.kept hg (hbx _ _ h4),h5.kept hg (hbx _ _ h5),Ownv.grown hA hg (hrow _ _ _ _ _ hA),Ownv.grown hB hg (hrow _ _ _ _ _ hB),hap,hbl.grown hg hbl.size (fun k hk=>Nat.le_trans hb (hr k hk).1),Nat.le_trans hsz hg.size⟩
theorem stepsC_any(k code:Nat)(hc:code=1\/code=2)(w:World)(hv:validK (k:Int)=true):Calls prog 296 #[.int .i64 k,.int .i64 (code:Int)] w fun e w'=>∃ v,e= .returned v/\StepsOk w' k code v/\Below w.heap.size w w':=by
 rcases hc with rfl | rfl
 . exact steps1_any k w hv
 . exact steps2_any k w hv
theorem lay_any(k code:Nat)(w:World)(hv:validK (k:Int)=true)(hc:code=1\/code=2):Calls prog 242 #[.int .i64 k,.int .i64 (code:Int)] w fun e w'=>∃ A c B d,e= .returned (.tuple #[.slice A (k+3) c,.slice B (k+3) d,.int .i64 0])/\Own .i64 3 w' w.heap.size A (k+3) c (sysL k code)/\Own .i64 3 w' w.heap.size B (k+3) d (parI k code)/\Below w.heap.size w w':=by
 obtain⟨n0,n1⟩:=valid_len hv;have hvv:=fun W=>aq (valid_any (k:Int) W);rw [hv]at hvv;have hst:=fun W=>aq (stepsC_any k code hc W hv);have h1':decide ((code:Int)<1)=false:=by simp;omega
 have h2':decide (2<(code:Int))=false:=by simp;omega
 clear hv hc;refine(callsIn_wide (n:=3)).1 ?_;refine callsIn_of_wp_marks func242 rfl trivial ?_;simp only [ntmps242,List.size_toArray,List.length_cons,List.length_nil,Nat.reduceAdd,Nat.reduceSub,Array.replicate_succ,Array.replicate_zero,List.push_toArray,List.append_toArray,List.nil_append,List.cons_append];gi_wp2_with fail;refine⟨trivial,?_⟩;refine CallsIn.mono (callsIn_wide.2 (hvv _).out) ?_;rintro e w1 ⟨rfl,hB1⟩;gi_wp2_with fail;refine⟨trivial,?_⟩;refine CallsIn.mono (callsIn_wide.2 (hst _).out) ?_;rintro e w2 ⟨v,rfl,⟨b8,g,c8,rfl,hc8,hr8⟩,hB2⟩;gi_wp2_with fail;have hx4:Boxed w1 w.heap.size 51 (.slice none 0 0):=(hB1.block _ (by simp<;>omega)).trans ((Boxed.new w 51 (.slice none 0 0)).alloc _);have hx5:Boxed w1 (w.heap.size+1) 51 (.slice none 0 0):=(hB1.block _ (by simp<;>omega)).trans (by have:=Boxed.new (w.alloc (.cells #[.slice none 0 0] 51)) 51 (.slice none 0 0);rw [World.size_alloc]at this;exact this);have hy4:Boxed w2 w.heap.size 51 (.slice none 0 0):=(hB2.block _ (Boxed.lt hx4)).trans hx4;have hy5:Boxed w2 (w.heap.size+1) 51 (.slice none 0 0):=(hB2.block _ (Boxed.lt hx5)).trans hx5;have hBw:Below w.heap.size w w2:=((((Below.refl _ w).alloc (Nat.le_refl _) _).alloc (by simp) _).trans (hB1.mono (by simp;omega))).trans (hB2.mono (by have:=hB1.size;simp at this;omega));have hI0:LayI w w2.heap.size w.heap.size (w.heap.size+1) [] w2:=⟨none,none,0,0,hy4,hy5,Own.nilv _ _ _ _,Own.nilv _ _ _ _,fun h=>absurd rfl h,hBw,Nat.le_refl _⟩
 have hglt:g<w2.heap.size:=hr8.lt (by omega) _ rfl;have hg1:(w2.cell? ⟨g,1,none⟩).isSome=true:=by
  have h9:=hr8.at_ 1 _ (List.getElem?_eq_getElem (by rw [hr8.len];omega));rw [adr_some,Nat.zero_add]at h9;rw [h9];rfl
 have hgb:∀ (b:Nat) (v:Value),Boxed w2 b 51 v->g≠b:=by
  rintro b v hb rfl;have h9:w2.cell? ⟨g,1,none⟩=#[v][1]?:=cell_of_row w2 g 1 _ _ _ hb;rw [h9]at hg1;cases hg1
 have hg4:=hgb _ _ hy4;have hg5:=hgb _ _ hy5;have hlt8:b8<w2.heap.size:=World.block_lt_of_cell? w2 _ hc8;clear hx4 hx5 hy4 hy5 hB1 hB2 hvv hst;refine wpIn_rangeFunc_ownF rfl (by omega) (gf:=331) (lb:=#[.pointer (some ⟨b8,0,none⟩)]) rfl trivial (enters_of func331 (by kernel_rfl) rfl)
  (steps4_stops Fence.wide 2 trivial rfl (by omega) b8 w2.heap.size g (k+3) c8 (stepsP k code) w2 w2 (by rw [stepsP_flat];exact hr8) (stepsP_len k code) (by omega) rfl (Below.refl _ _) hlt8 hc8) (fun h k=>KeepG.trans h k) (keepG_b hglt) (Below.refl _ _) (fun _=>rfl)
  (fun pre W=>LayI w w2.heap.size w.heap.size (w.heap.size+1) pre W)
  (fun _ _ _=>False)
  (layI_own w w2.heap.size w.heap.size (w.heap.size+1) w2.heap.size hBw.size)
  (fun _ _ _ _ _ hs _ _=>hs)
  hI0
  (fun x=>{tmps:=#[.int .i64 k,.int .i64 (code:Int),undef,undef,.pointer (some ⟨w.heap.size,0,none⟩),.pointer (some ⟨w.heap.size+1,0,none⟩),.int .i64 0,.int .i64 x.1,.int .i64 x.2,.int .i64 k,.bool true,.bool false,.bool false,.int .i64 (code:Int),.bool false,
    .bool false,.bool false,.int .i64 (code:Int),.bool false,.bool false,.int .i64 k,.int .i64 (code:Int),.func (.func 331) #[] #[.pointer (some ⟨b8,0,none⟩)],.int .i64 x.1,.int .i64 x.2,undef,undef,undef,undef,undef,undef,undef,undef,undef,undef],defers:=[]}) ?assign ?body ?done ?stop
 case assign =>
  intro l x W K hK;gi_wp2;exact hK
 case body =>
  rintro l pre ⟨x1,x2⟩ W ⟨A,B,c,d,h4,h5,hA,hB,hap,hbl,hsz⟩ hpl;have hAlt:A≠none->blk A<W.heap.size:=fun h=>own_lt hA h;have hn1:pre.length+1<=100000:=by omega
  have hF00:FS w W w2.heap.size g w.heap.size (w.heap.size+1) (.slice A pre.length c) (.slice B pre.length d) A pre.length c (pre.map Prod.fst) B pre.length d (pre.map Prod.snd) W:=⟨h4,h5,hA,hB,hap,hbl,KeepsOthers.refl W,hBw.size,hsz,hglt,hg4,hg5,KeepG.refl _ _⟩
  have hF0:=hF00.drew;have h45:w.heap.size+1≠w.heap.size:=Nat.succ_ne_self _;have h54:w.heap.size≠w.heap.size+1:=h45.symm;gi_wp2;refine regIn_any (by kernel_rfl) (by kernel_rfl) (fun⟨_,_,h⟩=>h) ?_;change wpAny _ _ _ _ _ _ _ (World.drew _);refine wpAny_take (i:=1) (v:=.int .i64 x1) rfl (by kernel_rfl) (by kernel_rfl) (by kernel_rfl) (fun _ _ _ h=>h) (Or.inl ⟨by rfl,fun w=>by go_simp⟩) ?_;refine wpAny_take (i:=5) (v:=.int .i64 x2) rfl (by kernel_rfl) (by kernel_rfl) (by kernel_rfl) (fun _ _ _ h=>h) (Or.inl ⟨by rfl,fun w=>by go_simp⟩) ?_
  repeat' (first
   | (refine wpAny_done (by decide +kernel) ?_ _
      exact layI_fin (g0:=g) (Wb:=W) (b4:=w.heap.size) (b5:=w.heap.size+1) (w:=w) (by repeat (first | with_reducible assumption | with_reducible apply FS.drew | with_reducible apply FS.alloc | with_reducible apply FS.set4 (h4:=Nat.le_refl _) (hne:=h45) | with_reducible apply FS.set5 (h5:=Nat.le_succ _) (hne:=h54))))
   | (refine any_step 10 rfl (by decide +kernel) (all10 ?_ ?_ ?_ ?_ ?_ ?_ ?_ ?_ ?_ ?_)
      all_goals first
       | exact nope (by decide +kernel)
       | (refine fun _=>wpOp_step (i:=3) rfl (fun K hK=>?_)
          refine step_of rfl ?_;refine FS.appA (u:=x1) (.tmp 25) (.tmp 27) 51 rfl el33 rfl rfl (by repeat (first | with_reducible assumption | with_reducible apply FS.drew | with_reducible apply FS.alloc | with_reducible apply FS.set4 (h4:=Nat.le_refl _) (hne:=h45) | with_reducible apply FS.set5 (h5:=Nat.le_succ _) (hne:=h54))) ?_ hn1 hAlt ?_
          . repeat (first | ((with_reducible refine heap_new' ?_);focus (simp;done)) | (with_reducible refine heap_drew' ?_) | (with_reducible refine heap_old' ?_) | (with_reducible refine hk _ _ ?_ ?_))
          intro gA cA WA hFA hk;go_simp;refine hK _ _ ?_
          clear hK K)
       | (refine fun _=>wpOp_step (i:=7) rfl (fun K hK=>?_)
          refine step_of rfl ?_;refine FS.appB (u:=x2) (.tmp 29) (.tmp 31) 51 rfl el33 rfl rfl (by repeat (first | with_reducible assumption | with_reducible apply FS.drew | with_reducible apply FS.alloc | with_reducible apply FS.set4 (h4:=Nat.le_refl _) (hne:=h45) | with_reducible apply FS.set5 (h5:=Nat.le_succ _) (hne:=h54))) ?_ hn1 ?_
          . repeat (first | ((with_reducible refine heap_new' ?_);focus (simp;done)) | (with_reducible refine heap_drew' ?_) | (with_reducible refine heap_old' ?_) | (with_reducible refine hk _ _ ?_ ?_))
            all_goals first | (simp;done) | exact Nat.le_succ _ | exact Nat.le_refl _ | exact Nat.le_succ_of_le (Nat.le_succ _)
          intro gB cB WB hFB;go_simp;refine hK _ _ ?_
          clear hK K)
       | (refine fun _=>wpOp_step (i:=2) rfl (fun K hK=>?_)
          refine step_of rfl ?_;go_simp;refine hK _ _ ?_
          clear hK K)
       | (refine fun _=>wpOp_step (i:=6) rfl (fun K hK=>?_)
          refine step_of rfl ?_;go_simp;refine hK _ _ ?_
          clear hK K)
       | (refine fun _=>wpOp_step rfl (fun K hK=>?_)
          refine step_of rfl ?_;refine wp_fs (g0:=g) (Wb:=W) (b4:=w.heap.size) (b5:=w.heap.size+1) (w:=w) (by repeat (first | with_reducible assumption | with_reducible apply FS.drew | with_reducible apply FS.alloc | with_reducible apply FS.set4 (h4:=Nat.le_refl _) (hne:=h45) | with_reducible apply FS.set5 (h5:=Nat.le_succ _) (hne:=h54))) (fun c4 f4 c5 f5=>?_);go_simp;refine hK _ _ ?_
          clear hK K c4 f4 c5 f5)))
 case done =>
  rintro D ys W hD rfl ⟨A,B,c,d,h4,h5,hA,hB,hap,hbl,hsz⟩ hK;have hc4:=h4.cell;have hf4:=h4.frozen;have hc5:=h5.cell;have hf5:=h5.frozen;have HA:=aq hA;have HB:=aq hB;have H4:=aq h4;have H5:=aq h5;have HBL:=aq hbl;clear h4 h5 hA hB hbl;gi_wp2;refine wpIn_wide.2 ?_;go_region;gi_wp2;have F0:FS w W w2.heap.size g w.heap.size (w.heap.size+1) _ _ A _ c _ B _ d _ W:=⟨H4.o,H5.o,HA.o,HB.o,hap,HBL.o,KeepsOthers.refl W,hBw.size,hsz,hglt,hg4,hg5,KeepG.refl _ _⟩
  have F1:=((F0.set4 (.slice A (stepsP k code).length c) (Nat.le_refl _) (Nat.succ_ne_self _)).set5 (.slice B (stepsP k code).length d) (Nat.le_succ _) (Nat.succ_ne_self _).symm).drew;have hK2:=F1.ko.same D _ hK rfl;have hI2:LayI w w2.heap.size w.heap.size (w.heap.size+1) (stepsP k code) _:=⟨A,B,c,d,F1.x4,F1.x5,F1.a,F1.b,F1.ap,F1.bl,F1.hs⟩
  refine⟨by simp,.inl ⟨_,_,rfl,run_takeDeferred hK2,?_⟩⟩;obtain⟨A',B',c',d',k4,k5,kA,kB,-,kbl,-⟩:=(layI_own w w2.heap.size w.heap.size (w.heap.size+1) w2.heap.size hBw.size).putObj (.deferred none) hI2 hD hK2 rfl;have l1:=load_box k4;have l2:=load_box k5;have e3:=stepsP_len k code;refine⟨.tuple #[.slice A' (stepsP k code).length c',.slice B' (stepsP k code).length d',.int .i64 0],?_,A',c',B',d',by rw [e3],Own.of_eq (Ownv.mono kA hBw.size) e3 rfl,Own.of_eq (Ownv.mono kB hBw.size) e3 rfl,kbl⟩;rw [results_cct rfl];simp [asAddr,l1,l2,Sem.run_pure]
 case stop =>
  rintro D c pre W _ _ h _;exact h.elim
end Go.Proofs.YthmhogdceolkdaaGreat.Tu
namespace Go.Proofs.YthmhogdceolkdaaGreat.Tu
open Tryz
open Go.RowKit
def encE(xs:List Int):Int:=if validK (xs.length:Int)=true then(if ValidB xs=true then 0 else 3) else 2
def encW(xs:List Int):List Int:=if validK (xs.length:Int)=true then(if ValidB xs=true then wordI (toB xs) else []) else []
theorem wordI_len(bs:List Bool):(wordI bs).length=3*(bs.length+4):=by
 unfold wordI;rw [List.length_map,wordB_len _ _ (mixB_len bs)]
theorem enc_all(A:Option Addr)(n c:Nat)(xs:List Int)(w:World)(h:Rd .u8 w A n c xs)(h0:∀ x ∈ xs,0<=x) :
 Calls prog 276 #[.slice A n c] w fun e w'=>∃ A' m c',e= .returned (.tuple #[.slice A' m c',.int .i64 (encE xs)])/\Own .u8 5 w' w.heap.size A' m c' (encW xs)/\Below w.heap.size w w':=by
 have hl:=h.len;by_cases hv:validK (n:Int)=true
 . by_cases hb:ValidB xs=true
   . have e1:encE xs=0:=by unfold encE;rw [hl,if_pos hv,if_pos hb]
     have e2:encW xs=wordI (toB xs):=by unfold encW;rw [hl,if_pos hv,if_pos hb]
     rw [e1,e2];have ht:=toB_ib xs h0 hb;refine(enc_any A n c (toB xs) w (by rw [ht];exact h) hv).mono ?_;rintro e w' ⟨A',c',rfl,hO,hB⟩;exact⟨A',_,c',rfl,hO,hB⟩
   . have e1:encE xs=3:=by unfold encE;rw [hl,if_pos hv,if_neg hb]
     have e2:encW xs=[]:=by unfold encW;rw [hl,if_pos hv,if_neg hb]
     rw [e1,e2];refine(enc_badbit A n c xs w h hv (by simpa using hb)).mono ?_;rintro e w' ⟨rfl,hB⟩;exact⟨none,0,0,rfl,Own.nilv _ _ _ _,hB⟩
 . have e1:encE xs=2:=by unfold encE;rw [hl,if_neg hv]
   have e2:encW xs=[]:=by unfold encW;rw [hl,if_neg hv]
   rw [e1,e2];refine(enc_badlen A n c w (by simpa using hv) (by have:=h.bd.1;omega)).mono ?_;rintro e w' ⟨rfl,hB⟩;exact⟨none,0,0,rfl,Own.nilv _ _ _ _,hB⟩
theorem szK_valid(u:Nat):validK (szK u:Int)=true:=by
 unfold validK szK;simp only [decide_eq_true_eq];left;omega
theorem szK_bd(u:Nat):40<=szK u/\szK u<=512:=by unfold szK;omega
set_option maxRecDepth 100000
def orM(k:Nat):Nat->Nat
 | 0=>0
 | i+1=>orM k i ||| (1 <<< piN k i)
theorem orM_all:(List.range 60).all (fun u=>orM (40+8*u) (40+8*u) == 2 ^ (40+8*u) - 1)=true:=by decide +kernel
theorem orM_mem(k:Nat):∀ n t,(orM k n).testBit t=true->∃ i,i<n/\piN k i=t
 | 0,t,h=>by rw [orM,Nat.zero_testBit]at h;cases h
 | n+1,t,h=>by
   rw [orM,Nat.testBit_or,Bool.or_eq_true]at h;rcases h with h | h
   . obtain⟨i,hi,e⟩:=orM_mem k n t h
     exact⟨i,by omega,e⟩
   . refine⟨n,by omega,?_⟩
     rw [Nat.one_shiftLeft,Nat.testBit_two_pow]at h;simpa using h
theorem pi_onto(u t:Nat)(h:t<szK u):∃ i,i<szK u/\piN (szK u) i=t:=by
 have hc:=List.all_eq_true.1 orM_all (u % 60) (List.mem_range.2 (Nat.mod_lt _ (by omega)));have hc:orM (szK u) (szK u)=2 ^ szK u - 1:=by simpa [szK] using hc
 exact orM_mem _ _ _ (by rw [hc,Nat.testBit_two_pow_sub_one];simpa using h)
theorem all_once:∀ (k:Nat) (l:List Nat),l.length=k->(∀ t,t<k->t ∈ l)->(∀ x ∈ l,x<k)/\∀ t,t<k->l.count t=1
 | 0,l,hl,_=>by
   obtain rfl:=List.eq_nil_of_length_eq_zero hl;exact⟨by simp,by intro t ht;omega⟩
 | k+1,l,hl,h=>by
   have hm:=h k (by omega);have hp:=List.perm_cons_erase hm;obtain⟨h1,h2⟩:=all_once k (l.erase k) (by rw [List.length_erase_of_mem hm];omega) (fun t ht=>(List.mem_erase_of_ne (by omega)).2 (h t (by omega)));refine⟨fun x hx=>?_,fun t ht=>?_⟩
   . rcases List.mem_cons.1 (hp.mem_iff.1 hx) with e | e
     . omega
     . have:=h1 x e;omega
   . rw [hp.count_eq,List.count_cons]
     by_cases e:t=k
     . subst e
       rw [if_pos (by simp),List.count_eq_zero.2 (fun hh=>by have:=h1 _ hh;omega)]
     . rw [if_neg (by simp;omega),h2 t (by omega)]
theorem perm_map{k u:Nat}(hk:k=szK u):(∀ i,i<k->piN k i<k)/\∀ t,t<k->((List.range k).map (piN k)).count t=1:=by
 subst hk
 obtain⟨h1,h2⟩:=all_once (szK u) ((List.range (szK u)).map (piN (szK u))) (by simp) (fun t ht=>by
  obtain⟨i,hi,e⟩:=pi_onto u t ht
  exact List.mem_map.2 ⟨i,List.mem_range.2 hi,e⟩)
 exact⟨fun i hi=>h1 _ (List.mem_map.2 ⟨i,List.mem_range.2 hi,rfl⟩),h2⟩
def wrd(x:List Bool):List Bool:=wordB x (mixB x)
theorem wrd_len(x:List Bool):(wrd x).length=3*(x.length+4):=wordB_len x _ (mixB_len x)
def gB(l:List Bool)(i:Nat):Bool:=l.getD i false
theorem gB_l{a b:List Bool}{i:Nat}(h:i<a.length):gB (a ++ b) i=gB a i:=by
 unfold gB;rw [List.getD_eq_getElem?_getD,List.getD_eq_getElem?_getD,List.getElem?_append_left h]
theorem gB_r{a b:List Bool}{i j:Nat}(h:i=a.length+j):gB (a ++ b) i=gB b j:=by
 subst h;unfold gB;rw [List.getD_eq_getElem?_getD,List.getD_eq_getElem?_getD,List.getElem?_append_right (by omega),show a.length+j - a.length=j by omega]
theorem gB_range(l:List Bool):(List.range l.length).map (gB l)=l:=by
 refine List.ext_getElem (by simp) fun i h1 h2=>?_;simp [gB,h2]
def T0(x m:List Bool):List Bool:=[tu (fin x) 0,tz (fin x) 1,tu (fin m) 0,tz (fin m) 1]
def T1(x m:List Bool):List Bool:=[tz (fin x) 0,tu (fin x) 2,tz (fin m) 0,tu (fin m) 2]
def T2(x m:List Bool):List Bool:=[tu (fin x) 1,tz (fin x) 2,tu (fin m) 1,tz (fin m) 2]
theorem wrd_eq(x:List Bool):wrd x=x ++ (T0 x (mixB x) ++ (parL s0 x ++ (T1 x (mixB x) ++ (parL s0 (mixB x) ++ T2 x (mixB x))))):=by
 unfold wrd wordB T0 T1 T2;simp only [List.append_assoc]
section
variable {x : List Bool} {k : Nat} (hx : x.length = k)
include hx
theorem wg0{i:Nat}(h:i<k):gB (wrd x) i=gB x i:=by rw [wrd_eq,gB_l (by omega)]
theorem wg1{i j:Nat}(h:j<4)(e:i=k+j):gB (wrd x) i=gB (T0 x (mixB x)) j:=by rw [wrd_eq,gB_r (j:=j) (by omega),gB_l (by simpa [T0] using h)]
theorem wg2{i j:Nat}(h:j<k)(e:i=k+4+j):gB (wrd x) i=gB (parL s0 x) j:=by
 rw [wrd_eq,gB_r (j:=4+j) (by omega),gB_r (j:=j) (by simp [T0]),gB_l (by rw [parL_len];omega)]
theorem wg3{i j:Nat}(h:j<4)(e:i=2*k+4+j):gB (wrd x) i=gB (T1 x (mixB x)) j:=by
 rw [wrd_eq,gB_r (j:=k+4+j) (by omega),gB_r (j:=k+j) (by simp [T0];omega),gB_r (j:=j) (by rw [parL_len];omega),gB_l (by simpa [T1] using h)]
theorem wg4{i j:Nat}(h:j<k)(e:i=2*k+8+j):gB (wrd x) i=gB (parL s0 (mixB x)) j:=by
 rw [wrd_eq,gB_r (j:=k+8+j) (by omega),gB_r (j:=k+4+j) (by simp [T0];omega),gB_r (j:=4+j) (by rw [parL_len];omega),gB_r (j:=j) (by simp [T1]),gB_l (by rw [parL_len,mixB_len];omega)]
theorem wg5{i j:Nat}(h:j<4)(e:i=3*k+8+j):gB (wrd x) i=gB (T2 x (mixB x)) j:=by
 rw [wrd_eq,gB_r (j:=2*k+8+j) (by omega),gB_r (j:=2*k+4+j) (by simp [T0];omega),gB_r (j:=k+4+j) (by rw [parL_len];omega),gB_r (j:=k+j) (by simp [T1];omega),gB_r (j:=j) (by rw [parL_len,mixB_len];omega)]
end
def inC(x:List Bool)(code:Nat):List Bool:=if code=1 then x else mixB x
theorem inC_len(x:List Bool)(code:Nat):(inC x code).length=x.length:=by unfold inC;split<;>simp [mixB_len]
def selB(W:List Bool)(L:List Int):List Bool:=L.map fun i=>gB W i.toNat
theorem selB_app(W:List Bool)(a b:List Int):selB W (a ++ b)=selB W a ++ selB W b:=List.map_append
theorem osL_gi(k code i:Nat)(hc:code=1\/code=2)(h:i<k):gi (osL k code) i=((if code=1 then i else piN k i:Nat):Int):=by
 rcases hc with rfl | rfl
 . rw [rng_gi h];rfl
 . show gi (ordL k) i=_
   rw [gi_eq _ _ (by simpa [ordL] using h)];simp [ordL]
theorem sel_sysP{x:List Bool}{k code u:Nat}(hx:x.length=k)(hk:k=szK u)(hc:code=1\/code=2):selB (wrd x) (sysP k code k)=inC x code:=by
 have e:selB (wrd x) (sysP k code k)=(List.range k).map fun i=>gB x (if code=1 then i else piN k i):=by
  unfold selB sysP;rw [List.map_map];refine List.map_congr_left fun i hi=>?_;have hi:=List.mem_range.1 hi;show gB (wrd x) (gi (osL k code) i).toNat=_;rw [osL_gi k code i hc hi,Int.toNat_natCast];refine wg0 hx ?_;split
  . exact hi
  . exact(perm_map hk).1 i hi
 rw [e];rcases hc with rfl | rfl
 . subst hx;exact gB_range x
 . subst hx;rfl
theorem sel_sys{x:List Bool}{k code u:Nat}(hx:x.length=k)(hk:k=szK u)(hc:code=1\/code=2) :
 selB (wrd x) (sysL k code)=inC x code ++ [tu (fin (inC x code)) 0,tu (fin (inC x code)) 1,tu (fin (inC x code)) 2]:=by
 rw [sysL_eq,selB_app,sel_sysP hx hk hc];congr 1;simp only [selB,List.map_cons,List.map_nil,Int.toNat_natCast];rcases hc with rfl | rfl
 . rw [show atN k 1=k from by unfold atN;omega,wg1 hx (j:=0) (by omega) (by omega),wg5 hx (j:=0) (by omega) (by omega),wg3 hx (j:=1) (by omega) (by omega)];rfl
 . rw [show atN k 2=k+2 from by unfold atN;omega,wg1 hx (j:=2) (by omega) (by omega),wg5 hx (j:=2) (by omega) (by omega),wg3 hx (j:=3) (by omega) (by omega)];rfl
theorem sel_parP{x:List Bool}{k code:Nat}(hx:x.length=k)(hc:code=1\/code=2):selB (wrd x) (parP k code k)=parL s0 (inC x code):=by
 have e:selB (wrd x) (parP k code k)=(List.range k).map (gB (parL s0 (inC x code))):=by
  unfold selB parP;rw [List.map_map];refine List.map_congr_left fun i hi=>?_;have hi:=List.mem_range.1 hi;show gB (wrd x) ((code*(k+4)+i:Nat):Int).toNat=_;rw [Int.toNat_natCast];rcases hc with rfl | rfl
  . exact wg2 hx hi (by omega)
  . exact wg4 hx hi (by omega)
 rw [e];have hl:(parL s0 (inC x code)).length=k:=by rw [parL_len,inC_len,hx]
 have:=gB_range (parL s0 (inC x code));rwa [hl]at this
theorem sel_par{x:List Bool}{k code:Nat}(hx:x.length=k)(hc:code=1\/code=2) :
 selB (wrd x) (parI k code)=parL s0 (inC x code) ++ [tz (fin (inC x code)) 0,tz (fin (inC x code)) 1,tz (fin (inC x code)) 2]:=by
 rw [parI_eq,selB_app,sel_parP hx hc];congr 1;simp only [selB,List.map_cons,List.map_nil,Int.toNat_natCast];rcases hc with rfl | rfl
 . rw [show atN k 1=k from by unfold atN;omega,wg3 hx (j:=0) (by omega) (by omega),wg1 hx (j:=1) (by omega) (by omega),wg5 hx (j:=1) (by omega) (by omega)];rfl
 . rw [show atN k 2=k+2 from by unfold atN;omega,wg3 hx (j:=2) (by omega) (by omega),wg1 hx (j:=3) (by omega) (by omega),wg5 hx (j:=3) (by omega) (by omega)];rfl
open Go.Shelf
attribute [local go_sem] Oper.semAt_some
end Go.Proofs.YthmhogdceolkdaaGreat.Tu
namespace Go.Proofs.YthmhogdceolkdaaGreat.Cr
open Tryz
open CM Go.RowKit
set_option maxRecDepth 100000
set_option maxHeartbeats 1000000
theorem cl21_any(i:Int)(A:Option Addr)(n c:Nat)(xs:List Int)(w:World)(h:Rd .u8 w A n c xs)(h0:∀ x ∈ xs,0<=x) :
 Calls prog 275 #[.int .i64 i,.slice A n c] w fun e w'=>∃ A' m c',e= .returned (.tuple #[.slice A' m c',.int .i64 (Tu.encE xs)])/\Own .u8 5 w' w.heap.size A' m c' (Tu.encW xs)/\Below w.heap.size w w':=by
 have HE:=aq (Tu.enc_all A n c xs w h h0);go_enter func275,ntmps275;go_wp2_with fail;refine HE.o.mono ?_;rintro e w1 ⟨A',m,c',rfl,hO,hB⟩;have HO:=aq hO;have HB:=aq hB;clear hO hB;go_wp2;go_ret2;exact⟨A',m,c',rfl,HO.o,HB.o⟩
def Enc0(L:List Sv):Prop:=∀ s ∈ L,(∀ x ∈ s.xs,0<=x)/\Tu.encE s.xs=0
def EwI(W:World)(C:Nat)(L0:List Sv)(out i:Value)(wr:World):Prop:=∃ (j:Nat) (A:Option Addr) (c:Nat) (L:List Sv),j<=C/\i= .int .i64 j/\out= .slice A L.length c/\L.length=j/\BL wr W.heap.size A c L/\L.map (·.xs)=(L0.take j).map (fun s=>Tu.encW s.xs)/\Below W.heap.size W wr
theorem encW_pos{xs:List Int}(h:Tu.encE xs=0):0<(Tu.encW xs).length:=by
 unfold Tu.encE at h;unfold Tu.encW;split at h
 . rename_i hv
   rw [if_pos hv];split at h
   . rename_i hb
     rw [if_pos hb,Tu.wordI_len];omega
   . cases h
 . cases h
theorem each20_any(A0:Option Addr)(C c0:Nat)(L0:List Sv)(W:World)(hL:RL W A0 C c0 L0)(he:Enc0 L0)(hC:C<=1000) :
 Calls prog 211 #[.slice A0 C c0,.func (.func 275) #[] #[]] W fun e w'=>∃ A c L,e= .returned (.tuple #[.slice A L.length c,.int .i64 0])/\BL w' W.heap.size A c L/\L.map (·.xs)=L0.map (fun s=>Tu.encW s.xs)/\Below W.heap.size W w':=by
 have hl0:=hL.len;have HE:=aq he;have HL:=aq hL;clear he;go_enter func211,ntmps211;go_wp2;go_loopw [6,13] (fun out i wr=>EwI W C L0 out i wr) (fun _ i _=>C - (intOf i).toNat)
 case atStart=>exact⟨0,none,0,[],by omega,rfl,rfl,rfl,BL.nil W _,rfl,Below.refl _ _⟩
 case round =>
  obtain⟨j,A,c,L,hj,rfl,rfl,hlen,hBL,hxs,hB⟩:=hrel;have HBL:=aq hBL;have HX:=aq hxs;have HB:=aq hB;subst hlen;by_cases hlt:L.length<C
  . have hRL:=HL.o.below hB
    obtain⟨s,hs,hc,hR⟩:=hRL.get hlt;have hix:=fun W=>Rdv.ix hRL.o el55 (j:=L.length) hlt .i64 W;have hmem:=List.mem_of_getElem? hs;have hcl:=aq (cl21_any (L.length:Int) s.A s.n s.c s.xs wr hR (HE.o s hmem).1);have HS:=aq hs;have HP:=aq (encW_pos (HE.o s hmem).2);rw [(HE.o s hmem).2]at hcl;clear hBL hxs hR hRL hs hmem hL
    go_wp2_with (first
     | (go_at_call 275;refine hcl.o.mono ?_;rintro e w1 ⟨A',n',c',rfl,hO',hB'⟩;have HO':=aq hO';have HB':=aq hB';have HBL1:=aq (HBL.o.below hB');have HZ1:=aq (Nat.le_trans HB.o.size hB'.size);clear hO' hB' hcl)
     | (at_builtin;refine list_of rfl fun K hK=>wp_app1 (w:=w1) (base:=W.heap.size) _ _ 127 rfl el55 rfl (.slice A' n' c') rfl rfl HBL1.o.o (by omega) (by omega) HZ1.o ?_;intro A2 c2 w2 hO2 hg2;have HO2:=aq hO2;have HG2:=aq hg2;clear hO2 hg2;refine hK _ _ ?_;clear hK K))
    have hn':0<n':=by have:=Rd.len (Own.rd HO'.o);have:=HP.o;omega
    have hA':A'≠none:=own_some HO'.o (q:=0) hn';have hge:=(Ownv.blk_of HO'.o hA').1;have hBL2:BL w2 W.heap.size A2 c2 (L ++ [⟨A',n',c',Tu.encW s.xs⟩]) :=
     BL.push HBL1.o (s:=⟨A',n',c',Tu.encW s.xs⟩) (Ownv.mono HO'.o HB.o.size) hA'
      (fun t ht=>by have h8:=(Ownv.blk_of (HBL.o.r t ht).1 (HBL.o.r t ht).2).2;exact Nat.ne_of_lt (Nat.lt_of_lt_of_le h8 hge)) HO2.o HG2.o
    have hob:∀ k,(Value.slice A L.length c).ownBlock=some k->W.heap.size<=k:=fun k hk=>Ownv.ob' HBL1.o.o hk;have hB1:=HB.o.trans (HB'.o.mono HB.o.size);have hB2:=hB1.grown HG2.o hB1.size hob;go_roundw
    case rel=>exact⟨L.length+1,A2,c2,L ++ [⟨A',n',c',Tu.encW s.xs⟩],by omega,by go_num,by simp,by simp,hBL2,by rw [List.map_append,HX.o,take_get HS.o,List.map_append];rfl,hB2⟩
    case measure=>simp [intOf];omega
  . have he:L.length=C:=by omega
    have HF:Hid (L.map (·.xs)=L0.map (fun s=>Tu.encW s.xs)):=aq (by rw [HX.o,List.take_of_length_le (by omega)]);clear hBL hxs;go_wp2;go_ret2;exact⟨A,c,L,rfl,HBL.o,HF.o,HB.o⟩
end Go.Proofs.YthmhogdceolkdaaGreat.Cr