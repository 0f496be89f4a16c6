/- Bundle. Conditions: none. -/
import Derived.Test.YthmhogdceolkdaaGreatBqaf
import Derived.Deep.DeepCutAuto
import Derived.Laws.BytesArg
import Derived.Deep.MidRow
import Derived.IntWalk
import Derived.StillTail
import Derived.OrdersHeld
set_option linter.unusedVariables false
set_option linter.unusedSimpArgs false
namespace Go.Proofs.YthmhogdceolkdaaGreat
open Tryz
open Go.RowKit
section
variable {P : Program} {w w' w0 : World} {A B : Option Addr} {n c m d g : Nat} {vs us : List Value} {e : TypeId}
theorem bal(h:Below w0.heap.size w0 w)(o:Obj):Below w0.heap.size w0 (w.alloc o):=h.alloc h.size o
theorem heap_new'{N:Nat}{o:Obj}(hN:N=w.heap.size):(w.alloc o).heap[N]?=some o:=by subst hN;exact heap_alloc_new _ _
theorem heap_old'{N:Nat}{o x:Obj}(h:w.heap[N]?=some x):(w.alloc o).heap[N]?=some x:=by
 rw [heap_alloc_old (h:=(Array.getElem?_eq_some_iff.1 h).1)];exact h
theorem Ownv.of_heap{cs:Array Value}{base:Nat}(h:w.heap[g]?=some (.cells cs e (0,0)))(hb:base<=g)(hm:cs.size<=maxLen):Ownv e w base (some ⟨g,0,none⟩) cs.size cs.size cs.toList :=
 ⟨by simp,.inr ⟨g,cs.size,cs,rfl,hb,h,Nat.le_refl _,hm,by simp,by rw [Nat.mul_one];exact List.take_of_length_le (by simp)⟩⟩
end
theorem heap_lt{w:World}{g:Nat}{x:Obj}(h:w.heap[g]?=some x):g<w.heap.size:=(Array.getElem?_eq_some_iff.1 h).1
structure Br where
 fr:Nat
 bt:Nat
 pr:Nat
 tt:Nat
deriving DecidableEq
def UU:Int:=-1125899906842624
theorem UU_eq:UU = -1125899906842624:=rfl
def brT:List Br:=[⟨0,0,0,0⟩,⟨0,1,1,4⟩,⟨1,0,0,4⟩,⟨1,1,1,0⟩,⟨2,0,1,5⟩,⟨2,1,0,1⟩,⟨3,0,1,1⟩,⟨3,1,0,5⟩,⟨4,0,1,2⟩,⟨4,1,0,6⟩,⟨5,0,1,6⟩,⟨5,1,0,2⟩,⟨6,0,0,7⟩,⟨6,1,1,3⟩,⟨7,0,0,3⟩,⟨7,1,1,7⟩]
structure Ob where
 s:List Int
 p:List Int
 a:List Int
def Ob.k(o:Ob):Nat:=o.a.length
def Ob.ok(o:Ob):Prop:=1<=o.a.length/\o.a.length<=6144/\o.s.length=o.a.length+3/\o.p.length=o.a.length+3/\(∀ v ∈ o.s,-127<=v/\v<=127)/\(∀ v ∈ o.p,-127<=v/\v<=127)/\(∀ v ∈ o.a,-127<=v/\v<=127)
def Ob.x(o:Ob)(i:Nat):Int:=if i<o.k then gi o.s i+gi o.a i else gi o.s i
def Ob.term(o:Ob)(i:Nat)(b:Br):Int:=o.x i*(1 - 2*(b.bt:Int))+gi o.p i*(1 - 2*(b.pr:Int))
def tailBit(s:Nat):Nat:=(s / 2+s) % 2
def Ob.allow(o:Ob)(i:Nat)(b:Br):Bool:=decide (i<o.k) || decide (b.bt=tailBit b.fr)
def Ob.fB(o:Ob)(i:Nat)(m nx:List Int)(b:Br):List Int:=if o.allow i b=true/\UU<gi m b.fr then nx.set b.tt (max (gi nx b.tt) (gi m b.fr+o.term i b)) else nx
def Ob.bB(o:Ob)(i:Nat)(m nx:List Int)(b:Br):List Int:=if o.allow i b=true/\UU<gi m b.tt then nx.set b.fr (max (gi nx b.fr) (gi m b.tt+o.term i b)) else nx
def noneL:List Int:=List.replicate 8 UU
def none0:List Int:=0 :: List.replicate 7 UU
def Ob.fwd(o:Ob)(i:Nat)(m:List Int):List Int:=brT.foldl (o.fB i m) noneL
def Ob.bwd(o:Ob)(i:Nat)(m:List Int):List Int:=brT.foldl (o.bB i m) noneL
def Ob.f(o:Ob):Nat->List Int
 | 0=>none0
 | i+1=>o.fwd i (o.f i)
def Ob.bd(o:Ob):Nat->List Int
 | 0=>none0
 | d+1=>o.bwd (o.s.length - 1 - d) (o.bd d)
def Ob.b(o:Ob)(i:Nat):List Int:=o.bd (o.s.length - i)
def Ob.vB(o:Ob)(i bit:Nat)(f b:List Int)(best:Int)(x:Br):Int:=if x.bt=bit/\UU<gi f x.fr/\UU<gi b x.tt then max best (gi f x.fr+o.term i x+gi b x.tt) else best
def Ob.val(o:Ob)(i bit:Nat)(f b:List Int):Int:=brT.foldl (o.vB i bit f b) UU
def Ob.tot(o:Ob)(i:Nat):Int:=(o.val i 0 (o.f i) (o.b (i+1)) - o.val i 1 (o.f i) (o.b (i+1))).tdiv 2
def ext(v:Int):Int:=min (max ((3*v).tdiv 4) (-127)) 127
structure Met (B:Int) (m:List Int):Prop where
 len:m.length=8
 bd:∀ j,j<8->gi m j=UU\/(-B<=gi m j/\gi m j<=B)
theorem br_bd:∀ b ∈ brT,b.fr<8/\b.bt<2/\b.pr<2/\b.tt<8:=by decide
theorem mul_sgn(x:Int)(t:Nat)(ht:t<2):x*(1 - 2*(t:Int))=x\/x*(1 - 2*(t:Int)) = -x:=by
 rcases (by omega:t=0\/t=1) with rfl | rfl
 . left;simp
 . right;simp
theorem Ob.x_bd{o:Ob}(h:o.ok)(i:Nat)(hi:i<o.s.length):-254<=o.x i/\o.x i<=254:=by
 obtain⟨h1,h2,h3,h4,h5,h6,h7⟩:=h;unfold Ob.x;have:=h5 _ (gi_mem o.s i hi);split
 . rename_i hk
   have:=h7 _ (gi_mem o.a i hk);omega
 . omega
theorem Ob.p_bd{o:Ob}(h:o.ok)(i:Nat)(hi:i<o.s.length):-127<=gi o.p i/\gi o.p i<=127:=by
 obtain⟨h1,h2,h3,h4,h5,h6,h7⟩:=h;exact h6 _ (gi_mem o.p i (by omega))
theorem Ob.term_bd{o:Ob}(h:o.ok)(i:Nat)(hi:i<o.s.length)(b:Br)(hb:b ∈ brT):-381<=o.term i b/\o.term i b<=381:=by
 have h1:=o.x_bd h i hi;have h2:=o.p_bd h i hi;obtain⟨-,b1,b2,-⟩:=br_bd b hb;unfold Ob.term;rcases mul_sgn (o.x i) b.bt b1 with e1 | e1<;>rcases mul_sgn (gi o.p i) b.pr b2 with e2 | e2<;>rw [e1,e2]<;>omega
theorem gi_noneL(j:Nat)(hj:j<8):gi noneL j=UU:=by
 rw [gi_eq _ _ (by simpa [noneL] using hj)];exact List.getElem_replicate ..
theorem noneL_met(B:Int):Met B noneL:=⟨List.length_replicate ..,fun j hj=>.inl (gi_noneL j hj)⟩
theorem gi_none0(j:Nat)(hj:j<8):gi none0 j=if j=0 then 0 else UU:=by
 rcases (by omega:j=0\/j=1\/j=2\/j=3\/j=4\/j=5\/j=6\/j=7) with rfl | rfl | rfl | rfl | rfl | rfl | rfl | rfl<;>rfl
theorem none0_met(B:Int)(hB:0<=B):Met B none0:=⟨rfl,fun j hj=>by
 rw [gi_none0 j hj];split
 . exact .inr (by omega)
 . exact .inl rfl⟩
theorem gi_set'(xs:List Int)(k:Nat)(v:Int)(j:Nat)(h:j<xs.length):gi (xs.set k v) j=if k=j then v else gi xs j:=by
 rw [gi_eq _ _ (by rw [List.length_set];exact h),List.getElem_set,gi_eq _ _ h]
theorem met_set{B:Int}{m:List Int}(h:Met B m)(j:Nat)(v:Int)(hv:-B<=v/\v<=B):Met B (m.set j v):=⟨by rw [List.length_set];exact h.len,fun q hq=>by
 rw [gi_set' _ _ _ _ (by rw [h.len];exact hq)];split
 . exact .inr hv
 . exact h.bd q hq⟩
theorem max_bd{a b B:Int}(ha:a=UU\/(-B<=a/\a<=B))(hb:-B<=b/\b<=B)(hB:B<=100000000):-B<=max a b/\max a b<=B:=by
 rw [UU_eq]at ha;omega
theorem fold_met{o:Ob}(h:o.ok)(i:Nat)(hi:i<o.s.length){B:Int}(hB:B<=50000000){m:List Int}(hm:Met B m)(g:Ob->Nat->List Int->List Int->Br->List Int)
 (hg:∀ (nx:List Int) (b:Br),b ∈ brT->Met (B+381) nx->Met (B+381) (g o i m nx b)):∀ (l:List Br) (nx:List Int),(∀ b ∈ l,b ∈ brT)->Met (B+381) nx->Met (B+381) (l.foldl (g o i m) nx)
 | [],nx,_,hn=>hn
 | b :: l,nx,hl,hn=>fold_met h i hi hB hm g hg l _ (fun c hc=>hl c (List.mem_cons_of_mem _ hc)) (hg nx b (hl b List.mem_cons_self) hn)
theorem fB_met{o:Ob}(h:o.ok)(i:Nat)(hi:i<o.s.length){B:Int}(hB:B<=50000000)(h0:0<=B){m:List Int}(hm:Met B m)(nx:List Int)(b:Br)(hb:b ∈ brT)(hn:Met (B+381) nx):Met (B+381) (o.fB i m nx b):=by
 unfold Ob.fB;split
 . rename_i hc
   obtain⟨b1,-,-,b4⟩:=br_bd b hb;have ht:=o.term_bd h i hi b hb;have h1:=hm.bd _ b1;have h2:=hn.bd _ b4;have hc2:=hc.2;refine met_set hn _ _ (max_bd h2 ?_ (by omega));rcases h1 with h1 | h1
   . omega
   . omega
 . exact hn
theorem bB_met{o:Ob}(h:o.ok)(i:Nat)(hi:i<o.s.length){B:Int}(hB:B<=50000000)(h0:0<=B){m:List Int}(hm:Met B m)(nx:List Int)(b:Br)(hb:b ∈ brT)(hn:Met (B+381) nx):Met (B+381) (o.bB i m nx b):=by
 unfold Ob.bB;split
 . rename_i hc
   obtain⟨b1,-,-,b4⟩:=br_bd b hb;have ht:=o.term_bd h i hi b hb;have h1:=hm.bd _ b4;have h2:=hn.bd _ b1;have hc2:=hc.2;refine met_set hn _ _ (max_bd h2 ?_ (by omega));rcases h1 with h1 | h1
   . omega
   . omega
 . exact hn
theorem fwd_met{o:Ob}(h:o.ok)(i:Nat)(hi:i<o.s.length){B:Int}(hB:B<=50000000)(h0:0<=B){m:List Int}(hm:Met B m)(l:List Br)(hl:∀ b ∈ l,b ∈ brT):Met (B+381) (l.foldl (o.fB i m) noneL) :=
 fold_met h i hi hB hm (fun o i m nx b=>o.fB i m nx b) (fun nx b hb hn=>fB_met h i hi hB h0 hm nx b hb hn) l noneL hl (noneL_met _)
theorem bwd_met{o:Ob}(h:o.ok)(i:Nat)(hi:i<o.s.length){B:Int}(hB:B<=50000000)(h0:0<=B){m:List Int}(hm:Met B m)(l:List Br)(hl:∀ b ∈ l,b ∈ brT):Met (B+381) (l.foldl (o.bB i m) noneL) :=
 fold_met h i hi hB hm (fun o i m nx b=>o.bB i m nx b) (fun nx b hb hn=>bB_met h i hi hB h0 hm nx b hb hn) l noneL hl (noneL_met _)
theorem Met.mono{B C:Int}{m:List Int}(h:Met B m)(hC:B<=C):Met C m:=⟨h.len,fun j hj=>(h.bd j hj).imp id (fun h=>by omega)⟩
theorem f_met{o:Ob}(h:o.ok):∀ i,i<=o.s.length->Met (381*(i:Int)) (o.f i)
 | 0,_=>none0_met _ (by simp)
 | i+1,hi=>by
   have h1:=f_met h i (by omega);have h3:=h.2.1;have h4:=h.2.2.1;have:=fwd_met h i (by omega) (B:=381*(i:Int)) (by omega) (by omega) h1 brT (fun _ hb=>hb);refine Met.mono this ?_;push_cast;omega
theorem bd_met{o:Ob}(h:o.ok):∀ d,d<=o.s.length->Met (381*(d:Int)) (o.bd d)
 | 0,_=>none0_met _ (by simp)
 | d+1,hd=>by
   have h1:=bd_met h d (by omega);have h3:=h.2.1;have h4:=h.2.2.1;have:=bwd_met h (o.s.length - 1 - d) (by omega) (B:=381*(d:Int)) (by omega) (by omega) h1 brT (fun _ hb=>hb);refine Met.mono this ?_;push_cast;omega
set_option maxRecDepth 100000
def ints8(m:List Int):List Value:=m.map (Value.int .i64)
theorem heap_lt'{w:World}{b:Nat}{o:Obj}(h:w.heap[b]?=some o):b<w.heap.size:=(Array.getElem?_eq_some_iff.1 h).1
def Blk(w:World)(b:Nat)(t:TypeId)(cs:List Value):Prop:=w.heap[b]?=some (.cells cs.toArray t (0,0))
section
variable {w w' : World} {b : Nat} {t : TypeId} {cs : List Value}
theorem Blk.lt(h:Blk w b t cs):b<w.heap.size:=heap_lt' h
theorem Blk.cell(h:Blk w b t cs){j:Nat}{v:Value}(hj:cs[j]?=some v):w.cell? ⟨b,j,none⟩=some v:=by rw [cell_of_row w b j _ _ _ h];simpa using hj
theorem Blk.icell{m:List Int}(h:Blk w b t (ints8 m)){j:Nat}(hj:j<m.length):w.cell? ⟨b,j,none⟩=some (.int .i64 (gi m j)):=h.cell (by simp [ints8,gi,List.getD,hj])
theorem Blk.frozen(h:Blk w b t cs)(j:Nat):w.frozen? ⟨b,j,none⟩=false:=frozen_of_row w b j _ _ h
theorem Blk.below(h:Blk w b t cs)(hB:Below w.heap.size w w'):Blk w' b t cs:=(hB.block b h.lt).trans h
theorem Blk.alloc(h:Blk w b t cs)(o:Obj):Blk (w.alloc o) b t cs:=(heap_alloc_old (h:=h.lt) ..).trans h
theorem Blk.drew(h:Blk w b t cs):Blk w.drew b t cs:=h
theorem Blk.new(w:World)(cs:List Value)(t:TypeId){N:Nat}(hN:N=w.heap.size):Blk (w.alloc (.cells cs.toArray t)) N t cs:=by subst hN;exact heap_alloc_new _ _
theorem Blk.set(h:Blk w b t cs)(j:Nat)(v:Value):Blk (w.setCell ⟨b,j,none⟩ v) b t (cs.set j v):=by
 have h':w.heap[b]?=some (.cells cs.toArray t (0,0)):=h;obtain⟨hlt,hk⟩:=Array.getElem?_eq_some_iff.1 h';show(w.heap.modify b _)[b]?=_;rw [Array.getElem?_modify,if_pos rfl,h'];simp
theorem Blk.other(h:Blk w b t cs){g:Nat}(hg:g≠b)(j:Nat)(v:Value):Blk (w.setCell ⟨g,j,none⟩ v) b t cs:=by
 show(w.heap.modify g _)[b]?=_;rw [Array.getElem?_modify,if_neg hg];exact h
theorem grownBy_set(w:World)(b j:Nat)(v:Value):w.grownBy (w.setCell ⟨b,j,none⟩ v) (some b) :=
 ⟨rfl,rfl,rfl,by show w.heap.size<=(w.heap.modify b _).size;rw [Array.size_modify];exact Nat.le_refl _,fun k _ hk=>by
   show(w.heap.modify b _)[k]?=_;rw [Array.getElem?_modify,if_neg (fun e=>hk (by rw [e]))]⟩
end
theorem info66:(prog.info? 346).map (·.size)=some 8:=by kernel_rfl
theorem res66{W:World}{b:Nat}{m:List Int}(h:Blk W b 346 (ints8 m))(hl:m.length=8):(loadVar 346 ⟨b,0,none⟩).run prog W= .ok (.agg (ints8 m).toArray) W :=
 run_loadVar_row (P:=prog) W b 346 346 _ (0,0) _ h underlying346 rfl (by rw [info66];simp [ints8,hl])
theorem Blk.setAllAux{b:Nat}{t:TypeId}(suf:List Value):∀ (cs old pre:List Value) (W:World),Blk W b t (pre ++ old ++ suf)->old.length=cs.length->Blk (W.setCells b pre.length cs) b t (pre ++ cs ++ suf)
 | [],old,pre,W,h,hl=>by
   obtain rfl:=List.eq_nil_of_length_eq_zero hl;exact h
 | c :: cs,o :: old,pre,W,h,hl=>by
   have h1:=h.set pre.length c;have e:(pre ++ o :: old ++ suf).set pre.length c=(pre ++ [c]) ++ old ++ suf:=by simp
   rw [e]at h1;have h2:=Blk.setAllAux suf cs old (pre ++ [c]) _ h1 (by simpa using hl);rw [List.length_append,List.append_assoc pre [c] cs]at h2;exact h2
theorem Blk.setAll{W:World}{b:Nat}{t:TypeId}{cs old:List Value}(h:Blk W b t old)(hl:old.length=cs.length):Blk (W.setCells b 0 cs) b t cs:=by
 have:=Blk.setAllAux [] cs old [] W (by simpa using h) hl;simpa using this
theorem grownBy_setCells(b:Nat):∀ (cs:List Value) (o:Nat) (W:World),W.grownBy (W.setCells b o cs) (some b)
 | [],_,W=>World.grownBy.refl _ _
 | c :: cs,o,W=>by
   have h1:=grownBy_set W b o c;have h2:=grownBy_setCells b cs (o+1) (W.setCell ⟨b,o,none⟩ c);exact⟨h2.os.trans h1.os,h2.tape.trans h1.tape,h2.output.trans h1.output,Nat.le_trans h1.size h2.size,fun k hk hne=>(h2.block k (Nat.lt_of_lt_of_le hk h1.size) hne).trans (h1.block k hk hne)⟩
section
variable {ops : Array Oper} {rest : List Oper} {op : Oper} {a : Act} {w : World} {Q : Exit -> Act -> World -> Prop} {K : Act -> World -> Prop} {b : Nat} {t : TypeId} {cs old : List Value}
theorem wp_ldrow(ty:TypeId)(x:Operand)(ho:op.op= .load ty x)(hx:a.eval x= .pointer (some ⟨b,0,none⟩))(hB:Blk w b t cs)(d:TypeDesc)(hu:prog.underlying ty=some d)(hd:d.isRow=true)(hi:(prog.info? ty).map (·.size)=some cs.length)
 (h:K (a.put op.dst (.agg cs.toArray)) w):op.wp prog a w K Q :=
 wp_load_mid ty x ho b 0 hx cs d (fun j v hj=>by rw [Nat.zero_add];exact hB.cell hj) hu hd hi h
theorem ldrow(hgd:op.guard=none)(ty:TypeId)(x:Operand)(ho:op.op= .load ty x)(hx:a.eval x= .pointer (some ⟨b,0,none⟩))(hB:Blk w b t cs)(d:TypeDesc)(hu:prog.underlying ty=some d)(hd:d.isRow=true)(hi:(prog.info? ty).map (·.size)=some cs.length)
 (h:wpList prog ops Q rest (a.put op.dst (.agg cs.toArray)) w):wpList prog ops Q (op :: rest) a w :=
 wpList_plain hgd fun _ hK=>wp_ldrow ty x ho hx hB d hu hd hi (hK _ _ h)
theorem wp_strow(ty:TypeId)(x y:Operand)(ho:op.op= .store ty x y)(hx:a.eval x= .pointer (some ⟨b,0,none⟩))(hy:a.eval y= .agg cs.toArray)(hB:Blk w b t old)(hl:old.length=cs.length)(hi:(prog.info? ty).map (·.size)=some cs.length)(h1:∀ v ∈ cs,v.oneCell'=true)
 (h:∀ W',Blk W' b t cs->w.grownBy W' (some b)->K (a.put op.dst undef) W'):op.wp prog a w K Q :=
 wp_store_mid ty x y ho b 0 cs.toArray hx hy (fun j hj=>⟨by
  rw [Nat.zero_add,hB.cell (List.getElem?_eq_getElem (by rw [hl];simpa using hj))];rfl,by rw [Nat.zero_add];exact hB.frozen j⟩) (by simpa using hi) (all_oneCell_toArray h1) (h _ (by simpa using hB.setAll hl) (by simpa using grownBy_setCells b cs 0 w))
theorem strow(hgd:op.guard=none)(ty:TypeId)(x y:Operand)(ho:op.op= .store ty x y)(hx:a.eval x= .pointer (some ⟨b,0,none⟩))(hy:a.eval y= .agg cs.toArray)(hB:Blk w b t old)(hl:old.length=cs.length)(hi:(prog.info? ty).map (·.size)=some cs.length)(h1:∀ v ∈ cs,v.oneCell'=true)
 (h:∀ W',Blk W' b t cs->w.grownBy W' (some b)->wpList prog ops Q rest (a.put op.dst undef) W'):wpList prog ops Q (op :: rest) a w :=
 wpList_plain hgd fun _ hK=>wp_strow ty x y ho hx hy hB hl hi h1 fun W' h2 h3=>hK _ _ (h W' h2 h3)
end
section
variable {ops : Array Oper} {rest : List Oper} {op : Oper} {a : Act} {w : World} {Q : Exit -> Act -> World -> Prop} {K : Act -> World -> Prop} {b : Nat} {t : TypeId} {cs old pre suf : List Value}
theorem wp_stmid(ty:TypeId)(x y:Operand)(ho:op.op= .store ty x y){n:Nat}(hx:a.eval x= .pointer (some ⟨b,n,none⟩))(hn:n=pre.length)(hy:a.eval y= .agg cs.toArray)(hB:Blk w b t (pre ++ old ++ suf))(hl:old.length=cs.length)(hi:(prog.info? ty).map (·.size)=some cs.length)(h1:∀ v ∈ cs,v.oneCell'=true)
 (h:∀ W',Blk W' b t (pre ++ cs ++ suf)->w.grownBy W' (some b)->K (a.put op.dst undef) W'):op.wp prog a w K Q:=by
 subst hn;refine wp_store_mid ty x y ho b pre.length cs.toArray hx hy (fun j hj=>⟨?_,hB.frozen _⟩) (by simpa using hi) (all_oneCell_toArray h1) (h _ (by simpa using Blk.setAllAux suf cs old pre w hB hl) (by simpa using grownBy_setCells b cs pre.length w));have hj':j<old.length:=by rw [hl];simpa using hj
 rw [hB.cell (j:=pre.length+j) (v:=old[j]) (by rw [List.append_assoc,List.getElem?_append_right (by omega),Nat.add_sub_cancel_left,List.getElem?_append_left hj',List.getElem?_eq_getElem hj'])];rfl
theorem stmid(hgd:op.guard=none)(ty:TypeId)(x y:Operand)(ho:op.op= .store ty x y){n:Nat}(hx:a.eval x= .pointer (some ⟨b,n,none⟩))(hn:n=pre.length)(hy:a.eval y= .agg cs.toArray)(hB:Blk w b t (pre ++ old ++ suf))(hl:old.length=cs.length)(hi:(prog.info? ty).map (·.size)=some cs.length)(h1:∀ v ∈ cs,v.oneCell'=true)
 (h:∀ W',Blk W' b t (pre ++ cs ++ suf)->w.grownBy W' (some b)->wpList prog ops Q rest (a.put op.dst undef) W'):wpList prog ops Q (op :: rest) a w :=
 wpList_plain hgd fun _ hK=>wp_stmid ty x y ho hx hn hy hB hl hi h1 fun W' h2 h3=>hK _ _ (h W' h2 h3)
end
theorem ints8_one(m:List Int):∀ v ∈ ints8 m,v.oneCell'=true:=oneCell_ints .i64 m
theorem i66{m:List Int}(h:m.length=8):(prog.info? 346).map (·.size)=some (ints8 m).length:=by rw [info66];simp [ints8,h]
def NoneInv(w:World)(i:Value)(wr:World):Prop:=∃ j:Nat,j<=8/\i= .int .i64 j/\Blk wr w.heap.size 346 (ints8 (List.replicate j UU ++ List.replicate (8 - j) 0))/\Below w.heap.size w wr
theorem none_init:ints8 (List.replicate 0 UU ++ List.replicate (8 - 0) 0)=[.int .i64 0,.int .i64 0,.int .i64 0,.int .i64 0,.int .i64 0,.int .i64 0,.int .i64 0,.int .i64 0]:=rfl
theorem none_step(j:Nat)(hj:j<8):(ints8 (List.replicate j UU ++ List.replicate (8 - j) 0)).set j (.int .i64 UU)=ints8 (List.replicate (j+1) UU ++ List.replicate (8 - (j+1)) 0):=by
 rcases (by omega:j=0\/j=1\/j=2\/j=3\/j=4\/j=5\/j=6\/j=7) with rfl | rfl | rfl | rfl | rfl | rfl | rfl | rfl<;>rfl
theorem none_any(w:World):Calls prog 298 #[] w fun e w'=>e= .returned (.agg (ints8 none0).toArray)/\Below w.heap.size w w':=by
 go_enter func298,ntmps298;go_wp2;go_loopw [2] (fun i wr=>NoneInv w i wr) (fun i _=>8 - (intOf i).toNat)
 case atStart=>exact⟨0,by omega,rfl,by rw [none_init];exact Blk.new w _ 346 rfl,(Below.refl _ w).alloc (Nat.le_refl _) _⟩
 case round =>
  obtain⟨j,hj,rfl,hb,hB⟩:=hrel;by_cases hlt:j<8
  . have hc:=hb.icell (j:=j) (by simp;omega)
    have hf:=hb.frozen j;have HS:=aq (hb.set j (.int .i64 UU));have HB:=aq hB;have HST:=aq (none_step j hlt);clear hb hB;go_wp2;go_roundw
    case rel=>exact⟨j+1,by omega,by go_num,by rw [<- HST.o];exact HS.o,HB.o.setCell (Nat.le_refl _) _⟩
    case measure=>simp [intOf];omega
  . obtain rfl:j=8:=by omega
    have hc:=hb.icell (j:=0) (by simp);have hf:=hb.frozen 0;have hS:=hb.set 0 (.int .i64 0);have hq:Below w.heap.size w (wr.setCell ⟨w.heap.size,0,none⟩ (.int .i64 0)):=hB.setCell (Nat.le_refl _) _;have hS':Blk (wr.setCell ⟨w.heap.size,0,none⟩ (.int .i64 0)) w.heap.size 346 (ints8 none0):=hS;have HQ:=aq hq;clear hS hb hB hq;go_wp2_with (first
     | (refine ldrow rfl 346 (.tmp 0) rfl rfl hS' _ underlying346 rfl (i66 rfl) ?_)
     | (refine strow rfl 346 (.tmp 0) (.tmp 9) rfl rfl rfl hS' rfl (i66 rfl) (ints8_one _) ?_;intro W' h1 h2;have H1:=aq h1;have H2:=aq h2;clear h1 h2 hS'))
    refine bodyPost_ret (v:=.agg (ints8 none0).toArray) ?_ rfl ⟨rfl,HQ.o.grown H2.o HQ.o.size (fun k hk=>by cases hk;exact Nat.le_refl _)⟩;rw [results_c rfl];have l1:=res66 H1.o rfl;simp [Act.put,asAddr,l1,Sem.run_pure]
structure ObsAt (W:World) (bo:Nat) (o:Ob) (S P A:Option Addr) (cs cp ca:Nat):Prop where
 blk:Blk W bo 380 [.slice S o.s.length cs,.slice P o.p.length cp,.slice A o.a.length ca]
 s:Rd .i64 W S o.s.length cs o.s
 p:Rd .i64 W P o.p.length cp o.p
 a:Rd .i64 W A o.a.length ca o.a
section
variable {W W' : World} {bo : Nat} {o : Ob} {S P A : Option Addr} {cs cp ca : Nat}
theorem ObsAt.below(h:ObsAt W bo o S P A cs cp ca)(hB:Below W.heap.size W W'):ObsAt W' bo o S P A cs cp ca:=⟨h.blk.below hB,Rdv.below h.s hB,Rdv.below h.p hB,Rdv.below h.a hB⟩
theorem ObsAt.alloc(h:ObsAt W bo o S P A cs cp ca)(ob:Obj):ObsAt (W.alloc ob) bo o S P A cs cp ca:=⟨h.blk.alloc ob,Rdv.alloc h.s ob,Rdv.alloc h.p ob,Rdv.alloc h.a ob⟩
theorem ObsAt.c0(h:ObsAt W bo o S P A cs cp ca):W.cell? ⟨bo,0,none⟩=some (.slice S o.s.length cs):=h.blk.cell rfl
theorem ObsAt.c1(h:ObsAt W bo o S P A cs cp ca):W.cell? ⟨bo,1,none⟩=some (.slice P o.p.length cp):=h.blk.cell rfl
theorem ObsAt.c2(h:ObsAt W bo o S P A cs cp ca):W.cell? ⟨bo,2,none⟩=some (.slice A o.a.length ca):=h.blk.cell rfl
end
theorem steps_any(bo:Nat)(o:Ob)(S P A:Option Addr)(cs cp ca:Nat)(w:World)(h:ObsAt w bo o S P A cs cp ca) :
 Calls prog 299 #[.pointer (some ⟨bo,0,none⟩)] w fun e w'=>e= .returned (.int .i64 (o.s.length:Int))/\w=w':=by
 have hc:=h.c0;have hb:=(Rdv.bd h.s).1;clear h;go_enter func299,ntmps299;go_wp2;go_ret;exact⟨rfl,rfl⟩
def brV(b:Br):List Value:=ints8 [(b.fr:Int),(b.bt:Int),(b.pr:Int),(b.tt:Int)]
def brA(b:Br):Value:=.agg #[.int .i64 (b.fr:Int),.int .i64 (b.bt:Int),.int .i64 (b.pr:Int),.int .i64 (b.tt:Int)]
theorem tail_bits(n:Nat)(h:n<8):bits .xor .i64 (bits .and .i64 ((n:Int) / 2) 1) (bits .and .i64 (n:Int) 1)=((tailBit n:Nat):Int):=by
 rcases (by omega:n=0\/n=1\/n=2\/n=3\/n=4\/n=5\/n=6\/n=7) with rfl | rfl | rfl | rfl | rfl | rfl | rfl | rfl<;>decide
theorem allows_any(bo:Nat)(o:Ob)(S P A:Option Addr)(cs cp ca i:Nat)(b:Br)(w:World)(h:ObsAt w bo o S P A cs cp ca)(hb:b ∈ brT) :
 Calls prog 334 #[.pointer (some ⟨bo,0,none⟩),.int .i64 (i:Int),brA b] w fun e w'=>e= .returned (.bool (o.allow i b))/\Below w.heap.size w w':=by
 have hc:=(h.alloc (.cells #[.int .i64 (b.fr:Int),.int .i64 (b.bt:Int),.int .i64 (b.pr:Int),.int .i64 (b.tt:Int)] 318)).c2;have hbd:=(Rdv.bd h.a).1;obtain⟨b1,b2,b3,b4⟩:=br_bd b hb;have HT:=aq (tail_bits b.fr b1);unfold brA;unfold Ob.allow;by_cases hk:i<o.k
 . have hd:decide ((i:Int)<(o.a.length:Int))=true:=by simp;exact hk
   rw [show decide (i<o.k)=true from by simpa using hk,Bool.true_or];unfold Ob.k at hk;clear h hb;go_enter func334,ntmps334;go_wp2;go_ret;exact⟨rfl,(Below.refl _ w).alloc (Nat.le_refl _) _⟩
 . have hd:decide ((i:Int)<(o.a.length:Int))=false:=by
    have hk':¬ i<o.a.length:=hk;simp;omega
   rw [show decide (i<o.k)=false from by simpa using hk,Bool.false_or]
   unfold Ob.k at hk
   clear h hb
   go_enter func334,ntmps334
   go_wp2
   go_ret
   refine⟨ret_bool ?_,(Below.refl _ w).alloc (Nat.le_refl _) _⟩
   rw [HT.o]
   by_cases e:b.bt=tailBit b.fr
   . rw [beq_t (by omega)];simp [e]
   . rw [beq_f (by omega)];simp [e]
theorem sgn_bd(x B:Int)(t:Nat)(ht:t<2)(hB:-B<=x/\x<=B):-B<=x*(1 - 2*(t:Int))/\x*(1 - 2*(t:Int))<=B:=by
 rcases mul_sgn x t ht with e | e<;>rw [e]<;>omega
theorem term_any(bo:Nat)(o:Ob)(S P A:Option Addr)(cs cp ca i:Nat)(b:Br)(w:World)(h:ObsAt w bo o S P A cs cp ca)(hb:b ∈ brT)(ho:o.ok)(hi:i<o.s.length) :
 Calls prog 335 #[.pointer (some ⟨bo,0,none⟩),.int .i64 (i:Int),brA b] w fun e w'=>e= .returned (.int .i64 (o.term i b))/\Below w.heap.size w w':=by
 have h':=h.alloc (.cells #[.int .i64 (b.fr:Int),.int .i64 (b.bt:Int),.int .i64 (b.pr:Int),.int .i64 (b.tt:Int)] 318);have hc0:=h'.c0;have hc1:=h'.c1;have hc2:=h'.c2;have hbd:=(Rdv.bd h.s).1;obtain⟨b1,b2,b3,b4⟩:=br_bd b hb;have hx:=o.x_bd ho i hi;have hp:=o.p_bd ho i hi;have hpl:i<o.p.length:=by have:=ho.2.2.1;have:=ho.2.2.2.1;omega
 have hixS:=fun W=>Rdv.ix h.s el22 hi .i64 W;have hixP:=fun W=>Rdv.ix h.p el22 hpl .i64 W;have hcS:=Rd.cell h'.s hi;have hcP:=Rd.cell h'.p hpl;have q1:=sgn_bd (o.x i) 254 b.bt b2 hx;have q2:=sgn_bd (gi o.p i) 127 b.pr b3 hp;have hsv:-127<=gi o.s i/\gi o.s i<=127:=ho.2.2.2.2.1 _ (gi_mem o.s i hi);have w1:IntKind.i64.wrap (2*(b.bt:Int))=2*(b.bt:Int):=IntWalk.i64_in _ (by omega);have w2:IntKind.i64.wrap (1 - 2*(b.bt:Int))=1 - 2*(b.bt:Int):=IntWalk.i64_in _ (by omega);have w3:IntKind.i64.wrap (2*(b.pr:Int))=2*(b.pr:Int):=IntWalk.i64_in _ (by omega);have w4:IntKind.i64.wrap (1 - 2*(b.pr:Int))=1 - 2*(b.pr:Int):=IntWalk.i64_in _ (by omega);have w6:IntKind.i64.wrap (gi o.p i*(1 - 2*(b.pr:Int)))=gi o.p i*(1 - 2*(b.pr:Int)):=IntWalk.i64_in _ (by omega);unfold brA;unfold Ob.term;by_cases hk:i<o.k
 . have hd:decide ((i:Int)<(o.a.length:Int))=true:=by simp;exact hk
   have hka:i<o.a.length:=hk;have hixA:=fun W=>Rdv.ix h.a el22 hka .i64 W;have hcA:=Rd.cell h'.a hka;have hav:-127<=gi o.a i/\gi o.a i<=127:=ho.2.2.2.2.2.2 _ (gi_mem o.a i hka);have ex:o.x i=gi o.s i+gi o.a i:=by unfold Ob.x;rw [if_pos hk]
   rw [ex]at q1 hx ⊢;have w5:IntKind.i64.wrap ((gi o.s i+gi o.a i)*(1 - 2*(b.bt:Int)))=(gi o.s i+gi o.a i)*(1 - 2*(b.bt:Int)):=IntWalk.i64_in _ (by omega);have w7:IntKind.i64.wrap ((gi o.s i+gi o.a i)*(1 - 2*(b.bt:Int))+gi o.p i*(1 - 2*(b.pr:Int)))=(gi o.s i+gi o.a i)*(1 - 2*(b.bt:Int))+gi o.p i*(1 - 2*(b.pr:Int)):=IntWalk.i64_in _ (by omega);clear h h' hb ho ex;generalize gi o.s i=sv at *;generalize gi o.a i=av at *;generalize gi o.p i=pv at *;go_enter func335,ntmps335;go_wp2;go_quiet (fail);go_wp2;go_ret;exact⟨rfl,((Below.refl _ w).alloc (Nat.le_refl _) _).trans (Qt.below ⟨_,rfl⟩ _)⟩
 . have hd:decide ((i:Int)<(o.a.length:Int))=false:=by
    have hk':¬ i<o.a.length:=hk;simp;omega
   have ex:o.x i=gi o.s i:=by unfold Ob.x;rw [if_neg hk]
   rw [ex]at q1 hx ⊢
   have w5:IntKind.i64.wrap (gi o.s i*(1 - 2*(b.bt:Int)))=gi o.s i*(1 - 2*(b.bt:Int)):=IntWalk.i64_in _ (by omega)
   have w7:IntKind.i64.wrap (gi o.s i*(1 - 2*(b.bt:Int))+gi o.p i*(1 - 2*(b.pr:Int)))=gi o.s i*(1 - 2*(b.bt:Int))+gi o.p i*(1 - 2*(b.pr:Int)):=IntWalk.i64_in _ (by omega)
   clear h h' hb ho ex
   generalize gi o.s i=sv at *
   generalize gi o.p i=pv at *
   go_enter func335,ntmps335
   go_wp2
   go_quiet (fail)
   go_wp2
   go_ret
   exact⟨rfl,((Below.refl _ w).alloc (Nat.le_refl _) _).trans (Qt.below ⟨_,rfl⟩ _)⟩
set_option maxHeartbeats 1000000
def brAll:List Value:=brT.flatMap brV
theorem info111:(prog.info? 399).map (·.size)=some 64:=by kernel_rfl
theorem info77:(prog.info? 318).map (·.size)=some 4:=by kernel_rfl
def tabC(j:Nat):List Value:=(brT.take j).flatMap brV
theorem tabC_len:∀ j,j<=16->(tabC j).length=4*j:=by decide
theorem tabC_succ(j:Nat)(hj:j<brT.length):tabC (j+1)=tabC j ++ brV brT[j]:=by
 unfold tabC;rw [List.take_succ_eq_append_getElem hj,List.flatMap_append];simp
def zer(n:Nat):List Value:=List.replicate n (.int .i64 0)
theorem zer_split(j:Nat)(hj:j<16):zer (64 - 4*j)=zer 4 ++ zer (64 - 4*(j+1)):=by
 unfold zer;rw [List.replicate_append_replicate];congr 1;omega
theorem tab_j(j:Nat)(hj:j<brT.length):∃ a b c x:Bool,(j:Int) / 2=stI a b c/\(j:Int) % 2=ib x/\brV brT[j]=ints8 [stI a b c,ib x,ib (x ^^ b ^^ c ^^ a ^^ c),stI (x ^^ b ^^ c) a b]:=by
 refine⟨decide (j / 8 % 2=1),decide (j / 4 % 2=1),decide (j / 2 % 2=1),decide (j % 2=1),?_⟩;have hj':j<16:=hj;rcases (by omega:j=0\/j=1\/j=2\/j=3\/j=4\/j=5\/j=6\/j=7\/j=8\/j=9\/j=10\/j=11\/j=12\/j=13\/j=14\/j=15) with rfl | rfl | rfl | rfl | rfl | rfl | rfl | rfl | rfl | rfl | rfl | rfl | rfl | rfl | rfl | rfl<;>exact⟨by decide,by decide,rfl⟩
def TabInv(w:World)(i:Value)(wr:World):Prop:=∃ j:Nat,j<=16/\i= .int .i64 j/\Blk wr w.heap.size 399 (tabC j ++ zer (64 - 4*j))/\Below w.heap.size w wr
theorem brV_one(b:Br):∀ v ∈ brV b,v.oneCell'=true:=ints8_one _
theorem brAll_one:∀ v ∈ brAll,v.oneCell'=true:=by
 intro v hv;obtain⟨b,-,h⟩:=List.mem_flatMap.1 hv;exact brV_one b v h
theorem table_any(w:World):Calls prog 351 #[] w fun e w'=>e= .returned (.agg brAll.toArray)/\Below w.heap.size w w':=by
 go_enter func351,ntmps351;go_wp2;go_loopw [4] (fun i wr=>TabInv w i wr) (fun i _=>16 - (intOf i).toNat)
 case atStart=>exact⟨0,by omega,rfl,Blk.new w (zer 64) 399 rfl,(Below.refl _ w).alloc (Nat.le_refl _) _⟩
 case round =>
  obtain⟨j,hj,rfl,hb,hB⟩:=hrel;by_cases hlt:j<16
  . obtain⟨a,b,c,x,e1,e2,e3⟩:=tab_j j hlt
    have HT:=aq (tabC_succ j hlt);rw [zer_split j hlt,<- List.append_assoc]at hb;have HL:=aq (tabC_len j hj);have HE:=aq e3;have HBK:=aq hb;have HB:=aq hB;clear e3 hb hB;go_wp2_with fail;refine(regat_any a b c _).mono ?_;rintro e w1 ⟨rfl,hB1⟩;have HBK:=aq (HBK.o.below hB1);have HB:=aq (HB.o.trans (hB1.mono HB.o.size));clear hB1;go_wp2_with fail;have hst:=fun W=>step_any a b c x W;generalize (x ^^ b ^^ c ^^ a ^^ c)=z at *;generalize (x ^^ b ^^ c)=y at *;have HST:=aq hst;clear hst;refine(HST.o _).mono ?_;rintro e w2 ⟨rfl,hB2⟩;have HBK:=aq (HBK.o.below hB2);have HB:=aq (HB.o.trans (hB2.mono HB.o.size));clear hB2 HST;unfold regV;go_wp2_with fail;refine(state_any y a b _).mono ?_;rintro e w3 ⟨rfl,hB3⟩;have HBK:Hid (Blk w3 w.heap.size 399 (tabC j ++ zer 4 ++ zer (64 - 4*(j+1)))):=aq ((HBK.o.alloc _).below hB3);have HB:=aq ((HB.o.alloc HB.o.size (.cells #[.int .i64 (ib y),.int .i64 (ib a),.int .i64 (ib b)] 402)).trans (hB3.mono (by have:=HB.o.size;simp;omega)));clear hB3;have hbk:=HBK.o;have hlen:=HL.o;go_wp2_with (refine stmid rfl 318 (.tmp 25) (.tmp 24) rfl rfl (by omega) rfl hbk rfl (by rw [info77];rfl) (ints8_one [stI a b c,ib x,ib z,stI y a b]) ?_;intro W' h1 h2;have H1:=aq h1;have H2:=aq h2;clear h1 h2 hbk);go_roundw
    case rel=>exact⟨j+1,by omega,by go_num,by rw [HT.o,HE.o];exact H1.o,HB.o.grown H2.o HB.o.size (fun k hk=>by cases hk;exact Nat.le_refl _)⟩
    case measure=>simp [intOf];omega
  . obtain rfl:j=16:=by omega
    have hb':Blk wr w.heap.size 399 brAll:=by rw [show tabC 16 ++ zer (64 - 4*16)=brAll from rfl]at hb;exact hb
    have HQ:=aq hB;clear hb hB;go_wp2_with (first
     | (refine ldrow rfl 399 (.tmp 0) rfl rfl hb' _ underlying399 rfl (by rw [info111];rfl) ?_)
     | (refine strow rfl 399 (.tmp 0) (.tmp 27) rfl rfl rfl hb' rfl (by rw [info111];rfl) brAll_one ?_;intro W' h1 h2;have H1:=aq h1;have H2:=aq h2;clear h1 h2 hb'))
    refine bodyPost_ret (v:=.agg brAll.toArray) ?_ rfl ⟨rfl,HQ.o.grown H2.o HQ.o.size (fun k hk=>by cases hk;exact Nat.le_refl _)⟩;rw [results_c rfl];have l1:(loadVar 399 ⟨w.heap.size,0,none⟩).run prog W'= .ok (.agg brAll.toArray) W':=run_loadVar_row (P:=prog) W' _ 399 399 _ (0,0) _ H1.o underlying399 rfl (by rw [info111];rfl);simp [Act.put,asAddr,l1,Sem.run_pure]
theorem branches_any(w:World):Calls prog 333 #[] w fun e w'=>∃ bb,e= .returned (.slice (some ⟨bb,0,none⟩) 16 16)/\Blk w' bb 399 brAll/\w.heap.size<=bb/\Below w.heap.size w w':=by
 go_enter func333,ntmps333;go_wp2_with fail;refine(table_any _).mono ?_;rintro e w1 ⟨rfl,hB1⟩;have hb:Blk (w1.alloc (.cells (zer 64).toArray 399)) w1.heap.size 399 (zer 64):=Blk.new w1 (zer 64) 399 rfl;have hB:Below w.heap.size w (w1.alloc (.cells (zer 64).toArray 399)):=hB1.alloc hB1.size _;have HS:=aq hB1.size;have HQ:=aq hB;clear hB hB1;go_wp2_with (refine strow rfl 399 (.tmp 1) (.tmp 2) rfl rfl rfl hb rfl (by rw [info111];rfl) brAll_one ?_;intro W' h1 h2;have H1:=aq h1;have H2:=aq h2;clear h1 h2 hb);go_ret;exact⟨_,rfl,H1.o,HS.o,HQ.o.grown H2.o HQ.o.size (fun k hk=>by cases hk;exact HS.o)⟩
section
variable {P : Program} {ops : Array Oper} {Q : Exit -> Act -> World -> Prop} {md : Region.Mode} {S : World -> Prop} {z : Nat}
def wpAnyZ(P:Program)(md:Region.Mode)(ops:Array Oper)(Q:Exit->Act->World->Prop)(S:World->Prop)(z:Nat):Nat->Array Bool->Act->World->Prop
 | 0,listed,a,w=>Region.ready md ops listed=[]/\Q .normal a w
 | fuel+1,listed,a,w=>(Region.ready md ops listed=[]->Q .normal a w) /\
   ∀ i ∈ Region.ready md ops listed,wpOp P ops Q i (fun a' w'=>(i≠z->S w')/\wpAnyZ P md ops Q S z fuel (listed.setIfInBounds i true) a' w') a w
theorem wpAny_of_Z:∀ (fuel:Nat) (listed:Array Bool) (a:Act) (w:World),wpAnyZ P md ops Q S z fuel listed a w->wpAny P md ops Q fuel listed a w
 | 0,_,_,_,h=>h
 | fuel+1,_,_,_,h=>⟨h.1,fun i hi=>wpOp_mono (fun a' w' h'=>wpAny_of_Z fuel _ a' w' h'.2) (h.2 i hi)⟩
theorem not_ready_of_waits{i:Nat}{listed:Array Bool}(hw:Region.waitsFor md ops z i=true)(hun:listed.getD i true=false):z ∉ Region.ready md ops listed:=by
 intro hr;obtain⟨oj,hoj,e,he,hb,hon⟩:=Region.waitsFor_spec hw;obtain⟨_,o',ho',hall⟩:=mem_ready.1 hr;have:oj=o':=Option.some.inj (hoj.symm.trans ho');subst this;have h2:=hall e he hb;rw [hon,getD_both hun]at h2;cases h2
theorem wpAnyZ_first{i:Nat}{oi:Oper}{v:Value}(hi:ops[i]?=some oi)(hsel:∀ (j:Nat) (o:Oper) cs b,ops[j]?=some o->o.op≠.select cs b)
 (hQ:∀ c a w,Q (.panic c) (a.put oi.dst v) w->Q (.panic c) a w) (hz:Region.waitsFor md ops z i=true) :
 ∀ (fuel:Nat) (listed:Array Bool) (a:Act) (w:World),
  (∀ j oj,ops[j]?=some oj->j≠i->listed.getD j true=false->(∀ e ∈ oj.after,Region.binds md e=true->e.on≠i)->oi.apart ops oj=true) ->
  i ∈ Region.ready md ops listed->YieldsIf P ops S oi v a->S w ->
  wpAnyZ P md ops Q S z fuel (listed.setIfInBounds i true) (a.put oi.dst v) w->wpAnyZ P md ops Q S z (fuel+1) listed a w:=by
 intro fuel;induction fuel with
 | zero =>
   intro listed a w _ hr hy hS H;refine⟨fun h=>(by rw [h]at hr;cases hr),fun j hj=>?_⟩;by_cases hji:j=i
   . subst hji;exact hy.wpOp hi hS ⟨fun _=>hS,H⟩
   . have:=ready_mono hj hji
     rw [H.1]at this;cases this
 | succ fuel ih =>
   intro listed a w hfree hr hy hS H;refine⟨fun h=>(by rw [h]at hr;cases hr),fun j hj=>?_⟩;by_cases hji:j=i
   . subst hji;exact hy.wpOp hi hS ⟨fun _=>hS,H⟩
   . have hun:=(mem_ready.1 hr).1
     have hjz:j≠z:=fun e=>not_ready_of_waits hz hun (e ▸ hj);have h1:=H.2 j (ready_mono hj hji);obtain⟨hjun,oj,hoj,hall⟩:=mem_ready.1 hj;have hnot:∀ e ∈ oj.after,Region.binds md e=true->e.on≠i:=fun e he hb heq=>by
      have h9:=hall e he hb;rw [heq,getD_both hun]at h9;cases h9
     have h2:=wpOp_putIf hoj (hfree j oj hoj hji hjun hnot) (fun cs b=>hsel i oi cs b hi) (fun cs b=>hsel j oj cs b hoj) hQ hy h1;have hfree':∀ k ok,ops[k]?=some ok->k≠i->(listed.setIfInBounds j true).getD k true=false ->
      (∀ e ∈ ok.after,Region.binds md e=true->e.on≠i)->oi.apart ops ok=true:=fun k ok hk hki hun' hno=>by
      refine hfree k ok hk hki ?_ hno;by_cases hjk:j=k
      . subst hjk;exact hjun
      . rw [getD_set_ne true hjk]at hun';exact hun'
     refine wpOp_mono (fun a' w' h3=>⟨h3.2.1,ih (listed.setIfInBounds j true) a' w' hfree' (ready_mono hr (Ne.symm hji)) h3.1 (h3.2.1 hjz) ?_⟩) h2;rw [Array.setIfInBounds_comm _ _ hji];exact h3.2.2
theorem wpAnyZ_take{i:Nat}{oi:Oper}{v:Value}{fuel:Nat}{listed:Array Bool}{a:Act}{w:World}(hi:ops[i]?=some oi)
 (hs:Region.noSelect ops=true) (hf:Region.free md ops listed i=true) (hr:(Region.ready md ops listed).contains i=true) (hz:Region.waitsFor md ops z i=true)
 (hQ:∀ c a w,Q (.panic c) (a.put oi.dst v) w->Q (.panic c) a w) (hy:YieldsIf P ops S oi v a) (hS:S w)
 (h:wpAnyZ P md ops Q S z fuel (listed.setIfInBounds i true) (a.put oi.dst v) w):wpAnyZ P md ops Q S z (fuel+1) listed a w :=
 wpAnyZ_first hi (Region.noSelect_spec hs) hQ hz fuel listed a w (Region.free_spec hi hf) (by simpa using hr) hy hS h
theorem wpAnyZ_one{i:Nat}{oi:Oper}{fuel:Nat}{listed:Array Bool}{a:Act}{w:World}(hi:ops[i]?=some oi)(hr:Region.ready md ops listed=[i])(hg:oi.guard=none)
 (h:∀ K:Act->World->Prop,(∀ a' w',(i≠z->S w')->wpAnyZ P md ops Q S z fuel (listed.setIfInBounds i true) a' w'->K a' w')->oi.wp P a w K Q):wpAnyZ P md ops Q S z (fuel+1) listed a w:=by
 refine⟨fun h0=>?_,fun j hj=>?_⟩
 . rw [hr]at h0
   cases h0
 . rw [hr]at hj
   have hj':j=i:=by simpa using hj
   subst hj';unfold wpOp;simp only [hi];rw [if_pos (by simp [Region.wanted,hg])];exact .inl (h _ fun _ _ h1 h2=>⟨h1,h2⟩)
theorem wpAnyZ_done{listed:Array Bool}{a:Act}{w:World}(hr:Region.ready md ops listed=[])(h:Q .normal a w):∀ fuel,wpAnyZ P md ops Q S z fuel listed a w
 | 0=>⟨hr,h⟩
 | _+1=>⟨fun _=>h,by rw [hr];simp⟩
theorem wp_region_Z{id:Nat}{a:Act}{w:World}(S:World->Prop)(z:Nat)(hm:P.follows .mixedOrders=true)(h:wpAnyZ P .any ops Q S z ops.size (Array.replicate ops.size false) a w.drew):(Code.region id ops true).wp P Q a w :=
 wp_region_any hm (wpAny_of_Z _ _ _ _ h)
end
end Go.Proofs.YthmhogdceolkdaaGreat