/- Bundle. Conditions: none. -/
import Derived.Test.YthmhogdceolkdaaGreatBqbj
import Derived.Deep.MidRow
import Derived.Test.YthmhogdceolkdaaGreatBqaz
set_option linter.unusedVariables false
set_option linter.unusedSimpArgs false
namespace Go.Proofs.YthmhogdceolkdaaGreat
open Tryz
open Go.RowKit
def fl2:List (Int × Int)->List Value
 | []=>[]
 | p :: l=>.int .i64 p.1 :: .int .i64 p.2 :: fl2 l
theorem fl2_len:∀ l:List (Int × Int),(fl2 l).length=l.length*2
 | []=>rfl
 | _ :: l=>by simp [fl2,fl2_len l];omega
theorem fl2_app:∀ a b:List (Int × Int),fl2 (a ++ b)=fl2 a ++ fl2 b
 | [],_=>rfl
 | _ :: l,b=>by simp [fl2,fl2_app l b]
theorem fl2_at:∀ (l:List (Int × Int)) (j:Nat) (p:Int × Int),l[j]?=some p->(fl2 l)[2*j]?=some (.int .i64 p.1)/\(fl2 l)[2*j+1]?=some (.int .i64 p.2)
 | [],_,_,h=>by simp at h
 | q :: l,0,p,h=>by simp at h;subst h;exact⟨rfl,rfl⟩
 | q :: l,j+1,p,h=>by
   have:=fl2_at l j p (by simpa using h);rw [show 2*(j+1)=2*j+1+1 by omega];exact⟨by simpa [fl2] using this.1,by simpa [fl2] using this.2⟩
theorem fl2_set:∀ (l:List (Int × Int)) (j:Nat) (p:Int × Int),fl2 (l.set j p)=((fl2 l).set (2*j) (.int .i64 p.1)).set (2*j+1) (.int .i64 p.2)
 | [],_,_=>by simp [fl2]
 | q :: l,0,p=>by simp [fl2]
 | q :: l,j+1,p=>by
   rw [show 2*(j+1)=2*j+1+1 by omega];simp [fl2,fl2_set l j p]
theorem fl2_one:∀ (l:List (Int × Int)),∀ u ∈ fl2 l,u.oneCell'=true
 | [],u,h=>by simp [fl2]at h
 | p :: l,u,h=>by
   simp [fl2]at h;rcases h with rfl | rfl | h
   . rfl
   . rfl
   . exact fl2_one l u h
theorem fl2_rep:∀ n,fl2 (List.replicate n (0,0))=List.replicate (n*2) (.int .i64 0)
 | 0=>rfl
 | n+1=>by
   rw [show (n+1)*2=n*2+1+1 by omega,List.replicate_succ,List.replicate_succ,List.replicate_succ,fl2,fl2_rep n]
def pi(l:List (Int × Int))(j:Nat):Int × Int:=l.getD j (0,0)
theorem pi_at(l:List (Int × Int))(j:Nat)(h:j<l.length):l[j]?=some (pi l j):=by simp [pi,List.getD,h]
structure R2 (w:World) (A:Option Addr) (n c:Nat) (ps:List (Int × Int)):Prop where
 len:ps.length=n
 le:n<=c
 cm:c<=maxLen
 nil:A=none->c=0
 spot:0<c->∀ a,A=some a->a.spot=none
 lt:0<c->∀ a,A=some a->a.block<w.heap.size
 at_:∀ j v,(fl2 ps)[j]?=some v->w.cell? (adr A j)=some v
structure El2 (P:Program) (t e:TypeId):Prop where
 u:P.underlying t=some (.slice e)
 i:(P.info? e).map (fun i=>(i.zero,i.size,i.bytes))=some (some (.agg #[.int .i64 0,.int .i64 0]),2,16)
 s:∀ W,(sizeOf e).run P W= .ok 2 W
section
variable {w w' : World} {A : Option Addr} {n c : Nat} {ps : List (Int × Int)} {P : Program}
theorem R2.ptr(h:R2 w A n c ps)(hn:0<c):∃ b o,A=some ⟨b,o,none⟩/\b<w.heap.size:=by
 cases hA:A with
 | none=>have:=h.nil hA;omega
 | some a =>
   obtain⟨b,o,s⟩:=a;have h1:=h.spot hn _ hA;have h2:=h.lt hn _ hA;simp at h1;subst h1;exact⟨b,o,rfl,h2⟩
theorem R2.ix(h:R2 w A n c ps){t e:TypeId}(E:El2 P t e){j:Nat}(hj:j<n)(kd:IntKind)(W:World) :
 (Instr.indexAt t (.slice A n c) (.int kd (j:Int))).run P W= .ok (.pointer (some (adr A (2*j)))) W:=by
 obtain⟨b,o,rfl,_⟩:=h.ptr (by have:=h.le;omega);have h1:(0:Int)<=(j:Int)/\(j:Int)<(n:Int):=by omega
 simp only [Instr.indexAt,Sem.run_bind,run_underlying E.u,Result.andThen_ok,asIntOf,Sem.run_pure,if_pos h1,E.s,Int.toNat_natCast,adr_some];rw [add_lit,Nat.mul_comm]
theorem R2.keep(h:R2 w A n c ps)(hk:∀ b,b<w.heap.size->w'.heap[b]?=w.heap[b]?)(hs:w.heap.size<=w'.heap.size):R2 w' A n c ps:=by
 refine⟨h.len,h.le,h.cm,h.nil,h.spot,fun hc a ha=>Nat.lt_of_lt_of_le (h.lt hc a ha) hs,fun j v hj=>?_⟩;rw [<- h.at_ j v hj];have hlt:j<n*2:=by rw [<- h.len,<- fl2_len];exact(List.getElem?_eq_some_iff.1 hj).1
 obtain⟨b,o,rfl,hb⟩:=h.ptr (by have:=h.le;omega);exact World.cell?_of_block (hk b hb)
theorem R2.below(h:R2 w A n c ps)(hb:Below w.heap.size w w'):R2 w' A n c ps:=h.keep hb.block hb.size
theorem R2.drew(h:R2 w A n c ps):R2 w.drew A n c ps:=h.keep (fun _ _=>rfl) (Nat.le_refl _)
theorem R2.alloc(h:R2 w A n c ps)(o:Obj):R2 (w.alloc o) A n c ps:=h.keep (fun b hb=>heap_alloc_old (h:=hb) ..) (by simp)
theorem R2.grown(h:R2 w A n c ps){row:Option Nat}(hg:w.grownBy w' row)(hne:A≠none->some (blk A)≠row):R2 w' A n c ps:=by
 refine⟨h.len,h.le,h.cm,h.nil,h.spot,fun hc a ha=>Nat.lt_of_lt_of_le (h.lt hc a ha) hg.size,fun j v hj=>?_⟩;rw [<- h.at_ j v hj];have hlt:j<n*2:=by rw [<- h.len,<- fl2_len];exact(List.getElem?_eq_some_iff.1 hj).1
 obtain⟨b,o,rfl,hb⟩:=h.ptr (by have:=h.le;omega);exact World.cell?_of_block (hg.block b hb (hne (by simp)))
theorem R2.nilv(w:World):R2 w none 0 0 []:=⟨rfl,Nat.le_refl _,by unfold maxLen;omega,fun _=>rfl,by omega,by omega,nofun⟩
theorem R2.cell(h:R2 w A n c ps){j:Nat}(hj:j<n):w.cell? (adr A (2*j))=some (.int .i64 (pi ps j).1)/\w.cell? (adr A (2*j+1))=some (.int .i64 (pi ps j).2):=by
 have:=fl2_at ps j _ (pi_at ps j (by rw [h.len];exact hj));exact⟨h.at_ _ _ this.1,h.at_ _ _ this.2⟩
theorem R2.ld(h:R2 w A n c ps){j:Nat}(hj:j<n)(t:TypeId)(d:TypeDesc)(hu:P.underlying t=some d)(hd:d.isRow=true)(hi:(P.info? t).map (·.size)=some 2) :
 (Instr.loadAt t (.pointer (some (adr A (2*j))))).run P w= .ok (.agg #[.int .i64 (pi ps j).1,.int .i64 (pi ps j).2]) w:=by
 obtain⟨b,o,rfl,_⟩:=h.ptr (by have:=h.le;omega);have hc:=h.cell hj;rw [adr_some]at hc ⊢;rw [adr_some]at hc;refine run_loadAt_mid w b (o+2*j) t [.int .i64 (pi ps j).1,.int .i64 (pi ps j).2] d (fun q v hq=>?_) hu hd hi;match q,hq with
 | 0,hq=>simp at hq;subst hq;exact hc.1
 | 1,hq=>simp at hq;subst hq;exact hc.2
theorem ld2{ops:Array Oper}{rest:List Oper}{op:Oper}{a:Act}{Q:Exit->Act->World->Prop}{j:Nat}(hgd:op.guard=none)(t:TypeId)(x:Operand)(ho:op.op= .load t x)(hx:a.eval x= .pointer (some (adr A (2*j))))(h:R2 w A n c ps)(hj:j<n)(d:TypeDesc)(hu:P.underlying t=some d)(hd:d.isRow=true)(hi:(P.info? t).map (·.size)=some 2)
 (hk:wpList P ops Q rest (a.put op.dst (.agg #[.int .i64 (pi ps j).1,.int .i64 (pi ps j).2])) w):wpList P ops Q (op :: rest) a w:=by
 obtain⟨b,o,rfl,_⟩:=h.ptr (by have:=h.le;omega);have hc:=h.cell hj;rw [adr_some]at hc hx;rw [adr_some]at hc;refine wpList_load_mid hgd t x ho b (o+2*j) hx [.int .i64 (pi ps j).1,.int .i64 (pi ps j).2] d (fun q v hq=>?_) hu hd hi hk;match q,hq with
 | 0,hq=>simp at hq;subst hq;exact hc.1
 | 1,hq=>simp at hq;subst hq;exact hc.2
end
structure O2 (e:TypeId) (w:World) (base:Nat) (A:Option Addr) (n c:Nat) (ps:List (Int × Int)):Prop where
 ow:w.ownsRow base e 2 (.slice A n c) n (fl2 ps)
section
variable {w w' : World} {A : Option Addr} {n c base base' : Nat} {ps : List (Int × Int)} {P : Program} {e : TypeId}
theorem O2.cases(h:O2 e w base A n c ps):ps.length=n/\((A=none/\n=0/\c=0)\/∃ g cur,A=some ⟨g,0,none⟩/\base<=g/\w.heap[g]?=some (.cells cur e (0,0))/\n<=c/\c<=maxLen/\cur.size=c*2/\cur.toList.take (n*2)=fl2 ps):=by
 obtain⟨h1,h2⟩:=h.ow;refine⟨by rw [fl2_len]at h1;omega,?_⟩;rcases h2 with⟨h2,h3⟩ | ⟨g,cap,cur,h2,h3,h4,h5,h6,h7,h8⟩
 . simp at h2;exact .inl h2
 . simp only [Value.slice.injEq,true_and]at h2
   obtain⟨rfl,rfl⟩:=h2;exact .inr ⟨g,cur,rfl,h3,h4,h5,h6,h7,h8⟩
theorem O2.rd(h:O2 e w base A n c ps):R2 w A n c ps:=by
 obtain⟨hl,h2⟩:=h.cases;rcases h2 with⟨rfl,rfl,rfl⟩ | ⟨g,cur,rfl,hb,hh,hnc,hcm,hs,ht⟩
 . obtain rfl:=List.eq_nil_of_length_eq_zero hl
   exact R2.nilv w
 . have hg:g<w.heap.size:=(Array.getElem?_eq_some_iff.1 hh).1
   refine⟨hl,hnc,hcm,nofun,by rintro _ a ⟨⟩;rfl,by rintro _ a ⟨⟩;exact hg,fun j v hj=>?_⟩;rw [adr_some,Nat.zero_add,cell_of_row w g j cur e (0,0) hh];rw [<- ht,List.getElem?_take]at hj;split at hj
   . simpa using hj
   . cases hj
theorem O2.ob'(h:O2 e w base A n c ps){g:Nat}(hg:(Value.slice A n c).ownBlock=some g):base<=g:=(h.ow.lt g hg).1
theorem O2.nilv(e:TypeId)(w:World)(base:Nat):O2 e w base none 0 0 []:=⟨World.ownsRow_nil w base e 2⟩
theorem O2.mono(h:O2 e w base A n c ps)(hb:base'<=base):O2 e w base' A n c ps:=by
 obtain⟨h1,h2⟩:=h.ow;refine⟨h1,?_⟩;rcases h2 with h2 | ⟨g,cap,cur,h2,h3,h4⟩
 . exact .inl h2
 . exact .inr ⟨g,cap,cur,h2,by omega,h4⟩
theorem O2.keep(h:O2 e w base A n c ps)(hk:∀ b,b<w.heap.size->w'.heap[b]?=w.heap[b]?):O2 e w' base A n c ps:=by
 obtain⟨h1,h2⟩:=h.ow;refine⟨h1,?_⟩;rcases h2 with h2 | ⟨g,cap,cur,h2,h3,h4,h5⟩
 . exact .inl h2
 . exact .inr ⟨g,cap,cur,h2,h3,by rw [hk g (Array.getElem?_eq_some_iff.1 h4).1];exact h4,h5⟩
theorem O2.below(h:O2 e w base A n c ps)(hb:Below w.heap.size w w'):O2 e w' base A n c ps:=h.keep hb.block
theorem O2.alloc(h:O2 e w base A n c ps)(o:Obj):O2 e (w.alloc o) base A n c ps:=h.keep fun b hb=>heap_alloc_old (h:=hb) ..
theorem O2.frozen(h:O2 e w base A n c ps)(hc:0<c)(j:Nat):w.frozen? (adr A j)=false:=by
 obtain⟨hl,h2⟩:=h.cases;rcases h2 with⟨rfl,rfl,rfl⟩ | ⟨g,cur,rfl,hb,hh,hnc,hcm,hs,ht⟩
 . omega
 . rw [adr_some];exact frozen_of_row w g _ cur e hh
theorem O2.set_(h:O2 e w base A n c ps){j:Nat}(hj:j<n)(p:Int × Int):O2 e (w.setCells (blk A) (2*j) [.int .i64 p.1,.int .i64 p.2]) base A n c (ps.set j p)/\w.grownBy (w.setCells (blk A) (2*j) [.int .i64 p.1,.int .i64 p.2]) (some (blk A)):=by
 obtain⟨hl,h2⟩:=h.cases;rcases h2 with⟨rfl,rfl,rfl⟩ | ⟨g,cur,rfl,hb,hh,hnc,hcm,hs,ht⟩
 . omega
 . have h3:=World.ownsRow.stored h.ow (2*j) (.int .i64 p.1)
   have h4:=World.ownsRow.stored h3.1 (2*j+1) (.int .i64 p.2);refine⟨⟨?_⟩,World.grownBy.trans h3.2 h4.2⟩;rw [fl2_set];exact h4.1
theorem O2.st(h:O2 e w base A n c ps){j:Nat}(hj:j<n){op:Oper}{a:Act}{K:Act->World->Prop}{Q:Exit->Act->World->Prop}(t:TypeId)(x y:Operand)(ho:op.op= .store t x y)(p:Int × Int)
 (hx:a.eval x= .pointer (some (adr A (2*j)))) (hy:a.eval y= .agg #[.int .i64 p.1,.int .i64 p.2]) (hi:(P.info? t).map (·.size)=some 2)
 (hk:∀ w',O2 e w' base A n c (ps.set j p)->w.grownBy w' (some (blk A))->K (a.put op.dst undef) w'):op.wp P a w K Q:=by
 have hs:=h.set_ hj p;have hr:=h.rd;have hf:=h.frozen (by have:=hr.le;omega);have hc:=hr.cell hj;obtain⟨hl,h2⟩:=h.cases;rcases h2 with⟨rfl,rfl,rfl⟩ | ⟨g,cur,rfl,hb,hh,hnc,hcm,hs',ht⟩
 . omega
 . have e1:adr (some ⟨g,0,none⟩) (2*j)=⟨g,2*j,none⟩:=by rw [adr_some,Nat.zero_add]
   have e2:adr (some ⟨g,0,none⟩) (2*j+1)=⟨g,2*j+1,none⟩:=by rw [adr_some,Nat.zero_add]
   have f1:=hf (2*j);have f2:=hf (2*j+1);rw [e1]at hx f1;rw [e2]at f2;rw [e1,e2]at hc;refine wp_store_mid t x y ho g (2*j) #[.int .i64 p.1,.int .i64 p.2] hx hy (fun q hq=>?_) hi (by simp [Value.oneCell']) (hk _ hs.1 hs.2);match q,hq with
   | 0,_=>exact⟨by rw [Nat.add_zero,hc.1];rfl,f1⟩
   | 1,_=>exact⟨by rw [hc.2];rfl,f2⟩
theorem O2.lit(w:World)(p:Int × Int)(e:TypeId){N:Nat}(hN:N=w.heap.size)(hb:base<=w.heap.size):O2 e (w.alloc (.cells #[.int .i64 p.1,.int .i64 p.2] e)) base (some ⟨N,0,none⟩) 1 1 [p]:=by
 subst hN;exact⟨World.ownsRow_lit (e:=e) (size:=2) w #[.int .i64 p.1,.int .i64 p.2] 1 hb (by unfold maxLen;omega) rfl⟩
theorem O2.made(w:World)(n:Nat)(e:TypeId)(hb:base<=w.heap.size)(hm:n<=maxLen):O2 e (w.alloc (.cells (madeCells #[.int .i64 0,.int .i64 0] (n*2)) e)) base (some ⟨w.heap.size,0,none⟩) n n (List.replicate n (0,0)):=by
 have h:=World.ownsRow_lit (e:=e) (size:=2) (base:=base) w (madeCells #[.int .i64 0,.int .i64 0] (n*2)) n hb hm (size_madeCells _ _);have:(madeCells #[.int .i64 0,.int .i64 0] (n*2)).toList=fl2 (List.replicate n (0,0)):=by
  rw [fl2_rep];apply List.ext_getElem?;intro j;by_cases hj:j<n*2
  . have h2:j % 2=0\/j % 2=1:=by omega
    simp [madeCells,hj];rcases h2 with h2 | h2<;>rw [h2]<;>rfl
  . simp [madeCells,hj]
 rw [this]at h;exact⟨h⟩
theorem O2.grown(h:O2 e w base A n c ps){row:Option Nat}(hg:w.grownBy w' row)(hne:A≠none->some (blk A)≠row):O2 e w' base A n c ps:=by
 obtain⟨h1,h2⟩:=h.ow;refine⟨h1,?_⟩;rcases h2 with h2 | ⟨g,cap,cur,h2,h3,h4,h5,h6,h7,h8⟩
 . exact .inl h2
 . refine .inr ⟨g,cap,cur,h2,h3,?_,h5,h6,h7,h8⟩
   simp only [Value.slice.injEq,true_and]at h2;obtain⟨rfl,rfl⟩:=h2;rw [hg.block g (Array.getElem?_eq_some_iff.1 h4).1 (hne (by simp))];exact h4
theorem O2.blk_ge(h:O2 e w base A n c ps)(hn:0<n):A≠none/\base<=blk A/\blk A<w.heap.size:=by
 obtain⟨hl,h2⟩:=h.cases;rcases h2 with⟨rfl,rfl,rfl⟩ | ⟨g,cur,rfl,hb,hh,hnc,hcm,hs,ht⟩
 . omega
 . exact⟨by simp,hb,(Array.getElem?_eq_some_iff.1 hh).1⟩
theorem wp_mk2{o:Oper}{a:Act}{K:Act->World->Prop}{Q:Exit->Act->World->Prop}(l r:Operand)(t:TypeId)
 (ho:o.op= .makeSlice t l r) (hE:El2 P t e) {kl kr:IntKind} (hs:a.eval l= .int kl (n:Int)) (hx:a.eval r= .int kr (n:Int)) (hm:n<=1000000)
 (h:∀ A w',O2 e w' w.heap.size A n n (List.replicate n (0,0))->Below w.heap.size w w'->K (a.put o.dst (.slice A n n)) w'):o.wp P a w K Q:=by
 obtain⟨i,hi,hz0,hz1,hz2⟩:=info_parts hE.i;have hr:=run_make (P:=P) w t e i _ hE.u hi hz0 kl kr n n (by omega) (Int.le_refl _) (by rw [hz2];omega) (by omega);simp only [Int.toNat_natCast,hz1]at hr;unfold Oper.wp;simp only [execOp,ho,Sem.run_bind,Sem.run_pure,Result.andThen_ok,hs,hx,hr];exact h _ _ (O2.made w n e (Nat.le_refl _) (by unfold maxLen;omega)) ((Below.refl _ _).alloc (Nat.le_refl _) _)
theorem wp_app2{o:Oper}{a:Act}{K:Act->World->Prop}{Q:Exit->Act->World->Prop}(s x:Operand)(t:TypeId)
 (ho:o.op= .call {callee:=.builtin .append,args:=#[s,x],argTypes:=#[t,t]}) (hE:El2 P t e) (hs:a.eval s= .slice A n c) (p:Int × Int) (hx:a.eval x= .slice (some ⟨w.heap.size,0,none⟩) 1 1)
 (hO:O2 e w base A n c ps) (hn:n<1000000000000) (hbase:base<=w.heap.size)
 (h:∀ A' c' w',O2 e w' base A' (n+1) c' (ps ++ [p])->w.grownBy w' ((Value.slice A n c).ownBlock)->K (a.put o.dst (.slice A' (n+1) c')) w'):o.wp P a (w.alloc (.cells #[.int .i64 p.1,.int .i64 p.2] e)) K Q:=by
 have hl:=(O2.lit (base:=0) w p e rfl (Nat.zero_le _)).rd;obtain⟨i,hi,hz0,hz1,hz2⟩:=info_parts hE.i;obtain⟨v',w',hr,h2,h3,h4⟩:=run_append_own (P:=P) (w.alloc (.cells #[.int .i64 p.1,.int .i64 p.2] e)) base t o.type e i _ 2 16 hE.u hi hz0 hz1 hz2 rfl (by decide) _ n _ (hO.alloc _).ow ⟨w.heap.size,0,none⟩ 1 1 (fl2 [p]) rfl
  (fun j u hj=>by
    have h8:=hl.at_ j u hj
    rwa [adr_some,<- add_lit]at h8) (fl2_one _) (by unfold maxLen;omega) (by omega) (by simp;omega)
 rw [<- fl2_app]at h2;rcases h2.2 with⟨h5,h6⟩ | ⟨g,cap,cur,h5,_⟩
 . omega
 . rw [h5]at hr h2
   unfold Oper.wp;simp only [execOp,ho,resolve,invoke,builtin,Sem.run_bind,Sem.run_pure,Result.andThen_ok,List.map_toArray,List.map_cons,List.map_nil,hs,hx,hr];exact h _ _ _ ⟨h2⟩ (grownBy_of_alloc h3)
end
attribute [local go_sem] Oper.semAt_some
set_option maxRecDepth 100000
set_option maxHeartbeats 4000000
theorem infoGC:(prog.info? 23).map (·.size)=some 3:=by kernel_rfl
theorem refs_any(B:Nat)(c k:Int)(w:World)(hB:6<=B/\B<=100)(hk:0<=k/\k<=503) :
 Calls prog 83 #[.agg #[.int .i64 (B:Int),.int .i64 c,.int .i64 k]] w fun e w'=>∃ A' c',e= .returned (.slice A' (slG (rsG B c k) (168*B)).length c')/\Own .i64 3 w' w.heap.size A' (slG (rsG B c k) (168*B)).length c' (slG (rsG B c k) (168*B))/\Below w.heap.size w w':=by
 have HS:=aq (Blk.new w [.int .i64 (B:Int),.int .i64 c,.int .i64 k] 63 rfl);have HB:=aq (bal (Below.refl w.heap.size w) (.cells #[.int .i64 (B:Int),.int .i64 c,.int .i64 k] 63));have hmf:∀ (fn:Fn) (first cap:Array Value) (w:World),(Instr.makeFunc fn first cap).run prog w= .ok (.func fn first cap) w:=fun _ _ _ _=>rfl;have HX:=aq (sel_any B c k 152 #[.pointer (some ⟨w.heap.size,0,none⟩)] (rsG B c k) (w.alloc (.cells #[.int .i64 (B:Int),.int .i64 c,.int .i64 k] 63)) hB (fun _ _=>rfl) (fun i W hi hW=>ref1_any B i c k w.heap.size W hB hk hi (HS.o.below hW)));go_enter func83,ntmps83;go_wp2_with (refine ldrow (cs:=[.int .i64 (B:Int),.int .i64 c,.int .i64 k]) rfl 63 (.tmp 1) rfl rfl HS.o _ underlying63 rfl (by rw [infoSh];rfl) ?_);refine HX.o.mono ?_;rintro e w1 ⟨A',c',rfl,hO,hB1⟩;have HO:=aq (Ownv.mono hO HB.o.size);have HB1:=aq (HB.o.trans (hB1.mono HB.o.size));clear hO hB1 HX;dsimp only;go_wp2;go_ret;exact⟨A',c',rfl,HO.o,HB1.o⟩
def okD(B c k f b:Int):Bool:=(decide (ckG B c k=0) && (decide (0<=f) && decide (1<=b))) && decide (f+b<=B)
theorem okD_iff{B c k f b:Int}(h:okD B c k f b=true):okG B c k=true/\0<=f/\1<=b/\f+b<=B/\(6<=B/\B<=100)/\(1<=c/\c<=3)/\(0<=k/\k<=503):=by
 unfold okD at h;simp only [Bool.and_eq_true,decide_eq_true_eq]at h;obtain⟨⟨h1,h2,h3⟩,h4⟩:=h;have h5:okG B c k=true:=by
  unfold ckG at h1;split at h1
  . assumption
  . omega
 have h6:=h5;unfold okG at h6;simp only [Bool.and_eq_true,decide_eq_true_eq]at h6;exact⟨h5,h2,h3,h4,h6.1,h6.2.1,h6.2.2⟩
def dtL(B c k f b:Int):List Int:=slG (dsG B.toNat c k f b) (168*B.toNat)
def DtP(B c k f b:Int)(w:World)(e:Ending)(w':World):Prop:=Below w.heap.size w w'/\((okD B c k f b=false/\e= .returned (.tuple #[.slice none 0 0,.int .i64 2])) \/
 (okD B c k f b=true/\∃ A',e= .returned (.tuple #[.slice A' (dtL B c k f b).length (dtL B c k f b).length,.int .i64 0])/\Rd .i64 w' A' (dtL B c k f b).length (dtL B c k f b).length (dtL B c k f b)/\(A'≠none->w.heap.size<=blk A')))
theorem data_any(B c k f b:Int)(w:World)(hfr:-9223372036854775808<=f/\f<=9223372036854775807) :
 Calls prog 45 #[.agg #[.int .i64 B,.int .i64 c,.int .i64 k],.int .i64 f,.int .i64 b] w (DtP B c k f b w):=by
 have HC:Hid (Blk ((((w.alloc (.cells #[.int .i64 B,.int .i64 c,.int .i64 k] 23)).alloc (.cells #[.int .i64 f] 3)).alloc (.cells #[.int .i64 b] 3)).alloc (.cells #[.int .i64 B,.int .i64 c,.int .i64 k] 63)) w.heap.size 23 [.int .i64 B,.int .i64 c,.int .i64 k]):=aq ((((Blk.new w [.int .i64 B,.int .i64 c,.int .i64 k] 23 rfl).alloc _).alloc _).alloc _);have HF:Hid (Blk ((((w.alloc (.cells #[.int .i64 B,.int .i64 c,.int .i64 k] 23)).alloc (.cells #[.int .i64 f] 3)).alloc (.cells #[.int .i64 b] 3)).alloc (.cells #[.int .i64 B,.int .i64 c,.int .i64 k] 63)) (w.heap.size+1) 3 [.int .i64 f]):=aq (((Blk.new _ [.int .i64 f] 3 (by simp)).alloc _).alloc _);have HBB:Hid (Blk ((((w.alloc (.cells #[.int .i64 B,.int .i64 c,.int .i64 k] 23)).alloc (.cells #[.int .i64 f] 3)).alloc (.cells #[.int .i64 b] 3)).alloc (.cells #[.int .i64 B,.int .i64 c,.int .i64 k] 63)) (w.heap.size+1+1) 3 [.int .i64 b]):=aq ((Blk.new _ [.int .i64 b] 3 (by simp)).alloc _);have HSB:Hid (Blk ((((w.alloc (.cells #[.int .i64 B,.int .i64 c,.int .i64 k] 23)).alloc (.cells #[.int .i64 f] 3)).alloc (.cells #[.int .i64 b] 3)).alloc (.cells #[.int .i64 B,.int .i64 c,.int .i64 k] 63)) (w.heap.size+1+1+1) 63 [.int .i64 B,.int .i64 c,.int .i64 k]):=aq (Blk.new _ [.int .i64 B,.int .i64 c,.int .i64 k] 63 (by simp));have HB0:Hid (Below w.heap.size w ((((w.alloc (.cells #[.int .i64 B,.int .i64 c,.int .i64 k] 23)).alloc (.cells #[.int .i64 f] 3)).alloc (.cells #[.int .i64 b] 3)).alloc (.cells #[.int .i64 B,.int .i64 c,.int .i64 k] 63))):=aq (bal (bal (bal (bal (Below.refl w.heap.size w) _) _) _) _);have hmf:∀ (fn:Fn) (first cap:Array Value) (w:World),(Instr.makeFunc fn first cap).run prog w= .ok (.func fn first cap) w:=fun _ _ _ _=>rfl;have HC3:=aq (((Blk.new w [.int .i64 B,.int .i64 c,.int .i64 k] 23 rfl).alloc (.cells #[.int .i64 f] 3)).alloc (.cells #[.int .i64 b] 3));go_enter func45,ntmps45;go_wp2_with fail;refine wp_scope_fwd 0 rfl ?_;go_wp2_with (refine ldrow (cs:=[.int .i64 B,.int .i64 c,.int .i64 k]) rfl 23 (.tmp 3) rfl rfl HC3.o _ underlying23 rfl (by rw [infoGC];rfl) ?_);clear HC3;obtain⟨CB,hCB⟩:∃ x,x=w.heap.size:=⟨_,rfl⟩
 obtain⟨FB,hFB⟩:∃ x,x=w.heap.size+1:=⟨_,rfl⟩
 obtain⟨BB,hBB⟩:∃ x,x=w.heap.size+1+1:=⟨_,rfl⟩
 obtain⟨SB,hSB⟩:∃ x,x=w.heap.size+1+1+1:=⟨_,rfl⟩
 rw [<- hSB]at HSB ⊢;rw [<- hBB]at HBB ⊢;rw [<- hFB]at HF ⊢;have HZ:=aq hCB;rw [<- hCB]at HC ⊢;clear hSB hBB hFB hCB;generalize (((w.alloc (.cells #[.int .i64 B,.int .i64 c,.int .i64 k] 23)).alloc (.cells #[.int .i64 f] 3)).alloc (.cells #[.int .i64 b] 3)).alloc (.cells #[.int .i64 B,.int .i64 c,.int .i64 k] 63)=w1 at *;obtain⟨E,hE⟩:∃ E,E=ckG B c k:=⟨_,rfl⟩
 have HCK:=aq (fun W=>gcheck_any B c k W);have HOK:Hid (okD B c k f b=(((E == 0) && (decide (0<=f) && decide (1<=b))) && decide (f+b<=B))):=aq (by unfold okD;rw [hE];rfl)
 have HEB:Hid (E=0->6<=B/\B<=100):=aq (fun h=>by
  rw [hE]at h;unfold ckG at h;split at h
  . rename_i h5;unfold okG at h5;simp only [Bool.and_eq_true,decide_eq_true_eq]at h5;exact h5.1
  . omega)
 rw [<- hE]at HCK;clear hE
 have HALL:=aq (fun W:World=>gall_any (some ⟨W.heap.size,0,none⟩) 3 3 [E == 0,decide (0<=f),decide (1<=b)] (W.alloc (.cells #[.bool (E == 0),.bool (decide (0<=f)),.bool (decide (1<=b))] 4)) (by
  have:=(Ownv.lit (base:=0) W #[.bool (E == 0),.bool (decide (0<=f)),.bool (decide (1<=b))] 4 rfl (Nat.zero_le _) (by show 3<=maxLen;unfold maxLen;omega)).rd
  simpa using this))
 have HS:=aq (show Blk w1.drew CB 23 [.int .i64 B,.int .i64 c,.int .i64 k]/\Blk w1.drew FB 3 [.int .i64 f]/\Blk w1.drew BB 3 [.int .i64 b] from⟨HC.o.drew,HF.o.drew,HBB.o.drew⟩);have HNG:Hid (∀ d1 d2 d3:Bool,(Value.bool (!d1 || (!d2 || !d3)))= .bool (!(d1 && (d2 && d3)))):=aq (by intro d1 d2 d3;cases d1<;>cases d2<;>cases d3<;>rfl);go_cut [21] from 12 to 21 (fun v wx=>v= .bool (!((E == 0) && (decide (0<=f) && decide (1<=b))))/\Below w1.heap.size w1 wx)
 case first =>
  refine Q_start (fun W9=>Blk W9 CB 23 [.int .i64 B,.int .i64 c,.int .i64 k]/\Blk W9 FB 3 [.int .i64 f]/\Blk W9 BB 3 [.int .i64 b]) 7 10 ?_;have HBd:Hid (Below w1.heap.size w1 w1.drew):=aq ((Below.refl _ w1).drew);generalize w1.drew=wd at *;refine Q_T 0 12 1 (.agg #[.int .i64 B,.int .i64 c,.int .i64 k]) [2,1] rfl HS.o (yieldsIf_load_mid (by rfl) 23 (.tmp 3) rfl CB 0 rfl [.int .i64 B,.int .i64 c,.int .i64 k] _ (fun W hS q v hq=>by rw [Nat.zero_add];exact hS.1.cell hq) underlying23 rfl (by rw [infoGC];rfl)) ?_;simp only [z0,z1,z2];refine Q_T 3 15 9 (.int .i64 f) [4] rfl HS.o (.inl ⟨by rfl,fun W hS=>by have s0:=Blk.cell hS.2.1 (j:=0) (v:=.int .i64 f) rfl;go_simp⟩) ?_;simp only [z0,z1,z2];refine Q_W 4 16 25 (.bool (decide (0<=f))) rfl HS.o ?_;simp only [z0,z1,z2];refine Q_T 5 17 57 (.int .i64 b) [6] rfl HS.o (.inl ⟨by rfl,fun W hS=>by have s0:=Blk.cell hS.2.2 (j:=0) (v:=.int .i64 b) rfl;go_simp⟩) ?_;simp only [z0,z1,z2];refine Q_W 6 18 121 (.bool (decide (1<=b))) rfl HS.o ?_;simp only [z0,z1,z2];refine Q_1S 1 123 rfl (fun K hK=>?_);go_simp;refine(HCK.o _).mono ?_;rintro e wx ⟨rfl,hwx⟩;have HS2:=aq (show Blk wx CB 23 [.int .i64 B,.int .i64 c,.int .i64 k]/\Blk wx FB 3 [.int .i64 f]/\Blk wx BB 3 [.int .i64 b] from⟨HS.o.1.below hwx,HS.o.2.1.below hwx,HS.o.2.2.below hwx⟩);have HBx:=aq (HBd.o.trans (hwx.mono HBd.o.size));clear hwx HS HBd;refine hK _ _ HS2.o ?_;clear hK K;refine Q_W 2 14 127 (.bool (E == 0)) rfl HS2.o ?_;simp only [z0,z1,z2];refine Q_1 7 255 rfl (fun K hK=>?_);go_simp;refine hK _ _ ?_;clear hK K;refine Q_1 8 511 rfl (fun K hK=>?_);go_simp;refine(HALL.o _).mono ?_;rintro e wy ⟨rfl,hwy⟩;rw [<- hwy];clear hwy;refine hK _ _ ?_;clear hK K;refine Q_1 9 1023 rfl (fun K hK=>?_);go_simp;refine hK _ _ ?_;clear hK K;refine Q_end ?_;go_wp2_with fail;go_meet;exact⟨HNG.o _ _ _,HBx.o.alloc HBx.o.size _⟩
 case rest =>
  obtain⟨rfl,hB⟩:=hcut;have HB2:=aq (HB0.o.trans (hB.mono HB0.o.size));have HC2:=aq (HC.o.below hB);have HF2:=aq (HF.o.below hB);have HBB2:=aq (HBB.o.below hB);have HSB2:=aq (HSB.o.below hB);clear hB HC HF HBB HSB HS HALL HCK HB0;have hmf:∀ (fn:Fn) (first cap:Array Value) (w:World),(Instr.makeFunc fn first cap).run prog w= .ok (.func fn first cap) w:=fun _ _ _ _=>rfl;have f0:=HF2.o.cell (j:=0) (v:=.int .i64 f) rfl;have b0:=HBB2.o.cell (j:=0) (v:=.int .i64 b) rfl;have c0:=HC2.o.cell (j:=0) (v:=.int .i64 B) rfl;cases hq:((E == 0) && (decide (0<=f) && decide (1<=b))) with
  | false =>
    have HR:=aq (show okD B c k f b=false by rw [HOK.o,hq];rfl);clear HOK hq;go_wp2;go_step3;refine⟨rfl,?_⟩;go_wp2;simp only [Exit.jump];exact bodyPost_ret (results_tmp2 rfl _ _ _) rfl ⟨HB2.o,.inl ⟨HR.o,rfl⟩⟩
  | true =>
    have hq2:=hq;simp only [Bool.and_eq_true,decide_eq_true_eq]at hq2;obtain⟨-,hf0,hb1⟩:=hq2;by_cases hle:f+b<=B
    . have hok:okD B c k f b=true:=by rw [HOK.o,hq,decide_eq_true hle];rfl
      obtain⟨-,-,-,-,hB6,hc3,hk5⟩:=okD_iff hok;have HR:=aq hok;obtain⟨Bn,rfl⟩:∃ Bn:Nat,B=(Bn:Int):=⟨B.toNat,by omega⟩
      have w1':IntKind.i64.wrap ((Bn:Int) - f)=(Bn:Int) - f:=IntWalk.i64_in _ (by omega);have g1:¬ (Bn:Int)<f:=by omega
      have g2:¬ (Bn:Int) - f<b:=by omega
      have HX:=aq (sel_any Bn c k 100 #[.pointer (some ⟨SB,0,none⟩),.pointer (some ⟨FB,0,none⟩),.pointer (some ⟨BB,0,none⟩)] (dsG Bn c k f b) wc (by omega) (fun _ _=>rfl) (fun i W hi hW=>dat1_any Bn i c k f b SB FB BB W (by omega) hk5 hi (by omega) (by omega) (HSB2.o.below hW) (HF2.o.below hW) (HBB2.o.below hW)));have HPO:Hid (∀ e w',(Below w.heap.size w w'/\(okD (Bn:Int) c k f b=true/\∃ A',e= .returned (.tuple #[.slice A' (dtL (Bn:Int) c k f b).length (dtL (Bn:Int) c k f b).length,.int .i64 0])/\Rd .i64 w' A' (dtL (Bn:Int) c k f b).length (dtL (Bn:Int) c k f b).length (dtL (Bn:Int) c k f b)/\(A'≠none->w.heap.size<=blk A')))->DtP (Bn:Int) c k f b w e w'):=aq (fun e w' h=>⟨h.1,.inr h.2⟩);have HL:=aq (show dtL (Bn:Int) c k f b=slG (dsG Bn c k f b) (168*Bn) from rfl);rw [HL.o]at HPO;have HLe:=aq (slG_le (dsG Bn c k f b) (168*Bn));clear HOK hq hok HL;generalize slG (dsG Bn c k f b) (168*Bn)=l at *;go_wp2_with (refine ldrow (cs:=[.int .i64 (Bn:Int),.int .i64 c,.int .i64 k]) rfl 63 (.tmp 9) rfl rfl HSB2.o _ underlying63 rfl (by rw [infoSh];rfl) ?_);refine HX.o.mono ?_;rintro e w3 ⟨A',c',rfl,hO,hB3⟩;have HO:=aq hO;have HB3:=aq (HB2.o.trans (hB3.mono HB2.o.size));have HFr:Hid (A'≠none->w.heap.size<=blk A'):=aq (fun h=>Nat.le_trans HB2.o.size (Ownv.blk_of hO h).1);have hsl:=fun W=>Rdv.slhm hO.rd el22 .i64 .i64 (m:=l.length) hO.rd.le W;clear hO hB3 HX;dsimp only;go_wp2;simp only [Exit.jump];exact bodyPost_ret (results_tmp2 rfl _ _ _) rfl (HPO.o _ _ ⟨HB3.o,HR.o,A',rfl,Rdv.capn HO.o.rd,HFr.o⟩)
    . have HR:=aq (show okD B c k f b=false by rw [HOK.o,hq,decide_eq_false hle];rfl)
      have hB6:6<=B/\B<=100:=HEB.o (by have:=hq;simp only [Bool.and_eq_true]at this;simpa using this.1);clear HOK hq;by_cases hfB:B<f
      . go_wp2
        go_step3;refine⟨rfl,?_⟩;go_wp2;simp only [Exit.jump];exact bodyPost_ret (results_tmp2 rfl _ _ _) rfl ⟨HB2.o,.inl ⟨HR.o,rfl⟩⟩
      . have w1':IntKind.i64.wrap (B - f)=B - f:=IntWalk.i64_in _ (by omega)
        have g2:B - f<b:=by omega
        go_wp2;go_step3;refine⟨rfl,?_⟩;go_wp2;simp only [Exit.jump];exact bodyPost_ret (results_tmp2 rfl _ _ _) rfl ⟨HB2.o,.inl ⟨HR.o,rfl⟩⟩
structure GrS (W:World) (base P B:Nat) (c k:Int) (A:Option Addr) (N cap:Nat) (ps:List (Int × Int)):Prop where
 b:Blk W P 66 [.int .i64 (B:Int),.int .i64 c,.int .i64 k,.slice A N cap]
 o:O2 93 W base A N cap ps
 d:blk A≠P
 g:base<=P
 r:6<=B/\B<=100
 n:N=168*B
theorem GrS.below{W W':World}{base P B:Nat}{c k:Int}{A:Option Addr}{N cap:Nat}{ps:List (Int × Int)}(h:GrS W base P B c k A N cap ps)(hB:Below W.heap.size W W'):GrS W' base P B c k A N cap ps :=
 ⟨h.b.below hB,h.o.below hB,h.d,h.g,h.r,h.n⟩
theorem GrS.fresh{W W':World}{base P B:Nat}{c k:Int}{A:Option Addr}{N cap:Nat}{ps ps':List (Int × Int)}(h:GrS W base P B c k A N cap ps)(hO:O2 93 W' base A N cap ps')(hg:W.grownBy W' (some (blk A))):GrS W' base P B c k A N cap ps' :=
 ⟨h.b.grown hg (fun e=>h.d e.symm),hO,h.d,h.g,h.r,h.n⟩
theorem ra3{W:World}{b:Nat}{t:TypeId}{x y z:Value}{rest:List Value}(h:Blk W b t (x :: y :: z :: rest)):W.rangeAt b 0 [x,y,z]:=fun q v hv=>by
 rw [Nat.zero_add];refine h.cell ?_;match q,hv with
 | 0,hv=>exact hv
 | 1,hv=>exact hv
 | 2,hv=>exact hv
theorem gnone_any(P n cap:Nat)(x y z:Value)(A:Option Addr)(w:World)(h:Blk w P 66 [x,y,z,.slice A n cap]) :
 Calls prog 95 #[.pointer (some ⟨P,0,none⟩)] w fun e w'=>e= .returned (.bool (decide (n=0)))/\w'=w:=by
 have s3:=h.cell (j:=3) (v:=.slice A n cap) rfl;by_cases hn:n=0
 . subst hn
   go_enter func95,ntmps95;go_wp2;go_ret;exact⟨rfl,rfl⟩
 . have hq:((n:Int) == 0)=false:=beq_f (by omega)
   rw [decide_eq_false hn];go_enter func95,ntmps95;go_wp2;go_ret;exact⟨rfl,rfl⟩
theorem conf_any(P n cap:Nat)(B c k:Int)(A:Option Addr)(w:World)(h:Blk w P 66 [.int .i64 B,.int .i64 c,.int .i64 k,.slice A n cap])(hn:n≠0) :
 Calls prog 140 #[.pointer (some ⟨P,0,none⟩)] w fun e w'=>e= .returned (.agg #[.int .i64 B,.int .i64 c,.int .i64 k])/\Below w.heap.size w w':=by
 have hN:=gnone_any P n cap _ _ _ A (w.alloc (.cells #[.int .i64 0,.int .i64 0,.int .i64 0] 23)) (h.alloc _);rw [decide_eq_false hn]at hN;have HN:=aq hN;have HG:=aq (h.alloc (.cells #[.int .i64 0,.int .i64 0,.int .i64 0] 23));have HC:=aq (Blk.new w [.int .i64 0,.int .i64 0,.int .i64 0] 23 rfl);have HB:=aq (bal (Below.refl w.heap.size w) (.cells #[.int .i64 0,.int .i64 0,.int .i64 0] 23));clear hN;go_enter func140,ntmps140;go_wp2_with fail;refine HN.o.mono ?_;rintro e wx ⟨rfl,rfl⟩;dsimp only;go_wp2_with (refine wpList_load_mid rfl 23 (.tmp 9) rfl P 0 rfl [.int .i64 B,.int .i64 c,.int .i64 k] _ (ra3 HG.o) underlying23 rfl (by rw [infoGC];rfl) ?_);have hC:=Blk.new w [.int .i64 B,.int .i64 c,.int .i64 k] 23 rfl;have l1:(loadVar 23 ⟨w.heap.size,0,none⟩).run prog (w.alloc (.cells #[.int .i64 B,.int .i64 c,.int .i64 k] 23))= .ok (.agg #[.int .i64 B,.int .i64 c,.int .i64 k]) _:=run_loadVar_row (P:=prog) _ _ 23 23 _ (0,0) _ hC underlying23 rfl (by rw [infoGC];rfl);refine bodyPost_ret (v:=.agg #[.int .i64 B,.int .i64 c,.int .i64 k]) ?_ rfl ⟨rfl,bal (Below.refl w.heap.size w) _⟩;rw [results_c rfl];simp [asAddr,l1,Sem.run_pure]
theorem conf_zero(P cap:Nat)(x y z:Value)(A:Option Addr)(w:World)(h:Blk w P 66 [x,y,z,.slice A 0 cap]) :
 Calls prog 140 #[.pointer (some ⟨P,0,none⟩)] w fun e w'=>e= .returned (.agg #[.int .i64 0,.int .i64 0,.int .i64 0])/\Below w.heap.size w w':=by
 have hN:=gnone_any P 0 cap _ _ _ A (w.alloc (.cells #[.int .i64 0,.int .i64 0,.int .i64 0] 23)) (h.alloc _);have HN:=aq hN;have HC:=aq (Blk.new w [.int .i64 0,.int .i64 0,.int .i64 0] 23 rfl);have HB:=aq (bal (Below.refl w.heap.size w) (.cells #[.int .i64 0,.int .i64 0,.int .i64 0] 23));clear hN;go_enter func140,ntmps140;go_wp2_with fail;refine HN.o.mono ?_;rintro e wx ⟨rfl,rfl⟩;dsimp only;go_wp2;have l1:(loadVar 23 ⟨w.heap.size,0,none⟩).run prog (w.alloc (.cells #[.int .i64 0,.int .i64 0,.int .i64 0] 23))= .ok (.agg #[.int .i64 0,.int .i64 0,.int .i64 0]) _:=run_loadVar_row (P:=prog) _ _ 23 23 _ (0,0) _ HC.o underlying23 rfl (by rw [infoGC];rfl);refine bodyPost_ret (v:=.agg #[.int .i64 0,.int .i64 0,.int .i64 0]) ?_ rfl ⟨rfl,HB.o⟩;rw [results_c rfl];simp [asAddr,l1,Sem.run_pure]
theorem gdata_any(base P B N cap:Nat)(c k f b:Int)(A:Option Addr)(ps:List (Int × Int))(w:World)(h:GrS w base P B c k A N cap ps)(hf:-9223372036854775808<=f/\f<=9223372036854775807) :
 Calls prog 145 #[.pointer (some ⟨P,0,none⟩),.int .i64 f,.int .i64 b] w (DtP (B:Int) c k f b w):=by
 have hB6:=h.r;have HN:=aq (gnone_any P N cap _ _ _ A w h.b);rw [decide_eq_false (by have:=h.n;omega)]at HN;have HG:=aq h.b;have HD:=aq (data_any (B:Int) c k f b w hf);have HO1:Hid (∀ w',DtP (B:Int) c k f b w (.returned (.tuple #[.slice none 0 0,.int .i64 2])) w'->DtP (B:Int) c k f b w (.returned (.tuple #[.slice none 0 0,.int .i64 2])) w'):=aq (fun w' h=>h);go_enter func145,ntmps145;go_wp2_with fail;refine HN.o.mono ?_;rintro e wx ⟨rfl,rfl⟩;dsimp only;go_wp2_with (refine wpList_load_mid rfl 23 (.tmp 13) rfl P 0 rfl [.int .i64 (B:Int),.int .i64 c,.int .i64 k] _ (ra3 HG.o) underlying23 rfl (by rw [infoGC];rfl) ?_);refine HD.o.mono ?_;rintro e w3 ⟨hB,⟨h1,rfl⟩ | ⟨h1,A',rfl,h2⟩⟩
 . have H:=aq (show DtP (B:Int) c k f b wx (.returned (.tuple #[.slice none 0 0,.int .i64 2])) w3 from⟨hB,.inl ⟨h1,rfl⟩⟩)
   clear hB h1;dsimp only;go_wp2;refine bodyPost_ret (results_tmp2 rfl _ _ _) rfl ?_;exact H.o
 . have H:=aq (show DtP (B:Int) c k f b wx (.returned (.tuple #[.slice A' (dtL (B:Int) c k f b).length (dtL (B:Int) c k f b).length,.int .i64 0])) w3 from⟨hB,.inr ⟨h1,A',rfl,h2⟩⟩)
   clear hB h1 h2;dsimp only;go_wp2;refine bodyPost_ret (results_tmp2 rfl _ _ _) rfl ?_;exact H.o
def okM(m:Int):Bool:=decide (m=2\/m=4\/m=6)
theorem qvalid_any(m:Int)(w:World):Calls prog 205 #[.int .i64 m] w fun e w'=>e= .returned (.bool (okM m))/\w'=w:=by
 by_cases h2:m=2
 . subst h2
   go_enter func205,ntmps205;go_wp2;go_ret;exact⟨rfl,rfl⟩
 . have e2:(m == 2)=false:=beq_f h2
   by_cases h4:m=4
   . subst h4
     go_enter func205,ntmps205;go_wp2;go_ret;exact⟨rfl,rfl⟩
   . have e4:(m == 4)=false:=beq_f h4
     have hM:okM m=decide (m=6):=by unfold okM;simp [h2,h4]
     rw [hM];clear hM;by_cases h6:m=6
     . subst h6
       go_enter func205,ntmps205;go_wp2;go_ret;exact⟨rfl,rfl⟩
     . have e6:(m == 6)=false:=beq_f h6
       rw [decide_eq_false h6];go_enter func205,ntmps205;go_wp2;go_ret;exact⟨rfl,rfl⟩
def levI:List Int->Int
 | []=>0
 | b :: l=>(1 - 2*b)*(2 ^ l.length - levI l)
def LvP(bs:List Int)(w:World)(e:Ending)(w':World):Prop:=e= .returned (.int .i64 (levI bs))/\Qt w w'
theorem level_nil(A:Option Addr)(c:Nat)(w:World):Calls prog 221 #[.slice A 0 c] w (LvP [] w):=by
 go_enter func221,ntmps221;go_wp2;go_ret;exact⟨rfl,Qt.refl _⟩
theorem level_step(m:Nat)(hm:m<3)(ih:∀ (A:Option Addr) (c:Nat) (bs:List Int) (w:World),Rd .u8 w A m c bs->(∀ x ∈ bs,x=0\/x=1)->(-7<=levI bs/\levI bs<=7)/\Calls prog 221 #[.slice A m c] w (LvP bs w))
 (A:Option Addr) (c:Nat) (b:Int) (bs:List Int) (w:World) (h:Rd .u8 w A (m+1) c (b :: bs)) (hb:∀ x ∈ b :: bs,x=0\/x=1):Calls prog 221 #[.slice A (m+1) c] w (LvP (b :: bs) w):=by
 have hb0:b=0\/b=1:=hb b (by simp);have hl:bs.length=m:=by have:=h.len;simpa using this
 have h1:Rd .u8 w (cut A c 1) m (c - 1) bs:=by
  have:=Rd.cut_ h (l:=1) (m:=m+1) (by omega) (by omega);rw [Nat.add_sub_cancel,List.take_of_length_le (by rw [h.len];exact Nat.le_refl _)]at this;exact this
 have h2:=ih (cut A c 1) (c - 1) bs;have hL:=(h2 w h1 (fun x hx=>hb x (by simp [hx]))).1;have HC:Hid (∀ W,Rd .u8 W (cut A c 1) m (c - 1) bs->Calls prog 221 #[.slice (cut A c 1) m (c - 1)] W fun e w'=>e= .returned (.int .i64 (levI bs))/\Qt W w'):=aq (fun W hW=>(h2 W hW (fun x hx=>hb x (by simp [hx]))).2);have H1:=aq h1;clear h2 ih;have ix:=fun W=>Rdv.ixI h el26 (j:=0) (by omega) .i64 0 rfl W;have sl:∀ W,(Instr.sliceAt 53 (.slice A (m+1) c) (some (.int .i64 1)) none none).run prog W= .ok (.slice (cut A c 1) (m+1 - 1) (c - 1)) W:=fun W=>Rdv.sll h el26 .i64 (l:=1) (by omega) W;have c0:=Rd.cell h (j:=0) (by omega);have g0:gi (b :: bs) 0=b:=rfl;have hV:levI (b :: bs)=(1 - 2*b)*(2 ^ m - levI bs):=by rw [<- hl];rfl
 have HV:=aq hV;rw [g0]at c0;rw [Nat.add_sub_cancel]at sl;clear hV h hb g0 h1;generalize levI bs=L at *;obtain⟨V,hVe⟩:∃ V,V=levI (b :: bs):=⟨_,rfl⟩
 have HP:Hid (∀ e w',e= .returned (.int .i64 V)/\Qt w w'->LvP (b :: bs) w e w'):=aq (fun e w' h=>by rw [hVe]at h;exact h);rw [<- hVe]at HV;clear hVe;refine Calls.mono ?_ HP.o;clear HP;obtain⟨N,hN⟩:∃ N,N=m+1:=⟨_,rfl⟩
 rw [<- hN]at ix sl ⊢;have k0:IntKind.i64.wrap 0=0:=by decide
 have k1:IntKind.i64.wrap 1=1:=by decide
 have k2:IntKind.i64.wrap 2=2:=by decide
 have k4:IntKind.i64.wrap 4=4:=by decide
 have k9:IntKind.i64.wrap (-1) = -1:=by decide
 rcases (by omega:(m=0/\N=1)\/(m=1/\N=2)\/(m=2/\N=3)) with⟨rfl,rfl⟩ | ⟨rfl,rfl⟩ | ⟨rfl,rfl⟩<;>rcases hb0 with rfl | rfl
 all_goals
  first
   | (clear hN
      have w1:IntKind.i64.wrap (1 - L)=1 - L:=IntWalk.i64_in _ (by omega);have w2:IntKind.i64.wrap (2 - L)=2 - L:=IntWalk.i64_in _ (by omega);have w4:IntKind.i64.wrap (4 - L)=4 - L:=IntWalk.i64_in _ (by omega)
      have v1:IntKind.i64.wrap (-(1 - L)) = -(1 - L):=IntWalk.i64_in _ (by omega);have v2:IntKind.i64.wrap (-(2 - L)) = -(2 - L):=IntWalk.i64_in _ (by omega);have v4:IntKind.i64.wrap (-(4 - L)) = -(4 - L):=IntWalk.i64_in _ (by omega)
      have u1:IntKind.i64.wrap (L - 1)=L - 1:=IntWalk.i64_in _ (by omega);have u2:IntKind.i64.wrap (L - 2)=L - 2:=IntWalk.i64_in _ (by omega);have u4:IntKind.i64.wrap (L - 4)=L - 4:=IntWalk.i64_in _ (by omega)
      go_enter func221,ntmps221
      go_wp2_with fail
      go_quiet (first | (go_at_call 221;refine(HC.o _ (Rdv.drewN H1.o _)).mono ?_;rintro e wx ⟨rfl,hq⟩;exact⟨rfl,Qt.trans ⟨_,rfl⟩ hq⟩))
      all_goals
       go_wp2
       go_ret
       exact⟨by rw [HV.o];congr 2;first | (simp [w1,w2,w4,u1,u2,u4,v1,v2,v4];omega) | simp [w1,w2,w4,u1,u2,u4,v1,v2,v4] | omega,_,rfl⟩)
theorem levI_bd:∀ bs:List Int,bs.length<=3->(∀ x ∈ bs,x=0\/x=1)->-(2 ^ bs.length - 1)<=levI bs/\levI bs<=2 ^ bs.length - 1
 | [],_,_=>by simp [levI]
 | b :: l,hl,hb=>by
   have ih:=levI_bd l (by simp at hl;omega) (fun x hx=>hb x (by simp [hx]));have h0:b=0\/b=1:=hb b (by simp);have hp:(2:Int) ^ (b :: l).length=2*2 ^ l.length:=by rw [List.length_cons,Int.pow_succ,Int.mul_comm]
   rw [hp];have h1:(1:Int)<=2 ^ l.length:=by have:l.length=0\/l.length=1\/l.length=2:=(by simp at hl;omega);rcases this with h | h | h<;>rw [h]<;>decide
   unfold levI;generalize (2:Int) ^ l.length=p at *;rcases h0 with rfl | rfl<;>simp<;>omega
theorem level_any(n:Nat)(hn:n<=3):∀ (A:Option Addr) (c:Nat) (bs:List Int) (w:World),Rd .u8 w A n c bs->(∀ x ∈ bs,x=0\/x=1)->(-7<=levI bs/\levI bs<=7)/\Calls prog 221 #[.slice A n c] w (LvP bs w):=by
 induction n with
 | zero =>
   intro A c bs w h _;obtain rfl:=List.eq_nil_of_length_eq_zero h.len;exact⟨by decide,level_nil A c w⟩
 | succ m ih =>
   intro A c bs w h hb;cases bs with
   | nil=>have:=h.len;simp at this
   | cons b l =>
     have:=levI_bd (b :: l) (by rw [h.len];exact hn) hb;have h2:(2:Int) ^ (b :: l).length<=8:=by
      rw [h.len];rcases (by omega:m=0\/m=1\/m=2) with rfl | rfl | rfl<;>decide
     exact⟨by omega,level_step m (by omega) (ih (by omega)) A c b l w h hb⟩
end Go.Proofs.YthmhogdceolkdaaGreat