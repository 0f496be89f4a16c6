/- Bundle. Conditions: none. -/
import Derived.WalkKit
import Derived.WalkLawsBesides
import Derived.WalkSpells
import Derived.BigQuiet
import Derived.Below
import Derived.Lib.Hide
import Derived.Deep.QuietTactic
import Derived.Lib.AppendZerosOnto
import Derived.StillTailTactics
import Derived.Deep.RegionLaw
import Derived.OpenShut
import Derived.Laws.AppendOwnNone
set_option linter.unusedVariables false
set_option linter.unusedSimpArgs false
namespace Go.Proofs.YthmhogdceolkdaaGreat
open Go.RowKit
theorem aq{p:Prop}(h:p):Hid p:=Lib.hid h
theorem _root_.Go.RowKit.Hid.o{p:Prop}(h:Hid p):p:=h.out
theorem yq0{α:Type}{l:List α}{i:Nat}{a:α}:l.toArray.setIfInBounds i a=(l.set i a).toArray:=List.setIfInBounds_toArray _ _ _
theorem yq1{α:Type}{x a:α}{xs:List α}:(x :: xs).set 0 a=a :: xs:=List.set_cons_zero
theorem yq2{α:Type}{x a:α}{xs:List α}{n:Nat}:(x :: xs).set (n+1) a=x :: xs.set n a:=List.set_cons_succ
def gi(xs:List Int)(j:Nat):Int:=xs.getD j 0
theorem gi_eq(xs:List Int)(j:Nat)(h:j<xs.length):gi xs j=xs[j]:=by simp [gi,List.getD,h]
theorem gi_mem(xs:List Int)(j:Nat)(h:j<xs.length):gi xs j ∈ xs:=by rw [gi_eq xs j h];exact List.getElem_mem h
theorem ext_gi{xs ys:List Int}(hl:xs.length=ys.length)(h:∀ j,j<xs.length->gi xs j=gi ys j):xs=ys:=by
 apply List.ext_getElem hl;intro j h1 h2;have:=h j h1;rwa [gi_eq _ _ h1,gi_eq _ _ h2]at this
theorem all_gi{xs:List Int}{p:Int->Bool}:xs.all p=true↔∀ j,j<xs.length->p (gi xs j)=true:=by
 rw [List.all_eq_true];constructor
 . intro h j hj
   exact h _ (gi_mem xs j hj)
 . intro h x hx
   obtain⟨j,hj,rfl⟩:=List.getElem_of_mem hx;rw [<- gi_eq xs j hj];exact h j hj
def Qt(w w':World):Prop:=∃ q,w'=w.drewN q
theorem Qt.refl(w:World):Qt w w:=⟨0,rfl⟩
theorem Qt.drewN{w w':World}(h:Qt w w')(q:Nat):Qt w (w'.drewN q):=by obtain⟨p,rfl⟩:=h;exact⟨p+q,by rw [World.drewN_drewN]⟩
theorem Qt.trans{a b c:World}(h:Qt a b)(h':Qt b c):Qt a c:=by obtain⟨p,rfl⟩:=h';exact h.drewN p
theorem Qt.below{w w':World}(h:Qt w w')(B:Nat):Below B w w':=by obtain⟨p,rfl⟩:=h;exact⟨rfl,rfl,rfl,Nat.le_refl _,fun _ _=>rfl⟩
theorem ret_bool{a b:Bool}(h:a=b):Ending.returned (.bool a)= .returned (.bool b):=by rw [h]
theorem ret_int{k:IntKind}{a b:Int}(h:a=b):Ending.returned (.int k a)= .returned (.int k b):=by rw [h]
theorem ret_sl{A A':Option Addr}{n n' c c':Nat}(h1:A=A')(h2:n=n')(h3:c=c'):Ending.returned (.slice A n c)= .returned (.slice A' n' c'):=by rw [h1,h2,h3]
theorem lt_succ_cases{j:Nat}{p:Nat->Prop}(h:∀ q,q<j->p q)(hj:p j):∀ q,q<j+1->p q:=by
 intro q hq;rcases Nat.lt_succ_iff_lt_or_eq.1 hq with hq | rfl
 . exact h q hq
 . exact hj
theorem bne_f{a b:Int}(h:a=b):(a != b)=false:=by simp [h]
theorem bne_t{a b:Int}(h:a≠b):(a != b)=true:=by simp [h]
theorem beq_f{a b:Int}(h:a≠b):(a == b)=false:=by simp [h]
theorem beq_t{a b:Int}(h:a=b):(a == b)=true:=by simp [h]
def adr(A:Option Addr)(j:Nat):Addr:=⟨(A.getD default).block,(A.getD default).off+j,none⟩
@[simp] theorem adr_some (b o:Nat) (j:Nat):adr (some ⟨b,o,none⟩) j=⟨b,o+j,none⟩:=rfl
def blk(A:Option Addr):Nat:=(A.getD default).block
def cut(A:Option Addr)(c l:Nat):Option Addr:=if c=l then A else A.map (·.add l)
structure Rdv (w:World) (A:Option Addr) (n c:Nat) (vs:List Value):Prop where
 len:vs.length=n
 le:n<=c
 cm:c<=maxLen
 nil:A=none->c=0
 spot:0<c->∀ a,A=some a->a.spot=none
 lt:0<c->∀ a,A=some a->a.block<w.heap.size
 at_:∀ j v,vs[j]?=some v->w.cell? (adr A j)=some v
def Rd(k:IntKind)(w:World)(A:Option Addr)(n c:Nat)(xs:List Int):Prop:=Rdv w A n c (xs.map (Value.int k))
structure El (P:Program) (t e:TypeId) (z:Value) (bytes:Nat):Prop where
 u:P.underlying t=some (.slice e)
 i:(P.info? e).map (fun i=>(i.zero,i.size,i.bytes))=some (some z,1,bytes)
 s:∀ W,(sizeOf e).run P W= .ok 1 W
 z1:z.cells=#[z]
section
variable {k : IntKind} {w w' : World} {A : Option Addr} {n c : Nat} {vs : List Value} {xs : List Int} {P : Program}
theorem Rdv.bd(h:Rdv w A n c vs):n<=9223372036854775807/\c<=9223372036854775807:=by
 have h1:=h.le;have h2:=h.cm;unfold maxLen at h2;omega
theorem Rdv.ptr(h:Rdv w A n c vs)(hn:0<c):∃ b o,A=some ⟨b,o,none⟩/\b<w.heap.size:=by
 cases hA:A with
 | none=>have:=h.nil hA;omega
 | some a =>
   obtain⟨b,o,s⟩:=a;have h1:=h.spot hn _ hA;have h2:=h.lt hn _ hA;simp at h1;subst h1;exact⟨b,o,rfl,h2⟩
theorem Rdv.ix(h:Rdv w A n c vs){t e:TypeId}{z:Value}{bytes:Nat}(E:El P t e z bytes){j:Nat}(hj:j<n)(kd:IntKind)(W:World) :
 (Instr.indexAt t (.slice A n c) (.int kd (j:Int))).run P W= .ok (.pointer (some (adr A j))) W:=by
 obtain⟨b,o,rfl,_⟩:=h.ptr (by have:=h.le;omega);have h1:(0:Int)<=(j:Int)/\(j:Int)<(n:Int):=by omega
 simp only [Instr.indexAt,Sem.run_bind,run_underlying E.u,Result.andThen_ok,asIntOf,Sem.run_pure,if_pos h1,E.s,Int.toNat_natCast,Nat.mul_one,adr_some];congr 3;unfold Addr.add;split
 . rename_i h0;subst h0;rfl
 . rfl
theorem Rdv.ixI(h:Rdv w A n c vs){t e:TypeId}{z:Value}{bytes:Nat}(E:El P t e z bytes){j:Nat}(hj:j<n)(kd:IntKind)(I:Int)(hI:I=(j:Int))(W:World) :
 (Instr.indexAt t (.slice A n c) (.int kd I)).run P W= .ok (.pointer (some (adr A j))) W:=by subst hI;exact h.ix E hj kd W
theorem Rdv.keep(h:Rdv w A n c vs)(hk:∀ b,b<w.heap.size->w'.heap[b]?=w.heap[b]?)(hs:w.heap.size<=w'.heap.size):Rdv w' A n c vs:=by
 refine⟨h.len,h.le,h.cm,h.nil,h.spot,fun hc a ha=>Nat.lt_of_lt_of_le (h.lt hc a ha) hs,fun j v hj=>?_⟩;rw [<- h.at_ j v hj];have hlt:j<n:=by rw [<- h.len];exact(List.getElem?_eq_some_iff.1 hj).1
 obtain⟨b,o,rfl,hb⟩:=h.ptr (by have:=h.le;omega);exact World.cell?_of_block (hk b hb)
theorem Rdv.below(h:Rdv w A n c vs)(hb:Below w.heap.size w w'):Rdv w' A n c vs:=h.keep hb.block hb.size
theorem Rdv.drewN(h:Rdv w A n c vs)(m:Nat):Rdv (w.drewN m) A n c vs:=h.keep (fun _ _=>rfl) (Nat.le_refl _)
theorem Rdv.drew(h:Rdv w A n c vs):Rdv w.drew A n c vs:=h.keep (fun _ _=>rfl) (Nat.le_refl _)
theorem Rdv.alloc(h:Rdv w A n c vs)(o:Obj):Rdv (w.alloc o) A n c vs:=h.keep (fun b hb=>heap_alloc_old (h:=hb) ..) (by simp)
theorem Rdv.grown(h:Rdv w A n c vs){row:Option Nat}(hg:w.grownBy w' row)(hne:A≠none->some (blk A)≠row):Rdv w' A n c vs:=by
 refine⟨h.len,h.le,h.cm,h.nil,h.spot,fun hc a ha=>Nat.lt_of_lt_of_le (h.lt hc a ha) hg.size,fun j v hj=>?_⟩;rw [<- h.at_ j v hj];have hlt:j<n:=by rw [<- h.len];exact(List.getElem?_eq_some_iff.1 hj).1
 have hle:=h.le;obtain⟨b,o,rfl,hb⟩:=h.ptr (by omega);exact World.cell?_of_block (hg.block b hb (hne (by simp)))
theorem Rd.cell(h:Rd k w A n c xs){j:Nat}(hj:j<n):w.cell? (adr A j)=some (.int k (gi xs j)):=by
 refine Rdv.at_ h j _ ?_;have hl:=Rdv.len h;rw [List.length_map]at hl;simp [gi,List.getD,show j<xs.length by omega]
theorem Rd.len(h:Rd k w A n c xs):xs.length=n:=by have:=Rdv.len h;simpa using this
theorem Rdv.nilv(w:World):Rdv w none 0 0 []:=⟨rfl,Nat.le_refl _,by unfold maxLen;omega,fun _=>rfl,by omega,by omega,nofun⟩
theorem Rd.nilv(k:IntKind)(w:World):Rd k w none 0 0 []:=Rdv.nilv w
theorem add_lit(b o j:Nat):(⟨b,o,none⟩:Addr).add j=⟨b,o+j,none⟩:=by
 unfold Addr.add;split
 . rename_i h;subst h;rfl
 . rfl
theorem adr_cut(h:Rdv w A n c vs){l:Nat}(hl:l<c)(j:Nat):adr (cut A c l) j=adr A (l+j):=by
 obtain⟨b,o,rfl,_⟩:=h.ptr (by omega);unfold cut;rw [if_neg (by omega)];simp only [Option.map_some,add_lit,adr_some,Nat.add_assoc]
theorem blk_cut(h:Rdv w A n c vs){l:Nat}(hl:l<=c):blk (cut A c l)=blk A:=by
 unfold cut;split
 . rfl
 . obtain⟨b,o,rfl,_⟩:=h.ptr (by omega)
   simp only [Option.map_some,add_lit];rfl
theorem Rdv.cut_(h:Rdv w A n c vs){l m:Nat}(hlm:l<=m)(hm:m<=n):Rdv w (cut A c l) (m - l) (c - l) ((vs.take m).drop l):=by
 have hle:=h.le;have hcm:=h.cm;have hl:=h.len;refine⟨by simp only [List.length_drop,List.length_take];omega,by omega,by omega,fun hn=>?_,fun hc a ha=>?_,fun hc a ha=>?_,fun j v hj=>?_⟩
 . unfold cut at hn
   split at hn
   . omega
   . have:=h.nil (by simpa using hn);omega
 . unfold cut at ha
   split at ha
   . exact h.spot (by omega) a ha
   . obtain⟨b,o,rfl,_⟩:=h.ptr (by omega)
     simp only [Option.map_some,add_lit,Option.some.injEq]at ha;rw [<- ha]
 . unfold cut at ha
   split at ha
   . exact h.lt (by omega) a ha
   . obtain⟨b,o,rfl,hb⟩:=h.ptr (by omega)
     simp only [Option.map_some,add_lit,Option.some.injEq]at ha;rw [<- ha];exact hb
 . have hj':=(List.getElem?_eq_some_iff.1 hj).1
   simp only [List.length_drop,List.length_take]at hj';rw [adr_cut h (by omega)];refine h.at_ _ _ ?_;rw [List.getElem?_drop,List.getElem?_take,if_pos (by omega)]at hj;exact hj
theorem Rd.cut_(h:Rd k w A n c xs){l m:Nat}(hlm:l<=m)(hm:m<=n):Rd k w (cut A c l) (m - l) (c - l) ((xs.take m).drop l):=by
 have:=Rdv.cut_ h hlm hm;unfold Rd;rwa [List.map_drop,List.map_take]
theorem Rdv.slh(h:Rdv w A n c vs){t e:TypeId}{z:Value}{bytes:Nat}(E:El P t e z bytes)(kh:IntKind){m:Nat}(hm:m<=c)(W:World) :
 (Instr.sliceAt t (.slice A n c) none (some (.int kh (m:Int))) none).run P W= .ok (.slice A m c) W:=by
 have e1:P.underlying t=some (.slice (P.elem t)):=by rw [E.u];simp [Program.elem,E.u]
 have e2:P.elem t=e:=by simp [Program.elem,E.u]
 rw [run_sliceAt_slice W t _ _ _ _ e1,run_slice_h W t A n c e1 kh m (by omega) (by omega),e2,E.s];simp only [Result.andThen_ok,Int.toNat_natCast,sliced,Nat.zero_mul,Nat.sub_zero];congr 2;split
 . rfl
 . cases A<;>simp [Addr.add]
theorem Rdv.sll(h:Rdv w A n c vs){t e:TypeId}{z:Value}{bytes:Nat}(E:El P t e z bytes)(kl:IntKind){l:Nat}(hl:l<=n)(W:World) :
 (Instr.sliceAt t (.slice A n c) (some (.int kl (l:Int))) none none).run P W= .ok (.slice (cut A c l) (n - l) (c - l)) W:=by
 have e1:P.underlying t=some (.slice (P.elem t)):=by rw [E.u];simp [Program.elem,E.u]
 have e2:P.elem t=e:=by simp [Program.elem,E.u]
 rw [run_sliceAt_slice W t _ _ _ _ e1,run_slice_l W t A n c e1 kl l (by omega) (by omega),e2,E.s];simp only [Result.andThen_ok,Int.toNat_natCast,sliced,Nat.mul_one,cut]
theorem Rdv.upto(h:Rdv w A n c vs){m:Nat}(hm:m<=n):Rdv w A m c (vs.take m):=by
 refine⟨by rw [List.length_take,h.len];omega,by have:=h.le;omega,h.cm,h.nil,h.spot,h.lt,fun j v hj=>h.at_ j v ?_⟩;rw [List.getElem?_take]at hj;split at hj
 . exact hj
 . cases hj
theorem Rd.upto(h:Rd k w A n c xs){m:Nat}(hm:m<=n):Rd k w A m c (xs.take m):=by
 have:=Rdv.upto h hm;unfold Rd;rwa [List.map_take]
end
structure Ownv (e:TypeId) (w:World) (base:Nat) (A:Option Addr) (n c:Nat) (vs:List Value):Prop where
 ow:w.ownsRow base e 1 (.slice A n c) n vs
def Own(k:IntKind)(e:TypeId)(w:World)(base:Nat)(A:Option Addr)(n c:Nat)(xs:List Int):Prop:=Ownv e w base A n c (xs.map (Value.int k))
section
variable {k : IntKind} {w w' : World} {A B : Option Addr} {n c m d base base' : Nat} {tt : TypeId} {vs us : List Value} {xs ys : List Int} {P : Program} {e : TypeId}
theorem Ownv.cases(h:Ownv e w base A n c vs):vs.length=n/\((A=none/\n=0/\c=0)\/∃ g cur,A=some ⟨g,0,none⟩/\base<=g/\w.heap[g]?=some (.cells cur e (0,0))/\n<=c/\c<=maxLen/\cur.size=c/\cur.toList.take n=vs):=by
 obtain⟨h1,h2⟩:=h.ow;refine⟨by simpa using h1,?_⟩;rcases h2 with⟨h2,h3⟩ | ⟨g,cap,cur,h2,h3,h4,h5,h6,h7,h8⟩
 . simp at h2;exact .inl h2
 . simp only [Value.slice.injEq,true_and]at h2
   obtain⟨rfl,rfl⟩:=h2;exact .inr ⟨g,cur,rfl,h3,h4,h5,h6,by simpa using h7,by simpa using h8⟩
theorem Ownv.rd(h:Ownv e w base A n c vs):Rdv w A n c vs:=by
 obtain⟨hl,h2⟩:=h.cases;rcases h2 with⟨rfl,rfl,rfl⟩ | ⟨g,cur,rfl,hb,hh,hnc,hcm,hs,ht⟩
 . obtain rfl:=List.eq_nil_of_length_eq_zero hl
   exact Rdv.nilv w
 . have hg:g<w.heap.size:=(Array.getElem?_eq_some_iff.1 hh).1
   refine⟨hl,hnc,hcm,nofun,by rintro _ a ⟨⟩;rfl,by rintro _ a ⟨⟩;exact hg,fun j v hj=>?_⟩;rw [adr_some,Nat.zero_add,cell_of_row w g j cur e (0,0) hh];rw [<- ht,List.getElem?_take]at hj;split at hj
   . simpa using hj
   . cases hj
theorem Own.rd(h:Own k e w base A n c xs):Rd k w A n c xs:=Ownv.rd h
theorem Ownv.blk_ge(h:Ownv e w base A n c vs)(hc:0<c):base<=blk A/\blk A<w.heap.size:=by
 obtain⟨hl,h2⟩:=h.cases;rcases h2 with⟨rfl,rfl,rfl⟩ | ⟨g,cur,rfl,hb,hh,hnc,hcm,hs,ht⟩
 . omega
 . exact⟨hb,(Array.getElem?_eq_some_iff.1 hh).1⟩
theorem Ownv.ob'(h:Ownv e w base A n c vs){g:Nat}(hg:(Value.slice A n c).ownBlock=some g):base<=g:=(h.ow.lt g hg).1
theorem Ownv.upto(h:Ownv e w base A n c vs){m:Nat}(hm:m<=n):Ownv e w base A m c (vs.take m):=by
 obtain⟨h1,h2⟩:=h.ow;refine⟨by rw [List.length_take,h1];omega,?_⟩;rcases h2 with⟨h2,h3⟩ | ⟨g,cap,cur,h2,h3,h4,h5,h6,h7,h8⟩
 . simp only [Value.slice.injEq]at h2
   obtain⟨rfl,rfl,rfl⟩:=h2;obtain rfl:m=0:=by omega
   exact .inl ⟨rfl,rfl⟩
 . simp only [Value.slice.injEq]at h2
   obtain⟨rfl,_,rfl⟩:=h2;refine .inr ⟨g,c,cur,rfl,h3,h4,by omega,h6,h7,?_⟩;rw [<- h8,List.take_take];congr 1;omega
theorem Ownv.mono(h:Ownv e w base A n c vs)(hb:base'<=base):Ownv e w base' A n c vs:=by
 obtain⟨h1,h2⟩:=h.ow;refine⟨h1,?_⟩;rcases h2 with h2 | ⟨g,cap,cur,h2,h3,h4⟩
 . exact .inl h2
 . exact .inr ⟨g,cap,cur,h2,by omega,h4⟩
theorem Ownv.nilv(e:TypeId)(w:World)(base:Nat):Ownv e w base none 0 0 []:=⟨World.ownsRow_nil w base e 1⟩
theorem Own.nilv(k:IntKind)(e:TypeId)(w:World)(base:Nat):Own k e w base none 0 0 []:=Ownv.nilv e w base
theorem Ownv.keep(h:Ownv e w base A n c vs)(hk:∀ b,b<w.heap.size->w'.heap[b]?=w.heap[b]?):Ownv e w' base A n c vs:=by
 obtain⟨h1,h2⟩:=h.ow;refine⟨h1,?_⟩;rcases h2 with h2 | ⟨g,cap,cur,h2,h3,h4,h5⟩
 . exact .inl h2
 . exact .inr ⟨g,cap,cur,h2,h3,by rw [hk g (Array.getElem?_eq_some_iff.1 h4).1];exact h4,h5⟩
theorem Ownv.below(h:Ownv e w base A n c vs)(hb:Below w.heap.size w w'):Ownv e w' base A n c vs:=h.keep hb.block
theorem Ownv.alloc(h:Ownv e w base A n c vs)(o:Obj):Ownv e (w.alloc o) base A n c vs:=h.keep fun b hb=>heap_alloc_old (h:=hb) ..
theorem Ownv.drew(h:Ownv e w base A n c vs):Ownv e w.drew base A n c vs:=h.keep fun _ _=>rfl
theorem Ownv.grown(h:Ownv e w base A n c vs){row:Option Nat}(hg:w.grownBy w' row)(hne:A≠none->some (blk A)≠row):Ownv e w' base A n c vs:=by
 obtain⟨h1,h2⟩:=h.ow;refine⟨h1,?_⟩;rcases h2 with h2 | ⟨g,cap,cur,h2,h3,h4,h5,h6,h7,h8⟩
 . exact .inl h2
 . refine .inr ⟨g,cap,cur,h2,h3,?_,h5,h6,h7,h8⟩
   simp only [Value.slice.injEq,true_and]at h2;obtain⟨rfl,rfl⟩:=h2;rw [hg.block g (Array.getElem?_eq_some_iff.1 h4).1 (hne (by simp))];exact h4
theorem Ownv.frozen(h:Ownv e w base A n c vs)(hc:0<c)(j:Nat):w.frozen? (adr A j)=false:=by
 obtain⟨hl,h2⟩:=h.cases;rcases h2 with⟨rfl,rfl,rfl⟩ | ⟨g,cur,rfl,hb,hh,hnc,hcm,hs,ht⟩
 . omega
 . rw [adr_some];exact frozen_of_row w g _ cur e hh
theorem Ownv.set_(h:Ownv e w base A n c vs){j:Nat}(hj:j<n)(u:Value):Ownv e (w.setCell (adr A j) u) base A n c (vs.set j u)/\w.grownBy (w.setCell (adr A j) u) (some (blk A)):=by
 obtain⟨hl,h2⟩:=h.cases;rcases h2 with⟨rfl,rfl,rfl⟩ | ⟨g,cur,rfl,hb,hh,hnc,hcm,hs,ht⟩
 . omega
 . have:=World.ownsRow.stored h.ow j u
   rw [adr_some,Nat.zero_add];exact⟨⟨this.1⟩,this.2⟩
theorem Own.set_(h:Own k e w base A n c xs){j:Nat}(hj:j<n)(u:Int):Own k e (w.setCell (adr A j) (.int k u)) base A n c (xs.set j u)/\w.grownBy (w.setCell (adr A j) (.int k u)) (some (blk A)):=by
 have:=Ownv.set_ h hj (.int k u);refine⟨?_,this.2⟩;have h1:=this.1;rw [<- List.map_set]at h1;exact h1
theorem Own.of_eq{n':Nat}{vs:List Value}(h:Ownv e w base A n c vs)(hn:n=n')(hv:vs=xs.map (Value.int k)):Own k e w base A n' c xs:=by subst hn hv;exact h
theorem oneCell_ints(k:IntKind)(xs:List Int):∀ u ∈ xs.map (Value.int k),u.oneCell'=true:=ints_oneCell k xs
theorem run_append_rd(E:∃ t z bytes,El P t e z bytes/\(n+m)*bytes<=140737488355328/\n+m<=maxLen/\tt=t)(hO:Ownv e w base A n c vs)(hR:Rdv w B m d us)(h1:∀ u ∈ us,u.oneCell'=true)(hbase:base<=w.heap.size)(ty:TypeId) :
 ∃ A' c' w',(Builtin.append_ #[tt,tt] ty #[.slice A n c,.slice B m d]).run P w= .ok (.slice A' (n+m) c') w'/\Ownv e w' base A' (n+m) c' (vs ++ us)/\w.grownBy w' ((Value.slice A n c).ownBlock):=by
 obtain⟨t,z,bytes,hE,hby,hm,rfl⟩:=E;obtain⟨i,hi,hz0,hz1,hz2⟩:=info_parts hE.i;cases hB:B with
 | none =>
   subst hB;have hd:=hR.nil rfl;have hmd:=hR.le;obtain rfl:m=0:=by omega
   subst hd;obtain rfl:us=[]:=List.eq_nil_of_length_eq_zero hR.len;refine⟨A,c,w,run_append_owned_none w base tt ty e i 1 hE.u hi _ n vs hO.ow,?_,⟨rfl,rfl,rfl,Nat.le_refl _,fun _ _ _=>rfl⟩⟩;simpa using hO
 | some ad =>
   subst hB;obtain⟨v',w',hr,h2,h3,h4⟩:=run_append_own (P:=P) w base tt ty e i z 1 bytes hE.u hi hz0 hz1 hz2 (by rw [hE.z1];rfl) (by decide) _ n vs hO.ow ad m d us (by simpa using hR.len)
    (fun j u hj=>by
      have h8:=hR.at_ j u hj;have hlt:j<m:=by rw [<- hR.len];exact(List.getElem?_eq_some_iff.1 hj).1
      have hsp:=hR.spot (by have:=hR.le;omega) ad rfl;obtain⟨b,o,s⟩:=ad;simp at hsp;subst hsp;rwa [adr_some,<- add_lit]at h8) h1 hm hby hbase
   rcases h2.2 with⟨h5,h6⟩ | ⟨g,cap,cur,h5,_⟩
   . rw [h5]at hr h2
     refine⟨none,0,w',?_,⟨?_⟩,h3⟩
     . rw [hr,h6]
     . rw [h6]at h2 ⊢;exact h2
   . rw [h5]at hr h2
     exact⟨_,_,w',hr,⟨h2⟩,h3⟩
theorem wp_app{o:Oper}{a:Act}{K:Act->World->Prop}{Q:Exit->Act->World->Prop}(s x:Operand)(t:TypeId)
 (ho:o.op= .call {callee:=.builtin .append,args:=#[s,x],argTypes:=#[t,t]}) {z:Value} {bytes:Nat} (hE:El P t e z bytes) (hs:a.eval s= .slice A n c) (hx:a.eval x= .slice B m d)
 (hO:Ownv e w base A n c vs) (hR:Rdv w B m d us) (h1:∀ u ∈ us,u.oneCell'=true) (hby:(n+m)*bytes<=140737488355328) (hm:n+m<=maxLen) (hbase:base<=w.heap.size)
 (h:∀ A' c' w',Ownv e w' base A' (n+m) c' (vs ++ us)->w.grownBy w' ((Value.slice A n c).ownBlock)->K (a.put o.dst (.slice A' (n+m) c')) w'):o.wp P a w K Q:=by
 obtain⟨A',c',w',hr,h2,h3⟩:=run_append_rd ⟨t,z,bytes,hE,hby,hm,rfl⟩ hO hR h1 hbase o.type;unfold Oper.wp;simp only [execOp,ho,resolve,invoke,builtin,Sem.run_bind,Sem.run_pure,Result.andThen_ok,List.map_toArray,List.map_cons,List.map_nil,hs,hx,hr];exact h A' c' w' h2 h3
theorem step_of{E:Prop}{ops:Array Oper}{o:Oper}{a:Act}{K:Act->World->Prop}{Q:Exit->Act->World->Prop}(hgd:o.guard=none)(h:o.wp P a w K Q) :
 if Region.wanted o (yielded ops a.tmps)=true then Oper.wp P o a w K Q else E:=by
 rw [if_pos (by simp [Region.wanted,hgd])];exact h
theorem list_of{ops:Array Oper}{rest:List Oper}{o:Oper}{a:Act}{Q:Exit->Act->World->Prop}(hgd:o.guard=none)(h:∀ K:Act->World->Prop,(∀ a w,wpList P ops Q rest a w->K a w)->o.wp P a w K Q):wpList P ops Q (o :: rest) a w :=
 wpList_plain hgd h
theorem Ownv.lit(w:World)(cs:Array Value)(e:TypeId){N:Nat}(hN:N=w.heap.size)(hb:base<=w.heap.size)(hm:cs.size<=maxLen):Ownv e (w.alloc (.cells cs e)) base (some ⟨N,0,none⟩) cs.size cs.size cs.toList:=by
 subst hN;exact⟨World.ownsRow_lit (e:=e) (size:=1) w cs cs.size hb hm (by simp)⟩
theorem grownBy_of_alloc{w w':World}{o:Obj}{row:Option Nat}(h:(w.alloc o).grownBy w' row):w.grownBy w' row :=
 ⟨h.os,h.tape,h.output,Nat.le_trans (by simp) h.size,fun k hk hne=>(h.block k (by simp;omega) hne).trans (heap_alloc_old (h:=hk) ..)⟩
theorem wp_app1{o:Oper}{a:Act}{K:Act->World->Prop}{Q:Exit->Act->World->Prop}(s x:Operand)(t:TypeId)
 (ho:o.op= .call {callee:=.builtin .append,args:=#[s,x],argTypes:=#[t,t]}) {z:Value} {bytes:Nat} (hE:El P t e z bytes) (hs:a.eval s= .slice A n c) (u:Value) (hx:a.eval x= .slice (some ⟨w.heap.size,0,none⟩) 1 1)
 (h1:u.oneCell'=true) (hO:Ownv e w base A n c vs) (hn:n<100000000000000) (hby:(n+1)*bytes<=140737488355328) (hbase:base<=w.heap.size)
 (h:∀ A' c' w',Ownv e w' base A' (n+1) c' (vs ++ [u])->w.grownBy w' ((Value.slice A n c).ownBlock)->K (a.put o.dst (.slice A' (n+1) c')) w'):o.wp P a (w.alloc (.cells #[u] e)) K Q:=by
 have hl:Rdv (w.alloc (.cells #[u] e)) (some ⟨w.heap.size,0,none⟩) 1 1 [u]:=(Ownv.lit (base:=0) w #[u] e rfl (Nat.zero_le _) (by show 1<=maxLen;unfold maxLen;omega)).rd;refine wp_app s x t ho hE hs hx (hO.alloc _) hl (by simpa using h1) hby (by unfold maxLen;omega) (by simp;omega) ?_;intro A' c' w' h2 h3;exact h A' c' w' h2 (grownBy_of_alloc h3)
theorem toList_zeroCells(z:Value)(k:Nat):(Builtin.zeroCells #[z] k).toList=List.replicate k z:=by
 apply List.ext_getElem?;intro j;by_cases hj:j<k
 . simp [Builtin.zeroCells,hj,Nat.mod_one]
 . simp [Builtin.zeroCells,hj]
theorem run_append_zeros{t tn ty:TypeId}{z:Value}{bytes:Nat}(E:El P t e z bytes){kn kq:IntKind}(htn:P.underlying tn=some (.int kn))(h1:z.oneCell'=true)(q:Nat)(hO:Ownv e w base A n c vs)
 (hby:2*(n+q)*bytes<=140737488355328) (hm:n+q<=100000000000000) (hbase:base<=w.heap.size) :
 ∃ A' c' w',(Builtin.append_ #[t,tn] ty #[.slice A n c,.int kq (q:Int)]).run P w= .ok (.slice A' (n+q) c') w'/\Ownv e w' base A' (n+q) c' (vs ++ List.replicate q z)/\w.grownBy w' ((Value.slice A n c).ownBlock):=by
 obtain⟨i,hi,hz0,hz1,hz2⟩:=info_parts E.i;subst hz2;have hby1:(n+q)*i.bytes<=140737488355328:=by
  have:(n+q)*i.bytes<=2*(n+q)*i.bytes:=Nat.mul_le_mul_right _ (by omega);omega
 have hby2:q*i.bytes<=140737488355328:=by
  have:q*i.bytes<=(n+q)*i.bytes:=Nat.mul_le_mul_right _ (by omega);omega
 have hw:IntKind.i64.wrap (q:Int)=q:=by rw [IntKind.wrap_i64];omega
 have hneg:¬ ((q:Int)<0):=by omega
 have hw0:IntKind.i64.wrap 0=0:=by decide
 have h48i:¬ (281474976710656<(q:Int)*(i.bytes:Int)):=by
  rw [<- Int.natCast_mul];omega
 have hzsz:z.cells.size=1:=by rw [E.z1];rfl
 have hnew:∀ (old:Nat) (os:List Value),os.length=n->n+q<=grownCap w (n+q) old e->(w.drew.alloc (.cells (os.toArray ++ Builtin.zeroCells z.cells q ++ Builtin.zeroCells z.cells (grownCap w (n+q) old e - (n+q))) e)).ownsRow base e 1
  (.slice (some ⟨w.heap.size,0,none⟩) (n+q) (grownCap w (n+q) old e)) (n+q) (os ++ List.replicate q z):=by
  intro old os hos hge;have hcm:grownCap w (n+q) old e<=maxLen:=grownCap_le_maxLen w (n+q) old e (by unfold maxLen;omega);refine⟨by simp [hos],.inr ⟨w.heap.size,_,_,rfl,hbase,heap_alloc_new w.drew _,hge,hcm,?_,?_⟩⟩
  . simp [size_zeroCells,hzsz,hos];omega
  . rw [E.z1]
    simp only [Array.toList_append,toList_zeroCells];rw [List.take_append_of_le_length (by simp [hos]),List.take_of_length_le (by simp [hos])]
 rcases hO.cases with⟨hl,h2 | h2⟩
 . obtain⟨rfl,rfl,rfl⟩:=h2
   obtain rfl:=List.eq_nil_of_length_eq_zero hl;by_cases hq:q=0
   . subst hq
     refine⟨none,0,w,?_,by simpa using Ownv.nilv e w base,World.grownBy.refl _ _⟩;simp [Builtin.append_,run_underlying E.u,run_underlying htn,sizeOf,typeInfo,hi,asInt,asIntOf,hw0]
   . have hr:=Lib.run_append_nil_zeros (P:=P) w t tn ty e i z kq kn E.u htn hi hz0 q (by omega) (by omega) (by omega) (by omega)
     have h3:=hnew 0 [] rfl (grownCap_ge w _ _ _);simp only [Nat.zero_add]at h3 ⊢;refine⟨_,_,_,hr,⟨?_⟩,⟨rfl,rfl,rfl,by simp,fun k hk _=>heap_alloc_old (w:=w.drew) (h:=hk) ..⟩⟩;simpa using h3
 . obtain⟨g,cur,rfl,hb,hh,hnc,hcm,hs,ht⟩:=h2
   by_cases hroom:n+q<=c
   . have hst:=run_storeCells_at P g n e (List.replicate q z) 0 cur w hh (by simp;omega) (by intro u hu;rw [List.mem_replicate]at hu;rw [hu.2];exact h1)
     simp only [Nat.add_zero]at hst;refine⟨some ⟨g,0,none⟩,c,w.setRow g (cur.toList.take n ++ List.replicate q z ++ cur.toList.drop (n+q)).toArray,?_,⟨⟨by simp [hl],.inr ⟨g,c,_,rfl,hb,setRow_heap w g cur _ e _ hh,hroom,hcm,?_,?_⟩⟩⟩,⟨rfl,rfl,rfl,by simp,fun k _ hk=>setRow_other w g k _ (fun e=>hk (by simp [Value.ownBlock,e]))⟩⟩
     . by_cases hq:q=0
       . subst hq
         have e0:w.setRow g (cur.toList.take n ++ List.replicate 0 z ++ cur.toList.drop (n+0)).toArray=w:=by
          have h9:=hst;simp only [List.replicate_zero,storeCells,Sem.run_pure]at h9;injection h9 with _ h9
          simpa using h9.symm
         rw [e0];simp [Builtin.append_,run_underlying E.u,run_underlying htn,sizeOf,typeInfo,hi,asInt,asIntOf,hw0,hnc,storeCells]
       . have hq1:¬ (q*1=0):=by omega
         simp [Builtin.append_,run_underlying E.u,run_underlying htn,sizeOf,typeInfo,zeroValue,hi,hz0,hz1,asInt,asIntOf,hw,hneg,h48i,hroom,hq,E.z1,toList_zeroCells,hst,Addr.add_lit]
     . simp;omega
     . have hl2:(cur.toList.take n ++ List.replicate q z).length=n+q:=by simp;omega
       rw [Nat.mul_one,<- hl2,List.take_left,ht]
   . have hold:(Builtin.firstCells i.size n (.slice (some ⟨g,0,none⟩) n c)).run P w.drew= .ok vs.toArray w.drew:=by
      rw [hz1];exact run_firstCells_some (P:=P) w.drew 1 n ⟨g,0,none⟩ n c vs (by simpa using hl) (fun j u hj=>by have:=hO.rd.at_ j u hj;rwa [adr_some,<- add_lit]at this)
     by_cases hq:q=0
     . omega
     . have hr:=Lib.run_append_grow_zeros (P:=P) w t tn ty e i z kq kn E.u htn hi hz0 (some ⟨g,0,none⟩) n c vs hold q (by omega) (by omega) (by omega) (by omega) (by omega) (growslice_fits (by omega) hby1)
       exact⟨_,_,_,hr,⟨hnew c vs hl (grownCap_ge w _ _ _)⟩,⟨rfl,rfl,rfl,by simp,fun k hk _=>heap_alloc_old (w:=w.drew) (h:=hk) ..⟩⟩
theorem wp_appz{o:Oper}{a:Act}{K:Act->World->Prop}{Q:Exit->Act->World->Prop}(s x:Operand)(t tn:TypeId)
 (ho:o.op= .call {callee:=.builtin .append,args:=#[s,x],argTypes:=#[t,tn]}) {z:Value} {bytes:Nat} (E:El P t e z bytes) {kn kq:IntKind} (htn:P.underlying tn=some (.int kn)) (h1:z.oneCell'=true) {QQ:Int} (q:Nat)
 (hs:a.eval s= .slice A n c) (hx:a.eval x= .int kq QQ) (hQ:QQ=(q:Int)) (hO:Ownv e w base A n c vs) (hby:2*(n+q)*bytes<=140737488355328) (hm:n+q<=100000000000000) (hbase:base<=w.heap.size)
 (h:∀ A' c' w',Ownv e w' base A' (n+q) c' (vs ++ List.replicate q z)->w.grownBy w' ((Value.slice A n c).ownBlock)->K (a.put o.dst (.slice A' (n+q) c')) w'):o.wp P a w K Q:=by
 subst hQ;obtain⟨A',c',w',hr,h2,h3⟩:=run_append_zeros (tn:=tn) (ty:=o.type) (kq:=kq) E htn h1 q hO hby hm hbase;exact Lib.wp_append_run w s x t tn ho _ _ hs hx _ _ hr (h A' c' w' h2 h3)
theorem wp_mk{o:Oper}{a:Act}{K:Act->World->Prop}{Q:Exit->Act->World->Prop}(l r:Operand)(t:TypeId)
 (ho:o.op= .makeSlice t l r) {z:Value} {bytes:Nat} (hE:El P t e z bytes) {kl kr:IntKind} (hs:a.eval l= .int kl (n:Int)) (hx:a.eval r= .int kr (n:Int))
 (hby:bytes*n<=281474976710656) (hm:n<=maxLen)
 (h:∀ A w',Ownv e w' w.heap.size A n n (List.replicate n z)->Below w.heap.size w w'->A≠none->K (a.put o.dst (.slice A n n)) w'):o.wp P a w K Q:=by
 obtain⟨i,hi,hz0,hz1,hz2⟩:=info_parts hE.i;have hb':((bytes:Nat):Int)*(n:Int)<=281474976710656:=by
  have h':((bytes*n:Nat):Int)<=281474976710656:=by omega
  rwa [Int.natCast_mul]at h'
 have hr:=run_make (P:=P) w t e i z hE.u hi hz0 kl kr n n (by omega) (Int.le_refl _) (by rw [hz2];exact hb') (by unfold maxLen at hm;omega);simp only [Int.toNat_natCast]at hr;unfold Oper.wp;simp only [execOp,ho,Sem.run_bind,Sem.run_pure,Result.andThen_ok,hs,hx,hr];refine h _ _ ⟨?_⟩ ((Below.refl _ _).alloc (Nat.le_refl _) _) (by simp);have h2:=World.ownsRow_lit (e:=e) (size:=1) w (madeCells z.cells (n*i.size)) n (Nat.le_refl _) hm (by rw [size_madeCells,hz1]);rw [hz1,hE.z1,Nat.mul_one]at h2 ⊢;rwa [toList_madeCells_one]at h2
end
end Go.Proofs.YthmhogdceolkdaaGreat