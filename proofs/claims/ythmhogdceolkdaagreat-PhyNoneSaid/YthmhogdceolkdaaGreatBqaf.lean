/- Bundle. Conditions: none. -/
import Derived.Test.YthmhogdceolkdaaGreatBqad
import Derived.Deep.RegionHeld3
import Derived.OwnWalk
import Derived.Laws.ResultCell
import Derived.Test.YthmhogdceolkdaaGreatBqae
set_option linter.unusedVariables false
set_option linter.unusedSimpArgs false
namespace Go.Proofs.YthmhogdceolkdaaGreat
open Tryz
open Go.RowKit
set_option maxRecDepth 100000
set_option maxHeartbeats 600000
abbrev St3:=Bool × Bool × Bool
def stp(s:St3)(x:Bool):St3:=(x ^^ s.2.1 ^^ s.2.2,s.1,s.2.1)
def par(s:St3)(x:Bool):Bool:=x ^^ s.2.1 ^^ s.2.2 ^^ s.1 ^^ s.2.2
def parL(s:St3):List Bool->List Bool
 | []=>[]
 | x :: l=>par s x :: parL (stp s x) l
def s0:St3:=(false,false,false)
theorem parL_snoc(l:List Bool)(x:Bool):∀ s,parL s (l ++ [x])=parL s l ++ [par (l.foldl stp s) x]:=by
 induction l with
 | nil=>intro s;rfl
 | cons y l ih=>intro s;simp only [List.cons_append,parL,List.foldl_cons,ih]
theorem parL_len(l:List Bool):∀ s,(parL s l).length=l.length:=by
 induction l with
 | nil=>intro s;rfl
 | cons y l ih=>intro s;simp [parL,ih]
def EncInv(w:World)(o:Nat)(bs:List Bool)(i:Value)(wr:World):Prop :=
 ∃ (j:Nat) (A:Option Addr) (cp:Nat),j<=bs.length/\i= .int .i64 j/\EncSt w.heap.size wr o ((bs.take j).foldl stp s0).1 ((bs.take j).foldl stp s0).2.1 ((bs.take j).foldl stp s0).2.2 A j cp (parL s0 (bs.take j))/\Below w.heap.size w wr
theorem gi_ib(bs:List Bool)(j:Nat)(h:j<bs.length):gi (bs.map ib) j=ib bs[j]:=by
 rw [gi_eq _ _ (by simpa using h)];simp
theorem valid_ib(bs:List Bool):ValidB (bs.map ib)=true:=validB_t fun q hq=>by
 rw [gi_ib _ _ (by simpa using hq)];cases bs[q]'(by simpa using hq)<;>decide
theorem tencode_any(A:Option Addr)(n c:Nat)(bs:List Bool)(w:World)(h:Rd .u8 w A n c (bs.map ib))(hn:n<=100000) :
 Calls prog 339 #[.slice A n c] w fun e w'=>∃ A' c',e= .returned (.tuple #[.slice A' n c',.int .i64 (stI (bs.foldl stp s0).1 (bs.foldl stp s0).2.1 (bs.foldl stp s0).2.2),.int .i64 0])/\Own .u8 5 w' w.heap.size A' n c' ((parL s0 bs).map ib)/\Below w.heap.size w w':=by
 have hl:bs.length=n:=by have:=h.len;simpa using this
 have hbd:=h.bd.1;have hv:=valid_ib bs;go_enter func339,ntmps339;go_wp2_with (go_at_call 218;refine(contains_any A n c _ w h).mono ?_;rintro e w' ⟨rfl,rfl⟩);have hob:Ownv 404 (w.alloc (.cells #[.int .i64 0,.int .i64 0,.int .i64 0,.slice none 0 0] 404)) w.heap.size (some ⟨w.heap.size,0,none⟩) 4 4 [.int .i64 (ib false),.int .i64 (ib false),.int .i64 (ib false),.slice none 0 0] :=
  Ownv.lit w #[.int .i64 0,.int .i64 0,.int .i64 0,.slice none 0 0] 404 rfl (Nat.le_refl _) (by show 4<=maxLen;unfold maxLen;omega)
 have hst:EncSt w.heap.size (w.alloc (.cells #[.int .i64 0,.int .i64 0,.int .i64 0,.slice none 0 0] 404)) w.heap.size false false false none 0 0 []:=⟨hob,Own.nilv _ _ _ _,fun h=>absurd rfl h,by simp⟩
 have hB0:Below w.heap.size w (w.alloc (.cells #[.int .i64 0,.int .i64 0,.int .i64 0,.slice none 0 0] 404)):=(Below.refl _ w).alloc (Nat.le_refl _) _;have HH:=aq h;have HL:=aq hl;clear hob h hl;go_loopw [12] (fun i wr=>EncInv w w.heap.size bs i wr) (fun i _=>n - (intOf i).toNat)
 case atStart=>exact⟨0,none,0,Nat.zero_le _,rfl,hst,hB0⟩
 case round =>
  obtain⟨j,A1,cp,hj,rfl,hst,hB⟩:=hrel;rw [HL.o]at hj;by_cases hlt:j<n
  . have hj':j<bs.length:=by rw [HL.o];exact hlt
    have hx:=Rdv.below HH.o hB;have hix:=fun W=>Rdv.ix hx el26 hlt .i64 W;have hcell:=Rd.cell hx hlt;rw [gi_ib _ _ hj']at hcell;have ht:bs.take (j+1)=bs.take j ++ [bs[j]]:=by rw [List.take_add_one,List.getElem?_eq_getElem hj'];rfl
    have e1:(bs.take (j+1)).foldl stp s0=stp ((bs.take j).foldl stp s0) bs[j]:=by rw [ht,List.foldl_append];rfl
    have e2:parL s0 (bs.take (j+1))=parL s0 (bs.take j) ++ [par ((bs.take j).foldl stp s0) bs[j]]:=by rw [ht,parL_snoc]
    have E1:=aq e1;have E2:=aq e2;have HST:=aq hst;have hb0:0<=ib bs[j]:=by cases bs[j]<;>decide
    have hb1:ib bs[j]<=1:=by cases bs[j]<;>decide
    clear ht e1 e2 hst;generalize (bs.take j).foldl stp s0=s at *;generalize parL s0 (bs.take j)=ps at *;generalize bs[j]=x at *;go_wp2_with (go_at_call 353;refine(takes_any w.heap.size w.heap.size s.1 s.2.1 s.2.2 x A1 j cp ps _ HST.o (by omega)).mono ?_;rintro e w4 ⟨rfl,⟨A2,cp2,hst2⟩,hB2⟩);refine⟨⟨j+1,A2,cp2,by omega,by go_num,?_,hB.trans hB2⟩,by simp [intOf];omega⟩;rw [E1.o,E2.o];exact hst2
  . obtain rfl:j=n:=by omega
    rw [<- HL.o,List.take_length,HL.o]at hst;have HST:=aq hst;obtain⟨c0,c1,c2,c3,-,-,-,-⟩:=hst.facts;clear hst;generalize hs:bs.foldl stp s0=s at *;have HS:=aq hs;clear hs;have hs60:=fun W=>aq (state_any s.1 s.2.1 s.2.2 W);unfold regV at hs60;go_wp2;go_region_held3 (fun W=>W.cell? ⟨w.heap.size,0,none⟩=some (.int .i64 (ib s.1))/\W.cell? ⟨w.heap.size,1,none⟩=some (.int .i64 (ib s.2.1))/\W.cell? ⟨w.heap.size,2,none⟩=some (.int .i64 (ib s.2.2))/\W.cell? ⟨w.heap.size,3,none⟩=some (.slice A1 j cp)) (first | exact⟨c0,c1,c2,c3⟩ | exact⟨m0,m1,m2,m3⟩)
     (first
       | (go_at_call 354;refine(hs60 _).out.mono ?_;rintro e w5 ⟨rfl,hB5⟩;obtain⟨m0,m1,m2,m3,-,-,-,-⟩:=(HST.o.below ((Below.refl _ _).drew.trans hB5)).facts))
    go_wp2;go_ret3;rw [HS.o];have hq:=(Below.refl wr.heap.size wr).drew.trans hB5;exact⟨A1,cp,rfl,(HST.o.below hq).row,hB.trans (hq.mono hB.size)⟩
theorem tencode_bad(A:Option Addr)(n c:Nat)(xs:List Int)(w:World)(h:Rd .u8 w A n c xs)(hv:ValidB xs=false) :
 Calls prog 339 #[.slice A n c] w fun e w'=>e= .returned (.tuple #[.slice none 0 0,.int .i64 0,.int .i64 3])/\w=w':=by
 go_enter func339,ntmps339;go_wp2_with (go_at_call 218;refine(contains_any A n c _ w h).mono ?_;rintro e w' ⟨rfl,rfl⟩);go_ret3;exact⟨rfl,rfl⟩
def tlS(a b c:Bool)(j:Nat):St3:=if j=0 then(a,b,c) else if j=1 then(false,a,b) else if j=2 then(false,false,a) else(false,false,false)
def tlU(a b c:Bool)(j:Nat):Bool:=if j=0 then(b ^^ c) else if j=1 then(a ^^ b) else a
def tlZ(a b c:Bool)(j:Nat):Bool:=if j=0 then(a ^^ c) else if j=1 then b else a
theorem tl_step(a b c:Bool)(j:Nat)(h:j<3):stp (tlS a b c j) (tlU a b c j)=tlS a b c (j+1)/\par (tlS a b c j) (tlU a b c j)=tlZ a b c j/\((tlS a b c j).2.1 ^^ (tlS a b c j).2.2)=tlU a b c j:=by
 rcases (by omega:j=0\/j=1\/j=2) with rfl | rfl | rfl<;>cases a<;>cases b<;>cases c<;>decide
def tu(s:St3)(j:Nat):Bool:=tlU s.1 s.2.1 s.2.2 j
def tz(s:St3)(j:Nat):Bool:=tlZ s.1 s.2.1 s.2.2 j
def fin(bs:List Bool):St3:=bs.foldl stp s0
def xorL(x y:List Bool):List Bool:=List.zipWith xor x y
def wt(l:List Bool):Nat:=l.count true
def w1(b:Bool):Nat:=if b then 1 else 0
def wordB(x m:List Bool):List Bool :=
 x ++ [tu (fin x) 0,tz (fin x) 1,tu (fin m) 0,tz (fin m) 1] ++ (parL s0 x ++ [tz (fin x) 0,tu (fin x) 2,tz (fin m) 0,tu (fin m) 2]) ++ (parL s0 m ++ [tu (fin x) 1,tz (fin x) 2,tu (fin m) 1,tz (fin m) 2])
theorem wordB_len(x m:List Bool)(h:m.length=x.length):(wordB x m).length=3*(x.length+4):=by
 simp only [wordB,List.length_append,parL_len,List.length_cons,List.length_nil,h];omega
def dst(x y:List Bool):Nat:=wt (xorL x y)
theorem Ownv.keepB{e:TypeId}{w w':World}{base g n c:Nat}{vs:List Value}{B:Nat}(h:Ownv e w base (some ⟨g,0,none⟩) n c vs)(hB:Below B w w')(hg:g<B):Ownv e w' base (some ⟨g,0,none⟩) n c vs:=by
 obtain⟨h1,h2⟩:=h.ow;refine⟨h1,?_⟩;rcases h2 with h2 | ⟨g',cap,cur,h2,h3,h4,h5,h6,h7,h8⟩
 . exact .inl h2
 . refine .inr ⟨g',cap,cur,h2,h3,?_,h5,h6,h7,h8⟩
   simp only [Value.slice.injEq,Option.some.injEq,Addr.mk.injEq]at h2;obtain⟨⟨rfl,_⟩,_⟩:=h2;rw [hB.block g hg];exact h4
def Arr3(w:World)(base b:Nat)(f:Nat->Bool)(j:Nat):Prop:=∃ vs,Own .u8 329 w base (some ⟨b,0,none⟩) 3 3 vs/\∀ q,q<j->gi vs q=ib (f q)
theorem Arr3.vals{w:World}{base b:Nat}{f:Nat->Bool}(h:Arr3 w base b f 3):Own .u8 329 w base (some ⟨b,0,none⟩) 3 3 [ib (f 0),ib (f 1),ib (f 2)]:=by
 obtain⟨vs,h1,h2⟩:=h;have hl:=(Own.rd h1).len;have e:vs=[ib (f 0),ib (f 1),ib (f 2)]:=by
  refine ext_gi (by rw [hl];rfl) fun q hq=>?_;rw [hl]at hq;rw [h2 q hq];rcases (by omega:q=0\/q=1\/q=2) with rfl | rfl | rfl<;>rfl
 rwa [e]at h1
theorem results_cct{fn:Func}{p q u:Tmp}{ty ty':TypeId}(h:fn.results=#[.cell p ty,.cell q ty',.tmp u])(tmps:Array Value)(P:Program)(w:World) :
 (results fn tmps).run P w =
   ((asAddr (tmps.getD p undef)).run P w).andThen fun a w₁=>((loadVar ty a).run P w₁).andThen fun v w₂=>((asAddr (tmps.getD q undef)).run P w₂).andThen fun b w₃=>((loadVar ty' b).run P w₃).andThen fun v' w₄=>.ok (.tuple #[v,v',tmps.getD u undef]) w₄:=by
 simp only [results,h];simp [Sem.run_bind,Result.andThen]
theorem results_c{fn:Func}{p:Tmp}{ty:TypeId}(h:fn.results=#[.cell p ty])(tmps:Array Value)(P:Program)(w:World) :
 (results fn tmps).run P w=((asAddr (tmps.getD p undef)).run P w).andThen fun a w₁=>(loadVar ty a).run P w₁:=by
 simp only [results,h];simp [Sem.run_bind]
theorem Ownv.row{e:TypeId}{w:World}{base b n:Nat}{vs:List Value}(h:Ownv e w base (some ⟨b,0,none⟩) n n vs):w.heap[b]?=some (.cells vs.toArray e (0,0)):=by
 obtain⟨_,h2⟩:=Ownv.cases h;rcases h2 with⟨h3,_⟩ | ⟨g,cur,h3,hb,hh,hnc,hcm,hs,ht⟩
 . cases h3
 . cases h3
   have:cur.toList=vs:=by
    rw [<- List.take_of_length_le (l:=cur.toList) (i:=n) (by simp [hs])];exact ht
   rw [hh,show cur=vs.toArray from by rw [<- this]]
theorem load_u8x3{w:World}{base b:Nat}{x y z:Int}(h:Own .u8 329 w base (some ⟨b,0,none⟩) 3 3 [x,y,z]):(loadVar 329 ⟨b,0,none⟩).run prog w= .ok (.agg #[.int .u8 x,.int .u8 y,.int .u8 z]) w :=
 run_loadVar_row (P:=prog) w b 329 329 _ (0,0) _ (Ownv.row h) underlying329 rfl (by kernel_rfl)
theorem Own.set3{k:IntKind}{e:TypeId}{w:World}{base b:Nat}{vs:List Int}(h:Own k e w base (some ⟨b,0,none⟩) 3 3 vs)(x y z:Int) :
 Own k e (((w.setCell ⟨b,0,none⟩ (.int k x)).setCell ⟨b,1,none⟩ (.int k y)).setCell ⟨b,2,none⟩ (.int k z)) base (some ⟨b,0,none⟩) 3 3 [x,y,z]/\w.grownBy (((w.setCell ⟨b,0,none⟩ (.int k x)).setCell ⟨b,1,none⟩ (.int k y)).setCell ⟨b,2,none⟩ (.int k z)) (some b):=by
 have h0:=Own.set_ h (j:=0) (by omega) x;have h1:=Own.set_ h0.1 (j:=1) (by omega) y;have h2:=Own.set_ h1.1 (j:=2) (by omega) z;simp only [adr_some,Nat.zero_add]at h0 h1 h2;have hl:=(Own.rd h).len;refine⟨?_,(h0.2.trans h1.2).trans h2.2⟩;have e1:((vs.set 0 x).set 1 y).set 2 z=[x,y,z]:=by
  match vs,hl with
  | [p,q,r],_=>rfl
 rw [<- e1];exact h2.1
def TailInv(a b c:Bool)(w:World)(o:Nat)(i:Value)(wr:World):Prop :=
 ∃ (j:Nat) (A:Option Addr) (cp:Nat) (ps:List Bool),j<=3/\i= .int .i64 j/\Arr3 wr w.heap.size w.heap.size (tlU a b c) j/\Arr3 wr w.heap.size (w.heap.size+1) (tlZ a b c) j /\
  EncSt (w.heap.size+2) wr o (tlS a b c j).1 (tlS a b c j).2.1 (tlS a b c j).2.2 A j cp ps/\Below w.heap.size w wr
theorem tail_next(a b c:Bool)(w w2 w4:World)(o j:Nat)(hj:j<3)(vu vz:List Int)(A4:Option Addr)(cp4:Nat)(ps:List Bool)(s':St3)(hs:tlS a b c (j+1)=s')
 (hU:Own .u8 329 w2 w.heap.size (some ⟨w.heap.size,0,none⟩) 3 3 vu) (hqu:∀ q,q<j->gi vu q=ib (tlU a b c q))
 (hZ:Own .u8 329 w2 w.heap.size (some ⟨w.heap.size+1,0,none⟩) 3 3 vz) (hqz:∀ q,q<j->gi vz q=ib (tlZ a b c q))
 (hB2:Below w.heap.size w w2) (hB4:Below (w.heap.size+2) w2 w4) (hS4:EncSt (w.heap.size+2) w4 o s'.1 s'.2.1 s'.2.2 A4 (j+1) cp4 ps) (iu iz:Int) (hiu:ib (tlU a b c j)=iu) (hiz:ib (tlZ a b c j)=iz) :
 TailInv a b c w o (.int .i64 ((j+1:Nat):Int)) ((w4.setCell (adr (some ⟨w.heap.size,0,none⟩) j) (.int .u8 iu)).setCell (adr (some ⟨w.heap.size+1,0,none⟩) j) (.int .u8 iz)):=by
 have u1:=Ownv.keepB hU hB4 (by omega);have z1:=Ownv.keepB hZ hB4 (by omega);have u2:=Own.set_ u1 hj iu;have z2:Own .u8 329 _ w.heap.size (some ⟨w.heap.size+1,0,none⟩) 3 3 vz:=Ownv.grown z1 u2.2 (fun _ he=>by have:=Option.some.inj he;simp [blk]at this);have z3:=Own.set_ z2 hj iz;have u3:Own .u8 329 _ w.heap.size (some ⟨w.heap.size,0,none⟩) 3 3 (vu.set j iu):=Ownv.grown u2.1 z3.2 (fun _ he=>by have:=Option.some.inj he;simp [blk]at this);have hlu:=(Own.rd hU).len;have hlz:=(Own.rd hZ).len;have hbw:=hB2.size;have h4:Below w.heap.size w w4:=hB2.trans (hB4.mono (by omega));have h5:=h4.grown u2.2 h4.size (fun k hk=>by have:=Option.some.inj hk;simp [blk]at this;omega);have h6:=h5.grown z3.2 h5.size (fun k hk=>by have:=Option.some.inj hk;simp [blk]at this;omega);have sg:∀ {W W':World} {g:Nat},g<w.heap.size+2->EncSt (w.heap.size+2) W o s'.1 s'.2.1 s'.2.2 A4 (j+1) cp4 ps->W.grownBy W' (some g)->EncSt (w.heap.size+2) W' o s'.1 s'.2.1 s'.2.2 A4 (j+1) cp4 ps:=by
  intro W W' g hg h hgr;have ho:=(Ownv.blk_ge h.obj (by omega)).1;simp [blk]at ho;exact⟨Ownv.grown h.obj hgr (fun _ he=>by have:=Option.some.inj he;simp [blk]at this;omega),Ownv.grown h.row hgr (fun hA he=>by have h8:=(Ownv.blk_of h.row hA).1;have:=Option.some.inj he;omega),h.ne,Nat.le_trans h.le hgr.size⟩
 refine⟨j+1,A4,cp4,ps,by omega,rfl,⟨_,u3,fun q hq=>?_⟩,⟨_,z3.1,fun q hq=>?_⟩,by rw [hs];exact sg (by simp [blk]) (sg (by simp [blk]) hS4 u2.2) z3.2,h6⟩
 . rw [gi_set _ _ _ _ (by omega)]
   by_cases e:j=q
   . subst e;rw [if_pos rfl,hiu]
   . rw [if_neg e];exact hqu q (by omega)
 . rw [gi_set _ _ _ _ (by omega)]
   by_cases e:j=q
   . subst e;rw [if_pos rfl,hiz]
   . rw [if_neg e];exact hqz q (by omega)
theorem stI_bd(a b c:Bool):0<=stI a b c/\stI a b c<8:=by cases a<;>cases b<;>cases c<;>decide
theorem tail_any(a b c:Bool)(w:World):Calls prog 340 #[.int .i64 (stI a b c)] w fun e w' =>
 e= .returned (.tuple #[.agg #[.int .u8 (ib (tlU a b c 0)),.int .u8 (ib (tlU a b c 1)),.int .u8 (ib (tlU a b c 2))],.agg #[.int .u8 (ib (tlZ a b c 0)),.int .u8 (ib (tlZ a b c 1)),.int .u8 (ib (tlZ a b c 2))],.int .i64 0])/\Below w.heap.size w w':=by
 obtain⟨h0,h1⟩:=stI_bd a b c;have hr:=fun W=>aq (regat_any a b c W);have hd:decide (0<=stI a b c/\stI a b c<8)=true:=by simp;omega
 have hf:=fun W=>aq (fits_any (stI a b c) W);rw [hd]at hf;unfold regV at hr;go_enter func340,ntmps340;go_wp2_with (first
  | (go_at_call 355;refine(hf _).out.mono ?_;rintro e w' ⟨rfl,rfl⟩)
  | (go_at_call 356;refine(hr _).out.mono ?_;rintro e w1 ⟨rfl,hB1⟩))
 have hob:Ownv 404 (w1.alloc (.cells #[.int .i64 (ib a),.int .i64 (ib b),.int .i64 (ib c),.slice none 0 0] 404)) w1.heap.size (some ⟨w1.heap.size,0,none⟩) 4 4 [.int .i64 (ib a),.int .i64 (ib b),.int .i64 (ib c),.slice none 0 0] :=
  Ownv.lit w1 #[.int .i64 (ib a),.int .i64 (ib b),.int .i64 (ib c),.slice none 0 0] 404 rfl (Nat.le_refl _) (by show 4<=maxLen;unfold maxLen;omega)
 have hsz:w.heap.size+2<=w1.heap.size:=by have:=hB1.size;simpa using this
 have hst:EncSt (w.heap.size+2) (w1.alloc (.cells #[.int .i64 (ib a),.int .i64 (ib b),.int .i64 (ib c),.slice none 0 0] 404)) w1.heap.size a b c none 0 0 []:=⟨hob.mono hsz,Own.nilv _ _ _ _,fun h=>absurd rfl h,by simp;omega⟩
 have hA:∀ f,Arr3 (w1.alloc (.cells #[.int .i64 (ib a),.int .i64 (ib b),.int .i64 (ib c),.slice none 0 0] 404)) w.heap.size w.heap.size f 0:=fun f =>
  ⟨[0,0,0],Ownv.alloc (Ownv.below (Ownv.alloc (Own.of_eq (Ownv.lit w #[.int .u8 0,.int .u8 0,.int .u8 0] 329 rfl (Nat.le_refl _) (by show 3<=maxLen;unfold maxLen;omega)) rfl rfl) _) hB1) _,by intro q hq;omega⟩
 have hA2:∀ f,Arr3 (w1.alloc (.cells #[.int .i64 (ib a),.int .i64 (ib b),.int .i64 (ib c),.slice none 0 0] 404)) w.heap.size (w.heap.size+1) f 0:=fun f =>
  ⟨[0,0,0],Ownv.alloc (Ownv.below (Own.of_eq (Ownv.lit (w.alloc _) #[.int .u8 0,.int .u8 0,.int .u8 0] 329 (by simp) (by simp) (by show 3<=maxLen;unfold maxLen;omega)) rfl rfl) hB1) _,by intro q hq;omega⟩
 have hB0:Below w.heap.size w (w1.alloc (.cells #[.int .i64 (ib a),.int .i64 (ib b),.int .i64 (ib c),.slice none 0 0] 404)):=((((Below.refl _ w).alloc (Nat.le_refl _) _).alloc (by simp) _).trans (hB1.mono (by simp;omega))).alloc (by omega) _;go_loopw [16] (fun i wr=>TailInv a b c w w1.heap.size i wr) (fun i _=>3 - (intOf i).toNat)
 case atStart=>exact⟨0,none,0,[],by omega,rfl,hA _,hA2 _,hst,hB0⟩
 case round =>
  obtain⟨j,A,cp,ps,hj,rfl,hU,hZ,hst',hB⟩:=hrel;clear hst hA hA2 hB0 hob hf hr;generalize w1.heap.size=o at *;by_cases hlt:j<3
  . obtain⟨q1,q2,q3⟩:=tl_step a b c j hlt
    have hub:0<=ib (tlU a b c j)/\ib (tlU a b c j)<=1:=by cases tlU a b c j<;>decide
    have hzb:0<=ib (tlZ a b c j)/\ib (tlZ a b c j)<=1:=by cases tlZ a b c j<;>decide
    have hwu:IntKind.u8.wrap (ib (tlU a b c j))=ib (tlU a b c j):=by cases tlU a b c j<;>decide
    have hwz:IntKind.u8.wrap (ib (tlZ a b c j))=ib (tlZ a b c j):=by cases tlZ a b c j<;>decide
    have Q1:=aq q1;have Q2:=aq q2;clear q1 q2;generalize tlS a b c j=s at *;generalize hs':tlS a b c (j+1)=s' at *;have HE:=fun W=>aq (ending_any s.1 s.2.1 s.2.2 W);rw [q3]at HE;clear q3;have HSZ:=aq hst'.le;obtain⟨vu,hOu,hqu⟩:=hU;obtain⟨vz,hOz,hqz⟩:=hZ;have HT:∀ W,EncSt (w.heap.size+2) W o s.1 s.2.1 s.2.2 A j cp ps->Hid (Calls prog 353 #[.pointer (some ⟨o,0,none⟩),.int .i64 (ib (tlU a b c j))] W fun e w'=>e= .returned (.int .i64 (ib (tlZ a b c j)))/\(∃ A' cp',EncSt (w.heap.size+2) w' o s'.1 s'.2.1 s'.2.2 A' (j+1) cp' (ps ++ [tlZ a b c j]))/\Below (w.heap.size+2) W w'):=fun W hW=>aq (by
     have:=takes_any (w.heap.size+2) o s.1 s.2.1 s.2.2 (tlU a b c j) A j cp ps W hW (by omega);have e1:(tlU a b c j ^^ s.2.1 ^^ s.2.2 ^^ s.1 ^^ s.2.2)=tlZ a b c j:=Q2.o;rw [e1]at this;refine this.mono ?_;rintro e w' ⟨h1,⟨A',cp',h2⟩,h3⟩;refine⟨h1,⟨A',cp',?_⟩,h3⟩;have e2:s'=(tlU a b c j ^^ s.2.1 ^^ s.2.2,s.1,s.2.1):=Q1.o.symm;rw [e2];exact h2)
    have HU:=aq hqu;have HZ:=aq hqz;have HST:=aq hst';obtain⟨c0,c1,c2,c3,f0,f1,f2,f3⟩:=hst'.facts;have HQ:=aq hs';clear hqu hqz hst' hs';generalize hiu:ib (tlU a b c j)=iu at *;generalize hiz:ib (tlZ a b c j)=iz at *;have HIU:=aq hiu;have HIZ:=aq hiz;have HB:=aq hB;clear hiu hiz hB;unfold regV at HE;rcases (by omega:j=0\/j=1\/j=2) with rfl | rfl | rfl
    all_goals try simp only [Int.ofNat_zero,Int.ofNat_one,Int.cast_ofNat_Int]
    . have hcu:=Rd.cell (Own.rd hOu) hlt
      have hcz:=Rd.cell (Own.rd hOz) hlt;have hfu:=Ownv.frozen hOu (by omega) 0;have hfz:=Ownv.frozen hOz (by omega) 0;simp only [adr_some,Nat.zero_add]at hcu hcz hfu hfz;go_wp2_with (go_at_call 357;refine(HE _).out.mono ?_;rintro e w2 ⟨rfl,hB2⟩);have HB2:=aq (HB.o.trans (hB2.mono HB.o.size));have hU2:=Ownv.below hOu hB2;have hZ2:=Ownv.below hOz hB2;have hS2:=HST.o.below hB2;have HU2:=aq hU2;have HZ2:=aq hZ2;have HS2:=aq hS2;have hcu2:=Rd.cell (Own.rd hU2) hlt;have hcz2:=Rd.cell (Own.rd hZ2) hlt;have hfu2:=Ownv.frozen hU2 (by omega) 0;have hfz2:=Ownv.frozen hZ2 (by omega) 0;simp only [adr_some,Nat.zero_add]at hcu2 hcz2 hfu2 hfz2;clear hU2 hZ2 hS2 hOu hOz hcu hcz hfu hfz c0 c1 c2 c3 f0 f1 f2 f3 hB2;go_region_with (go_at_call 353;refine(HT _ ?_).out.mono ?_;exact HS2.o.below (Below.refl _ _).drew;rintro e w4 ⟨rfl,⟨A4,cp4,hS4⟩,hB4⟩;have g1:=hB4.cell (p:=⟨w.heap.size,0,none⟩) (by simp);have g2:=hB4.frozen (p:=⟨w.heap.size,0,none⟩) (by simp);have g3:=hB4.cell (p:=⟨w.heap.size+1,0,none⟩) (by simp);have g4:=hB4.frozen (p:=⟨w.heap.size+1,0,none⟩) (by simp));have HBd:=aq ((Below.refl (w.heap.size+2) w2).drew.trans hB4);have HS4:=aq hS4;clear hB4 hS4 g1 g2 g3 g4 hcu2 hcz2 hfu2 hfz2;go_wp2;go_roundw
      case rel=>exact tail_next a b c w w2 w4 o 0 hlt vu vz A4 cp4 _ s' HQ.o HU2.o HU.o HZ2.o HZ.o HB2.o HBd.o HS4.o iu iz HIU.o HIZ.o
      case measure=>simp [intOf]
    . have hcu:=Rd.cell (Own.rd hOu) hlt
      have hcz:=Rd.cell (Own.rd hOz) hlt;have hfu:=Ownv.frozen hOu (by omega) 1;have hfz:=Ownv.frozen hOz (by omega) 1;simp only [adr_some,Nat.zero_add]at hcu hcz hfu hfz;go_wp2_with (go_at_call 357;refine(HE _).out.mono ?_;rintro e w2 ⟨rfl,hB2⟩);have HB2:=aq (HB.o.trans (hB2.mono HB.o.size));have hU2:=Ownv.below hOu hB2;have hZ2:=Ownv.below hOz hB2;have hS2:=HST.o.below hB2;have HU2:=aq hU2;have HZ2:=aq hZ2;have HS2:=aq hS2;have hcu2:=Rd.cell (Own.rd hU2) hlt;have hcz2:=Rd.cell (Own.rd hZ2) hlt;have hfu2:=Ownv.frozen hU2 (by omega) 1;have hfz2:=Ownv.frozen hZ2 (by omega) 1;simp only [adr_some,Nat.zero_add]at hcu2 hcz2 hfu2 hfz2;clear hU2 hZ2 hS2 hOu hOz hcu hcz hfu hfz c0 c1 c2 c3 f0 f1 f2 f3 hB2;go_region_with (go_at_call 353;refine(HT _ ?_).out.mono ?_;exact HS2.o.below (Below.refl _ _).drew;rintro e w4 ⟨rfl,⟨A4,cp4,hS4⟩,hB4⟩;have g1:=hB4.cell (p:=⟨w.heap.size,1,none⟩) (by simp);have g2:=hB4.frozen (p:=⟨w.heap.size,1,none⟩) (by simp);have g3:=hB4.cell (p:=⟨w.heap.size+1,1,none⟩) (by simp);have g4:=hB4.frozen (p:=⟨w.heap.size+1,1,none⟩) (by simp));have HBd:=aq ((Below.refl (w.heap.size+2) w2).drew.trans hB4);have HS4:=aq hS4;clear hB4 hS4 g1 g2 g3 g4 hcu2 hcz2 hfu2 hfz2;go_wp2;go_roundw
      case rel=>exact tail_next a b c w w2 w4 o 1 hlt vu vz A4 cp4 _ s' HQ.o HU2.o HU.o HZ2.o HZ.o HB2.o HBd.o HS4.o iu iz HIU.o HIZ.o
      case measure=>simp [intOf]
    . have hcu:=Rd.cell (Own.rd hOu) hlt
      have hcz:=Rd.cell (Own.rd hOz) hlt;have hfu:=Ownv.frozen hOu (by omega) 2;have hfz:=Ownv.frozen hOz (by omega) 2;simp only [adr_some,Nat.zero_add]at hcu hcz hfu hfz;go_wp2_with (go_at_call 357;refine(HE _).out.mono ?_;rintro e w2 ⟨rfl,hB2⟩);have HB2:=aq (HB.o.trans (hB2.mono HB.o.size));have hU2:=Ownv.below hOu hB2;have hZ2:=Ownv.below hOz hB2;have hS2:=HST.o.below hB2;have HU2:=aq hU2;have HZ2:=aq hZ2;have HS2:=aq hS2;have hcu2:=Rd.cell (Own.rd hU2) hlt;have hcz2:=Rd.cell (Own.rd hZ2) hlt;have hfu2:=Ownv.frozen hU2 (by omega) 2;have hfz2:=Ownv.frozen hZ2 (by omega) 2;simp only [adr_some,Nat.zero_add]at hcu2 hcz2 hfu2 hfz2;clear hU2 hZ2 hS2 hOu hOz hcu hcz hfu hfz c0 c1 c2 c3 f0 f1 f2 f3 hB2;go_region_with (go_at_call 353;refine(HT _ ?_).out.mono ?_;exact HS2.o.below (Below.refl _ _).drew;rintro e w4 ⟨rfl,⟨A4,cp4,hS4⟩,hB4⟩;have g1:=hB4.cell (p:=⟨w.heap.size,2,none⟩) (by simp);have g2:=hB4.frozen (p:=⟨w.heap.size,2,none⟩) (by simp);have g3:=hB4.cell (p:=⟨w.heap.size+1,2,none⟩) (by simp);have g4:=hB4.frozen (p:=⟨w.heap.size+1,2,none⟩) (by simp));have HBd:=aq ((Below.refl (w.heap.size+2) w2).drew.trans hB4);have HS4:=aq hS4;clear hB4 hS4 g1 g2 g3 g4 hcu2 hcz2 hfu2 hfz2;go_wp2;go_roundw
      case rel=>exact tail_next a b c w w2 w4 o 2 hlt vu vz A4 cp4 _ s' HQ.o HU2.o HU.o HZ2.o HZ.o HB2.o HBd.o HS4.o iu iz HIU.o HIZ.o
      case measure=>simp [intOf]
  . obtain rfl:j=3:=by omega
    have HU:=aq hU.vals;have HZ:=aq hZ.vals;have u0:=Rd.cell (Own.rd HU.o) (j:=0) (by omega);have u1:=Rd.cell (Own.rd HU.o) (j:=1) (by omega);have u2:=Rd.cell (Own.rd HU.o) (j:=2) (by omega);have z0:=Rd.cell (Own.rd HZ.o) (j:=0) (by omega);have z1:=Rd.cell (Own.rd HZ.o) (j:=1) (by omega);have z2:=Rd.cell (Own.rd HZ.o) (j:=2) (by omega);have fu0:=Ownv.frozen HU.o (by omega) 0;have fu1:=Ownv.frozen HU.o (by omega) 1;have fu2:=Ownv.frozen HU.o (by omega) 2;have fz0:=Ownv.frozen HZ.o (by omega) 0;have fz1:=Ownv.frozen HZ.o (by omega) 1;have fz2:=Ownv.frozen HZ.o (by omega) 2;have gi0:∀ x y z,gi [x,y,z] 0=x:=fun _ _ _=>rfl;have gi1:∀ x y z,gi [x,y,z] 1=y:=fun _ _ _=>rfl;have gi2:∀ x y z,gi [x,y,z] 2=z:=fun _ _ _=>rfl;simp only [gi0,gi1,gi2]at u0 u1 u2 z0 z1 z2;simp only [adr_some,Nat.zero_add]at u0 u1 u2 z0 z1 z2 fu0 fu1 fu2 fz0 fz1 fz2;clear gi0 gi1 gi2 hst' hU hZ;have HB:=aq hB;clear hB;go_wp2;go_region;go_wp2;have s1:=Own.set3 HU.o (ib (tlU a b c 0)) (ib (tlU a b c 1)) (ib (tlU a b c 2));have hne:(some (blk (some ⟨w.heap.size+1,0,none⟩)))≠some w.heap.size:=fun he=>by have:=Option.some.inj he;simp [blk]at this
    have hne':(some (blk (some ⟨w.heap.size,0,none⟩)))≠some (w.heap.size+1):=fun he=>by have:=Option.some.inj he;simp [blk]at this
    have s2:=Own.set3 (Ownv.grown HZ.o s1.2 (fun _=>hne)) (ib (tlZ a b c 0)) (ib (tlZ a b c 1)) (ib (tlZ a b c 2));have s3:Own .u8 329 _ _ _ 3 3 [(ib (tlU a b c 0)),(ib (tlU a b c 1)),(ib (tlU a b c 2))]:=Ownv.grown s1.1 s2.2 (fun _=>hne');have b1:=HB.o.grown s1.2 HB.o.size (fun k hk=>by have:=Option.some.inj hk;omega);have b2:=b1.grown s2.2 b1.size (fun k hk=>by have:=Option.some.inj hk;omega);refine bodyPost_ret (v:=.tuple #[.agg #[.int .u8 (ib (tlU a b c 0)),.int .u8 (ib (tlU a b c 1)),.int .u8 (ib (tlU a b c 2))],.agg #[.int .u8 (ib (tlZ a b c 0)),.int .u8 (ib (tlZ a b c 1)),.int .u8 (ib (tlZ a b c 2))],.int .i64 0]) ?_ rfl ⟨rfl,b2.drew⟩;rw [results_cct rfl];have l1:=load_u8x3 (Ownv.drew s3);have l2:=load_u8x3 (Ownv.drew s2.1);simp [asAddr,l1,l2,Sem.run_pure]
end Go.Proofs.YthmhogdceolkdaaGreat
namespace Go.Proofs.YthmhogdceolkdaaGreat.Tu
open Tryz
open Go.RowKit
set_option maxRecDepth 100000
set_option maxHeartbeats 400000
theorem el62:El prog 127 53 (.slice none 0 0) 24:=⟨by kernel_rfl,by kernel_rfl,fun _=>by kernel_rfl,rfl⟩
theorem Rdv.slhm{P:Program}{w:World}{A:Option Addr}{n c:Nat}{vs:List Value}(h:Rdv w A n c vs){t e:TypeId}{z:Value}{bytes:Nat}(E:El P t e z bytes)(kh km:IntKind){m:Nat}(hm:m<=c)(W:World) :
 (Instr.sliceAt t (.slice A n c) none (some (.int kh (m:Int))) (some (.int km (m:Int)))).run P W= .ok (.slice A m m) W:=by
 have e1:P.underlying t=some (.slice (P.elem t)):=by rw [E.u];simp [Program.elem,E.u]
 have e2:P.elem t=e:=by simp [Program.elem,E.u]
 rw [run_sliceAt_slice W t _ _ _ _ e1,run_slice_hm W t A n c e1 kh km m m (by omega) (by omega) (by omega),e2,E.s];simp only [Result.andThen_ok,Int.toNat_natCast,sliced,Nat.zero_mul,Nat.sub_zero];congr 2;split
 . rfl
 . cases A<;>simp [Addr.add]
theorem Rdv.capn{w:World}{A:Option Addr}{n c:Nat}{vs:List Value}(h:Rdv w A n c vs):Rdv w A n n vs:=by
 have hle:=h.le;exact⟨h.len,Nat.le_refl _,Nat.le_trans hle h.cm,fun e=>by have:=h.nil e;omega,fun hn=>h.spot (by omega),fun hn=>h.lt (by omega),h.at_⟩
def tailV(x:Nat->Int):Value:=.agg #[.int .u8 (x 0),.int .u8 (x 1),.int .u8 (x 2),.int .u8 (x 3),.int .u8 (x 4),.int .u8 (x 5)]
theorem at_any51(x:Nat->Int)(i p:Nat)(hip:(i=0/\p=1)\/(i=2/\p=0)\/(i=1/\p=2))(w:World) :
 Calls prog 343 #[tailV x,.int .i64 (i:Int),.int .i64 (p:Int)] w fun e w'=>e= .returned (.tuple #[.int .u8 (x i),.int .u8 (x (3+p))])/\Below w.heap.size w w':=by
 unfold tailV;rcases hip with⟨rfl,rfl⟩ | ⟨rfl,rfl⟩ | ⟨rfl,rfl⟩
 all_goals (
  go_enter func343,ntmps343
  go_wp2
  go_quiet (fail)
  go_wp2
  go_ret2
  exact⟨rfl,((Below.refl _ w).alloc (Nat.le_refl _) _).trans (by first | exact Below.refl _ _ | exact Qt.below ⟨_,rfl⟩ _)⟩)
def endL(x:Nat->Int)(j:Nat):List Int:=if j=0 then [x 0,x 4] else if j=1 then [x 3,x 2] else [x 1,x 5]
theorem ending_any31(x:Nat->Int)(j:Nat)(hj:j<3)(w:World) :
 Calls prog 317 #[tailV x,.int .i64 (j:Int)] w fun e w'=>∃ A,e= .returned (.slice A 2 2)/\Own .u8 5 w' w.heap.size A 2 2 (endL x j)/\Below w.heap.size w w':=by
 have h0:=fun W=>aq (at_any51 x 0 1 (by omega) W);have h1:=fun W=>aq (at_any51 x 2 0 (by omega) W);have h2:=fun W=>aq (at_any51 x 1 2 (by omega) W);unfold tailV at *;rcases (by omega:j=0\/j=1\/j=2) with rfl | rfl | rfl
 . go_enter func317,ntmps317
   go_wp2_with (go_at_call 343;refine(h0 _).out.mono ?_;rintro e w1 ⟨rfl,hB⟩);go_ret;exact⟨_,rfl,(Own.of_eq (Ownv.lit w1 #[.int .u8 (x 0),.int .u8 (x 4)] 5 rfl (by have:=hB.size;simp at this;omega) (by show 2<=maxLen;unfold maxLen;omega)) rfl rfl),(((Below.refl _ w).alloc (Nat.le_refl _) _).trans (hB.mono (by simp))).alloc (by have:=hB.size;simp at this;omega) _⟩
 . go_enter func317,ntmps317
   go_wp2_with (go_at_call 343;refine(h1 _).out.mono ?_;rintro e w1 ⟨rfl,hB⟩);go_ret;exact⟨_,rfl,(Own.of_eq (Ownv.lit w1 #[.int .u8 (x 3),.int .u8 (x 2)] 5 rfl (by have:=hB.size;simp at this;omega) (by show 2<=maxLen;unfold maxLen;omega)) rfl rfl),(((Below.refl _ w).alloc (Nat.le_refl _) _).trans (hB.mono (by simp))).alloc (by have:=hB.size;simp at this;omega) _⟩
 . go_enter func317,ntmps317
   go_wp2_with (go_at_call 343;refine(h2 _).out.mono ?_;rintro e w1 ⟨rfl,hB⟩);go_ret;exact⟨_,rfl,(Own.of_eq (Ownv.lit w1 #[.int .u8 (x 1),.int .u8 (x 5)] 5 rfl (by have:=hB.size;simp at this;omega) (by show 2<=maxLen;unfold maxLen;omega)) rfl rfl),(((Below.refl _ w).alloc (Nat.le_refl _) _).trans (hB.mono (by simp))).alloc (by have:=hB.size;simp at this;omega) _⟩
def stN(n m j:Nat):Nat:=if j=0 then 0 else if j=1 then n else n+m
def stX(xs ys:List Int)(j:Nat):List Int:=if j=0 then [] else if j=1 then xs else xs ++ ys
def StreamInv(w:World)(n m:Nat)(xs ys:List Int)(i o:Value)(wr:World):Prop :=
 ∃ (j:Nat) (A:Option Addr) (c:Nat),j<=2/\i= .int .i64 j/\o= .slice A (stN n m j) c/\Own .u8 5 wr w.heap.size A (stN n m j) c (stX xs ys j)/\Below w.heap.size w wr
theorem stream2_any(O A B:Option Addr)(n c m d:Nat)(xs ys:List Int)(w:World)(hp:Rdv w O 2 2 [.slice A n c,.slice B m d])(hx:Rd .u8 w A n c xs)(hy:Rd .u8 w B m d ys)(hn:n<=100000)(hm:m<=100000) :
 Calls prog 316 #[.slice O 2 2] w fun e w'=>∃ A' c',e= .returned (.slice A' (n+m) c')/\Own .u8 5 w' w.heap.size A' (n+m) c' (xs ++ ys)/\Below w.heap.size w w':=by
 have sx:=fun W=>Rdv.slhm hx el22 .i64 .i64 (Rdv.le hx) W;have sy:=fun W=>Rdv.slhm hy el22 .i64 .i64 (Rdv.le hy) W;go_enter func316,ntmps316;go_wp2;go_loopw [7,2] (fun i o wr=>StreamInv w n m xs ys i o wr) (fun i _ _=>2 - (intOf i).toNat)
 case atStart=>exact⟨0,none,0,by omega,rfl,rfl,Own.nilv _ _ _ _,Below.refl _ _⟩
 case round =>
  obtain⟨j,A1,c1,hj,rfl,rfl,hO,hB⟩:=hrel;have hp1:=Rdv.below hp hB;have hsz:=hB.size;rcases (by omega:j=0\/j=1\/j=2) with rfl | rfl | rfl
  . have hix:=fun W=>Rdv.ixI hp1 el62 (j:=0) (by omega) .i64 0 rfl W
    have hcell:=hp1.at_ 0 _ rfl;have hxx:=Rdv.capn (Rdv.below hx hB);have e0:stN n m 0=0:=rfl;have e1:stX xs ys 0=[]:=rfl;rw [e0,e1]at hO;rw [e0];clear e0 e1;go_wp2_with (at_builtin;refine list_of rfl fun K hK=>wp_app _ _ 53 rfl el22 rfl rfl hO hxx (oneCell_ints .u8 xs) (by omega) (by unfold maxLen;omega) hsz ?_;intro A' c' w' hO' hg;refine hK _ _ ?_;clear hK K);go_roundw
    case rel=>exact⟨1,A',c',by omega,rfl,by simp [stN],by rw [Nat.zero_add]at hO';exact hO',hB.grown hg hsz (fun k hk=>Ownv.ob' hO hk)⟩
    case measure=>simp [intOf]
  . have hix:=fun W=>Rdv.ixI hp1 el62 (j:=1) (by omega) .i64 1 rfl W
    have hcell:=hp1.at_ 1 _ rfl;have hyy:=Rdv.capn (Rdv.below hy hB);have e0:stN n m 1=n:=rfl;have e1:stX xs ys 1=xs:=rfl;rw [e0,e1]at hO;rw [e0];clear e0 e1;go_wp2_with (at_builtin;refine list_of rfl fun K hK=>wp_app _ _ 53 rfl el22 rfl rfl hO hyy (oneCell_ints .u8 ys) (by omega) (by unfold maxLen;omega) hsz ?_;intro A' c' w' hO' hg;refine hK _ _ ?_;clear hK K);go_roundw
    case rel=>exact⟨2,A',c',by omega,rfl,by simp [stN],Own.of_eq hO' rfl (by simp [stX]),hB.grown hg hsz (fun k hk=>Ownv.ob' hO hk)⟩
    case measure=>simp [intOf]
  . go_wp2
    go_ret;exact⟨A1,c1,rfl,hO,hB⟩
set_option maxHeartbeats 600000
def putC(w:World)(b:Nat):Nat->List Value->World
 | _,[]=>w
 | j,v :: l=>putC (w.setCell ⟨b,j,none⟩ v) b (j+1) l
theorem Ownv.putC_{e:TypeId}{base b n c:Nat}:∀ (l:List Value) {w:World} {vs:List Value} (j:Nat),Ownv e w base (some ⟨b,0,none⟩) n c vs->j+l.length<=n->Ownv e (putC w b j l) base (some ⟨b,0,none⟩) n c (vs.take j ++ l ++ vs.drop (j+l.length))/\w.grownBy (putC w b j l) (some b)
 | [],w,vs,j,h,hj=>⟨by simpa [putC] using h,World.grownBy.refl _ _⟩
 | v :: l,w,vs,j,h,hj=>by
   have hl:=h.rd.len;simp only [List.length_cons]at hj;have h1:=Ownv.set_ h (j:=j) (by omega) v;simp only [adr_some,Nat.zero_add]at h1;have h2:=Ownv.putC_ l (j+1) h1.1 (by omega);refine⟨?_,h1.2.trans h2.2⟩;have e1:(vs.set j v).take (j+1) ++ l ++ (vs.set j v).drop (j+1+l.length)=vs.take j ++ (v :: l) ++ vs.drop (j+(v :: l).length):=by
    rw [List.take_add_one,List.take_set_of_le (Nat.le_refl j),List.getElem?_set_self (by omega),List.drop_set_of_lt (by omega)];simp only [Option.toList_some,List.append_assoc,List.cons_append,List.nil_append,List.length_cons];rw [show j+1+l.length=j+(l.length+1) by omega]
   rw [<- e1];exact h2.1
theorem Ownv.putAll{e:TypeId}{base b n c:Nat}(l:List Value){w:World}{vs:List Value}(h:Ownv e w base (some ⟨b,0,none⟩) n c vs)(hl:l.length=n):Ownv e (putC w b 0 l) base (some ⟨b,0,none⟩) n c l/\w.grownBy (putC w b 0 l) (some b):=by
 have:=Ownv.putC_ l 0 h (by omega);have hv:=h.rd.len;rw [List.take_zero,List.nil_append,Nat.zero_add,List.drop_of_length_le (by omega),List.append_nil]at this;exact this
def tlI(s:St3)(j:Nat):Int:=if j<3 then ib (tu s j) else ib (tz s (j - 3))
def encL(s:St3)(A:Option Addr)(n c:Nat):List Value:=[.int .u8 (tlI s 0),.int .u8 (tlI s 1),.int .u8 (tlI s 2),.int .u8 (tlI s 3),.int .u8 (tlI s 4),.int .u8 (tlI s 5),.slice A n c]
def encV(s:St3)(A:Option Addr)(n c:Nat):Value:=.agg (encL s A n c).toArray
def enc0:List Value:=[.int .u8 0,.int .u8 0,.int .u8 0,.int .u8 0,.int .u8 0,.int .u8 0,.slice none 0 0]
theorem res28(a:Array Value)(W:World)(base g:Nat)(l:List Value)(hl:l.length=7)(E:Int)(h2:a.getD 2 undef= .pointer (some ⟨g,0,none⟩))(h3:a.getD 3 undef= .int .i64 E)(hO:Ownv 362 W base (some ⟨g,0,none⟩) 7 7 l) :
 (results Tryz.f314 a).run prog W= .ok (.tuple #[.agg l.toArray,.int .i64 E]) W:=by
 rw [results_cell_tmp rfl,h2,h3];have h9:(prog.info? 362).map (·.size)=some 7:=by kernel_rfl
 have hl:=run_loadVar_row (P:=prog) W g 362 362 _ (0,0) _ (Ownv.row hO) underlying362 rfl (by rw [h9];simp [hl]);simp [asAddr,hl,Sem.run_pure]
theorem encoded_bad(A:Option Addr)(n c:Nat)(xs:List Int)(w:World)(h:Rd .u8 w A n c xs)(hv:ValidB xs=false) :
 Calls prog 314 #[.slice A n c] w fun e w'=>e= .returned (.tuple #[.agg enc0.toArray,.int .i64 3])/\Below w.heap.size w w':=by
 have hO:Ownv 362 (w.alloc (.cells enc0.toArray 362)) w.heap.size (some ⟨w.heap.size,0,none⟩) 7 7 enc0:=Ownv.lit w enc0.toArray 362 rfl (Nat.le_refl _) (by show 7<=maxLen;unfold maxLen;omega);have HO:=aq hO;have f0:=Ownv.frozen hO (by omega) 0;have f1:=Ownv.frozen hO (by omega) 1;have f2:=Ownv.frozen hO (by omega) 2;have f3:=Ownv.frozen hO (by omega) 3;have f4:=Ownv.frozen hO (by omega) 4;have f5:=Ownv.frozen hO (by omega) 5;have f6:=Ownv.frozen hO (by omega) 6;clear hO;have hb:=tencode_bad A n c xs _ (Rdv.alloc h (.cells enc0.toArray 362)) hv;unfold enc0 at hb f0 f1 f2 f3 f4 f5 f6;simp only [adr_some,Nat.zero_add]at f0 f1 f2 f3 f4 f5 f6;have HB:=aq hb;clear hb;go_enter func314,ntmps314;go_wp2_with (go_at_call 339;refine HB.o.mono ?_;rintro e w' ⟨rfl,rfl⟩);exact bodyPost_ret (res28 _ _ w.heap.size w.heap.size enc0 rfl 3 rfl rfl HO.o) rfl ⟨rfl,(Below.refl _ w).alloc (Nat.le_refl _) _⟩
theorem encoded_any(A:Option Addr)(n c:Nat)(bs:List Bool)(w:World)(h:Rd .u8 w A n c (bs.map ib))(hn:n<=100000) :
 Calls prog 314 #[.slice A n c] w fun e w'=>∃ A' c',e= .returned (.tuple #[encV (fin bs) A' n c',.int .i64 0])/\Own .u8 5 w' w.heap.size A' n c' ((parL s0 bs).map ib)/\Below w.heap.size w w':=by
 have hO:Ownv 362 (w.alloc (.cells enc0.toArray 362)) w.heap.size (some ⟨w.heap.size,0,none⟩) 7 7 enc0:=Ownv.lit w enc0.toArray 362 rfl (Nat.le_refl _) (by show 7<=maxLen;unfold maxLen;omega);have HO:=aq hO;clear hO;have he:=tencode_any A n c bs _ (Rdv.alloc h (.cells enc0.toArray 362)) hn;unfold enc0 at he;have HE:=aq he;clear he;have ht:=fun W=>aq (tail_any (fin bs).1 (fin bs).2.1 (fin bs).2.2 W);unfold fin at *;generalize hs:List.foldl stp s0 bs=s at *;generalize hp:(parL s0 bs).map ib=ps at *;have HP:=aq hp;have HS:=aq hs;clear hp hs h;go_enter func314,ntmps314;go_wp2_with fail;refine HE.o.mono ?_;rintro e w1 ⟨A1,c1,rfl,hR1,hB1⟩;have HR1:=aq hR1;have hsz:w.heap.size+1<=w1.heap.size:=by have:=hB1.size;simpa using this
 have HB1:=aq hB1;clear hR1 hB1 HE;have HO1:=aq (HO.o.below HB1.o);go_wp2_with (go_at_call 340;refine(ht _).out.mono ?_;rintro e w2 ⟨rfl,hB2⟩;have hO2:=((HO1.o.below hB2).alloc (.cells #[.int .u8 (ib (tlU s.1 s.2.1 s.2.2 0)),.int .u8 (ib (tlU s.1 s.2.1 s.2.2 1)),.int .u8 (ib (tlU s.1 s.2.1 s.2.2 2))] 329)).alloc (.cells #[.int .u8 (ib (tlZ s.1 s.2.1 s.2.2 0)),.int .u8 (ib (tlZ s.1 s.2.1 s.2.2 1)),.int .u8 (ib (tlZ s.1 s.2.1 s.2.2 2))] 329);have hsz2:=hB2.size;have d0:=hO2.rd.at_ 0 _ rfl;have f0:=Ownv.frozen hO2 (by omega) 0;have d1:=hO2.rd.at_ 1 _ rfl;have f1:=Ownv.frozen hO2 (by omega) 1;have d2:=hO2.rd.at_ 2 _ rfl;have f2:=Ownv.frozen hO2 (by omega) 2;have d3:=hO2.rd.at_ 3 _ rfl;have f3:=Ownv.frozen hO2 (by omega) 3;have d4:=hO2.rd.at_ 4 _ rfl;have f4:=Ownv.frozen hO2 (by omega) 4;have d5:=hO2.rd.at_ 5 _ rfl;have f5:=Ownv.frozen hO2 (by omega) 5;have d6:=hO2.rd.at_ 6 _ rfl;have f6:=Ownv.frozen hO2 (by omega) 6;simp only [adr_some,Nat.zero_add]at d0 d1 d2 d3 d4 d5 d6 f0 f1 f2 f3 f4 f5 f6;have HO2:=aq hO2;have HB2:=aq hB2;clear hO2 hB2);have a2:=Ownv.putAll (encL s A1 n c1) HO2.o rfl;have b1:Below w.heap.size w w1:=((Below.refl _ w).alloc (Nat.le_refl _) _).trans (HB1.o.mono (by simp));have b2:Below w.heap.size w w2:=b1.trans (HB2.o.mono (by omega));have b3:=((b2.alloc (by omega) (.cells #[.int .u8 (ib (tlU s.1 s.2.1 s.2.2 0)),.int .u8 (ib (tlU s.1 s.2.1 s.2.2 1)),.int .u8 (ib (tlU s.1 s.2.1 s.2.2 2))] 329)).alloc (by simp;omega) (.cells #[.int .u8 (ib (tlZ s.1 s.2.1 s.2.2 0)),.int .u8 (ib (tlZ s.1 s.2.1 s.2.2 1)),.int .u8 (ib (tlZ s.1 s.2.1 s.2.2 2))] 329)).grown a2.2 (by simp;omega) (fun k hk=>by have:=Option.some.inj hk;omega);have r1:Own .u8 5 _ w.heap.size A1 n c1 ps:=Ownv.grown (Ownv.alloc (Ownv.alloc (Ownv.below (Ownv.mono HR1.o (by simp)) HB2.o) _) _) a2.2 (fun hA he=>by have h8:=(Ownv.blk_of HR1.o hA).1;have:=Option.some.inj he;simp at h8;omega);refine bodyPost_ret (res28 _ _ w.heap.size w.heap.size (encL s A1 n c1) rfl 0 rfl rfl a2.1) rfl ⟨A1,c1,?_,?_,b3⟩
 . rw [<- HS.o];rfl
 . exact r1
end Go.Proofs.YthmhogdceolkdaaGreat.Tu