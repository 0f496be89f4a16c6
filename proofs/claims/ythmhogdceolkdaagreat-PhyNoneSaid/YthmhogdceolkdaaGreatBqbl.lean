/- Bundle. Conditions: none. -/
import Derived.Test.YthmhogdceolkdaaGreatBqbk
import Derived.Test.YthmhogdceolkdaaGreatBqbb
import Derived.Test.YthmhogdceolkdaaGreatBqas
set_option linter.unusedVariables false
set_option linter.unusedSimpArgs false
namespace Go.Proofs.YthmhogdceolkdaaGreat
open Tryz
open Go.RowKit
attribute [local go_sem] Oper.semAt_some
set_option maxRecDepth 100000
set_option maxHeartbeats 1000000
def ptL(bs:List Int)(f j:Nat):List Int:=(List.range j).map fun q=>gi bs (f+2*q)
def ptN(n f:Nat):Nat:=(n+1 - f) / 2
theorem ptL_succ(bs:List Int)(f j:Nat):ptL bs f (j+1)=ptL bs f j ++ [gi bs (f+2*j)]:=by unfold ptL;rw [List.range_succ,List.map_append];rfl
theorem ptL_len(bs:List Int)(f j:Nat):(ptL bs f j).length=j:=by simp [ptL]
theorem part_any(A:Option Addr)(n c:Nat)(bs:List Int)(f:Nat)(w:World)(h:Rd .u8 w A n c bs)(hn:n<=1000)(hf:f<=1) :
 Calls prog 222 #[.slice A n c,.int .i64 (f:Int)] w fun e w'=>∃ A' c',e= .returned (.slice A' (ptN n f) c')/\Own .u8 5 w' w.heap.size A' (ptN n f) c' (ptL bs f (ptN n f))/\Below w.heap.size w w':=by
 have HH:=aq h;have HI:=aq (fun(q:Nat) (hq:q<n)=>fun W=>Rdv.ix h el26 hq .i64 W);clear h;obtain⟨N,hN⟩:∃ N,N=ptN n f:=⟨_,rfl⟩
 rw [<- hN];unfold ptN at hN;have HN:=aq hN;clear hN;go_enter func222,ntmps222;go_wp2_with fail;go_loopw [5,4] (fun i l wr=>∃ (j q:Nat) (A':Option Addr) (c':Nat),j<=N/\q=f+2*j/\i= .int .i64 (q:Int)/\l= .slice A' j c'/\Own .u8 5 wr w.heap.size A' j c' (ptL bs f j)/\Below w.heap.size w wr) (fun i _ _=>n+2 - (intOf i).toNat)
 case atStart=>exact⟨0,f,none,0,by omega,by omega,rfl,rfl,Own.nilv .u8 5 _ _,Below.refl _ _⟩
 case round =>
  obtain⟨j,q,A',c',hj,hq,rfl,rfl,hO,hB⟩:=hrel;have HO:=aq hO;have HB:=aq hB;have HQ:=aq hq;clear hO hB hq;by_cases hlt:q<n
  . have hix:=HI.o q hlt
    have hc:=Rd.cell (Rdv.below HH.o HB.o) hlt;have wq:IntKind.i64.wrap ((q:Int)+2)=(q:Int)+2:=IntWalk.i64_in _ (by omega);have HL:=aq (show ptL bs f (j+1)=ptL bs f j ++ [gi bs q] by rw [ptL_succ,HQ.o]);have HJ:=aq (show j+1<=N by have:=HN.o;have:=HQ.o;omega)
    go_wp2_with (at_builtin
                 refine list_of rfl fun K hK=>wp_app1 (base:=w.heap.size) _ _ 53 rfl el26 rfl (.int .u8 (gi bs q)) rfl rfl HO.o (by have:=HJ.o;have:=HN.o;omega) (by have:=HJ.o;have:=HN.o;omega) HB.o.size ?_;intro A4 c4 w4 h1 h2;have HO4:=aq h1;have HG4:=aq h2;clear h1 h2;refine hK _ _ ?_
                 clear hK K)
    go_roundw
    case rel=>exact⟨j+1,q+2,A4,c4,HJ.o,by have:=HQ.o;omega,by go_num,rfl,Own.of_eq HO4.o rfl (by rw [HL.o,List.map_append];rfl),HB.o.grown HG4.o HB.o.size (fun k hk=>Ownv.ob' HO.o hk)⟩
    case measure=>simp [intOf];omega
  . obtain rfl:j=N:=by have:=HN.o;have:=HQ.o;omega
    go_wp2;go_ret;exact⟨A',c',rfl,HO.o,HB.o⟩
def lsL(x:Int)(l:List Int):Nat->Int
 | 0=>x
 | j+1=>min (lsL x l j) (gi l j)
theorem least_any(x:Int)(A:Option Addr)(n c:Nat)(l:List Int)(w:World)(h:Rd .i64 w A n c l) :
 Calls prog 272 #[.int .i64 x,.slice A n c] w fun e w'=>e= .returned (.int .i64 (lsL x l n))/\w'=w:=by
 have hbd:=h.bd.1;go_enter func272,ntmps272;go_wp2_with fail;go_loop [9,0] (fun i v=>∃ j:Nat,j<=n/\i= .int .i64 (j:Int)/\v= .int .i64 (lsL x l j)) (fun i _=>n - (intOf i).toNat)
 case atStart=>exact⟨0,by omega,rfl,rfl⟩
 case round =>
  obtain⟨j,hj,rfl,rfl⟩:=hrel;by_cases hlt:j<n
  . have hc:=Rd.cell h hlt
    have hix:=fun W=>Rdv.ix h el22 hlt .i64 W;have HL:=aq (show lsL x l (j+1)=min (lsL x l j) (gi l j) from rfl);generalize lsL x l j=v at *;generalize gi l j=y at *;go_wp2;go_round
    case rel=>exact⟨j+1,by omega,by go_num,by rw [HL.o,Int.min_def];congr 1;split<;>split<;>omega⟩
    case measure=>simp [intOf];omega
  . obtain rfl:j=n:=by omega
    go_wp2;go_ret;exact⟨rfl,rfl⟩
theorem infoPt:(prog.info? 93).map (·.size)=some 2:=by kernel_rfl
def okP(p:Int × Int):Prop:=(-1048576<=p.1/\p.1<=1048576)/\(-1048576<=p.2/\p.2<=1048576)
theorem inside_any(a b:Int)(w:World)(h:okP (a,b)):Calls prog 208 #[.agg #[.int .i64 a,.int .i64 b]] w fun e w'=>e= .returned (.bool true)/\Below w.heap.size w w':=by
 have hC:=Blk.new w [.int .i64 a,.int .i64 b] 93 rfl;have HB:=aq (bal (Below.refl w.heap.size w) (.cells #[.int .i64 a,.int .i64 b] 93));have c0:=hC.cell (j:=0) (v:=.int .i64 a) rfl;have c1:=hC.cell (j:=1) (v:=.int .i64 b) rfl;clear hC;obtain⟨⟨h1,h2⟩,h3,h4⟩:=h;simp only at h1 h2 h3 h4;by_cases hab:b<a
 . have hba:¬ a<b:=by omega
   go_enter func208,ntmps208;go_wp2;go_ret;exact⟨rfl,HB.o⟩
 . by_cases hba:a<b
   . go_enter func208,ntmps208
     go_wp2;go_ret;exact⟨rfl,HB.o⟩
   . go_enter func208,ntmps208
     go_wp2;go_ret;exact⟨rfl,HB.o⟩
theorem demod1_any(a b:Int)(w:World)(h:okP (a,b)):Calls prog 207 #[.agg #[.int .i64 a,.int .i64 b]] w fun e w'=>e= .returned (.bool false)/\Below w.heap.size w w':=by
 have HC:=aq (Blk.new w [.int .i64 a,.int .i64 b] 93 rfl);have HB:=aq (bal (Below.refl w.heap.size w) (.cells #[.int .i64 a,.int .i64 b] 93));go_enter func207,ntmps207;go_wp2_with (refine ldrow (cs:=[.int .i64 a,.int .i64 b]) rfl 93 (.tmp 1) rfl rfl HC.o _ underlying93 rfl (by rw [infoPt];rfl) ?_);refine(inside_any a b _ h).mono ?_;rintro e w1 ⟨rfl,hB1⟩;have HB1:=aq (HB.o.trans (hB1.mono HB.o.size));clear hB1;dsimp only;go_wp2;go_ret;exact⟨rfl,HB1.o⟩
theorem el2P:El2 prog 64 93:=⟨by kernel_rfl,by kernel_rfl,fun _=>by kernel_rfl⟩
theorem idxP_any(A:Option Addr)(n c:Nat)(ps:List (Int × Int))(w:World)(h:R2 w A n c ps)(hok:∀ j,j<n->okP (pi ps j)) :
 Calls prog 269 #[.slice A n c,.func (.func 207) #[] #[]] w fun e w'=>e= .returned (.int .i64 (-1))/\Below w.heap.size w w':=by
 have HH:=aq h;have HI:=aq (fun(j:Nat) (hj:j<n)=>fun W=>R2.ix h el2P hj .i64 W);have HO:=aq (fun(j:Nat) (hj:j<n)=>fun W=>demod1_any (pi ps j).1 (pi ps j).2 W (hok j hj));have hbd:n<=9223372036854775807:=by have h1:=h.le;have h2:=h.cm;unfold maxLen at h2;omega
 clear h hok;go_enter func269,ntmps269;go_wp2_with fail;go_loopw [8] (fun i wr=>∃ j:Nat,j<=n/\i= .int .i64 (j:Int)/\Below w.heap.size w wr) (fun i _=>n - (intOf i).toNat)
 case atStart=>exact⟨0,by omega,rfl,Below.refl _ _⟩
 case round =>
  obtain⟨j,hj,rfl,hB⟩:=hrel;have HB:=aq hB;clear hB;by_cases hlt:j<n
  . have hix:=HI.o j hlt
    have HR:=aq (HH.o.below HB.o);go_wp2_with (refine ld2 rfl 93 (.tmp 14) rfl rfl HR.o hlt _ underlying93 rfl infoPt ?_);refine(HO.o j hlt _).mono ?_;rintro e w1 ⟨rfl,hB1⟩;have HB1:=aq (HB.o.trans (hB1.mono HB.o.size));clear hB1;dsimp only;go_wp2;go_roundw
    case rel=>exact⟨j+1,by omega,by go_num,HB1.o⟩
    case measure=>simp [intOf];omega
  . go_wp2
    go_ret;exact⟨rfl,HB.o⟩
theorem containsP_any(A:Option Addr)(n c:Nat)(ps:List (Int × Int))(w:World)(h:R2 w A n c ps)(hok:∀ j,j<n->okP (pi ps j)) :
 Calls prog 206 #[.slice A n c,.func (.func 207) #[] #[]] w fun e w'=>e= .returned (.bool false)/\Below w.heap.size w w':=by
 go_enter func206,ntmps206;go_wp2_with fail;refine(idxP_any A n c ps w h hok).mono ?_;rintro e w1 ⟨rfl,hB1⟩;have HB1:=aq hB1;clear hB1;dsimp only;go_wp2;go_ret;exact⟨rfl,HB1.o⟩
set_option maxHeartbeats 4000000
theorem slG_bd(P:Nat->Bool)(n j:Nat)(hj:j<(slG P n).length):∃ q:Nat,gi (slG P n) j=(q:Int)/\q<n/\P q=true:=by
 have hm:=gi_mem _ j hj;unfold slG at hm;obtain⟨q,hq,e⟩:=List.mem_map.1 hm;rw [List.mem_filter]at hq;exact⟨q,e.symm,List.mem_range.1 hq.1,hq.2⟩
theorem gnew_ok(B:Nat)(c k:Int)(w:World)(h:okG (B:Int) c k=true):Calls prog 27 #[.agg #[.int .i64 (B:Int),.int .i64 c,.int .i64 k]] w fun e w'=>∃ P A N cap ps,e= .returned (.tuple #[.pointer (some ⟨P,0,none⟩),.int .i64 0])/\GrS w' w.heap.size P B c k A N cap ps/\Below w.heap.size w w':=by
 have hq:=h;unfold okG at hq;simp only [Bool.and_eq_true,decide_eq_true_eq]at hq;obtain⟨hB,hc,hk⟩:=hq;have hB6:6<=B/\B<=100:=by omega
 have hC0:=Blk.new w [.int .i64 (B:Int),.int .i64 c,.int .i64 k] 23 rfl;have HC:=aq hC0;have HB0:=aq (bal (Below.refl w.heap.size w) (.cells #[.int .i64 (B:Int),.int .i64 c,.int .i64 k] 23));have hE:ckG (B:Int) c k=0:=by unfold ckG;rw [h];rfl
 have HCK:=aq (fun W=>gcheck_any (B:Int) c k W);rw [hE]at HCK;have HSZ:=aq (fun W=>gsize_any (B:Int) c k W (by omega));have HRF:=aq (fun W=>refs_any B c k W hB6 hk);obtain⟨N,hN⟩:∃ N,N=168*B:=⟨_,rfl⟩
 have hNe:168*(B:Int)=(N:Int):=by omega
 have hNb:0<N/\N<=16800:=by omega
 have HNE:=aq hN;rw [hNe]at HSZ;rw [<- hN]at HRF;clear hC0 h hE hB hc hk hNe hN;go_enter func27,ntmps27;go_wp2_with (refine ldrow (cs:=[.int .i64 (B:Int),.int .i64 c,.int .i64 k]) rfl 23 (.tmp 1) rfl rfl HC.o _ underlying23 rfl (by rw [infoGC];rfl) ?_);refine(HCK.o _).mono ?_;rintro e w1 ⟨rfl,hB1⟩;have HC1:=aq (HC.o.below hB1);have HB1:=aq (HB0.o.trans (hB1.mono HB0.o.size));clear hB1 HC HB0 HCK;dsimp only;go_wp2_with (refine ldrow (cs:=[.int .i64 (B:Int),.int .i64 c,.int .i64 k]) rfl 23 (.tmp 1) rfl rfl HC1.o _ underlying23 rfl (by rw [infoGC];rfl) ?_);obtain⟨P,hP⟩:∃ P,P=w1.heap.size:=⟨_,rfl⟩
 have HG:Hid (Blk (w1.alloc (.cells #[.int .i64 (B:Int),.int .i64 c,.int .i64 k,.slice none 0 0] 66)) P 66 [.int .i64 (B:Int),.int .i64 c,.int .i64 k,.slice none 0 0]):=aq (Blk.new w1 _ _ hP);have HB2:=aq (HB1.o.alloc HB1.o.size (.cells #[.int .i64 (B:Int),.int .i64 c,.int .i64 k,.slice none 0 0] 66));have HPg:Hid (w.heap.size<=P):=aq (by rw [hP];exact HB1.o.size);rw [<- hP];clear hP HC1 HB1;generalize w1.alloc (.cells #[.int .i64 (B:Int),.int .i64 c,.int .i64 k,.slice none 0 0] 66)=w2 at *;refine(HSZ.o _).mono ?_;rintro e w3 ⟨rfl,hB3⟩;have HG3:=aq (HG.o.below hB3);have HB3:=aq (HB2.o.trans (hB3.mono HB2.o.size));clear hB3 HG HB2 HSZ;dsimp only;have g3:=HG3.o.cell (j:=3) (v:=.slice none 0 0) rfl;go_wp2_with (refine list_of rfl fun K hK=>wp_mk2 (n:=N) (.tmp 22) (.tmp 22) 64 rfl el2P rfl rfl (by omega) ?_;intro A w4 hO4 hB4;have HO4:=aq hO4;have HG4:=aq (HG3.o.below hB4);have HB4:=aq (HB3.o.trans (hB4.mono HB3.o.size));have f4:=HG4.o.frozen 3;have g4:=HG4.o.cell (j:=3) (v:=.slice none 0 0) rfl;have HS4:=aq HB3.o.size;have q0:=HG4.o.cell (j:=0) (v:=.int .i64 (B:Int)) rfl;have q1:=HG4.o.cell (j:=1) (v:=.int .i64 c) rfl;have q2:=HG4.o.cell (j:=2) (v:=.int .i64 k) rfl;clear hO4 hB4 g3;refine hK _ _ ?_;clear hK K);have hbk:=HO4.o.blk_ge (by omega);have hPl:=HG3.o.lt;have hdA:blk A≠P:=by omega
 have HGS:=aq (show GrS (w4.setCell ⟨P,3,none⟩ (.slice A N N)) w.heap.size P B c k A N N (List.replicate N (0,0)) from⟨HG4.o.set 3 _,(HO4.o.grown (w':=w4.setCell ⟨P,3,none⟩ (.slice A N N)) (row:=some P) ⟨rfl,rfl,rfl,by simp,fun q _ hq=>heap_setCell_other w4 ⟨P,3,none⟩ q (.slice A N N) (fun e=>hq (by simp [e]))⟩ (fun _ e=>hdA (Option.some.inj e))).mono HS4.o,hdA,HPg.o,hB6,HNE.o⟩);have HB5:=aq (HB4.o.setCell (p:=⟨P,3,none⟩) HPg.o (.slice A N N));have HAl:Hid (w.heap.size<=blk A/\blk A<(w4.setCell ⟨P,3,none⟩ (.slice A N N)).heap.size):=aq ⟨Nat.le_trans HS4.o hbk.2.1,by simp;exact hbk.2.2⟩;clear hbk hPl hdA HO4 HG4 HG3 HB3 HB4 HS4 HNE HPg q0 q1 q2 f4 g4;generalize w4.setCell ⟨P,3,none⟩ (.slice A N N)=w5 at *;refine(HRF.o _).mono ?_;rintro e w6 ⟨R,rc,rfl,hR,hB6'⟩;have HRL:=aq (slG_le (rsG B c k) N);have HRB:=aq (fun j hj=>slG_bd (rsG B c k) N j hj);have HR:=aq hR;have HG6:=aq (HGS.o.below hB6');have HB6:=aq (HB5.o.trans (hB6'.mono HB5.o.size));clear hR hB6' HGS HB5 HRF;dsimp only;generalize slG (rsG B c k) N=rl at *;have hrl:=HRL.o;go_wp2_with fail;go_loopw [32] (fun i wr=>∃ (j:Nat) (ps:List (Int × Int)),j<=rl.length/\i= .int .i64 (j:Int)/\GrS wr w.heap.size P B c k A N N ps/\Own .i64 3 wr w5.heap.size R rl.length rc rl/\Below w.heap.size w wr) (fun i _=>rl.length - (intOf i).toNat)
 case atStart=>exact⟨0,_,Nat.zero_le _,rfl,HG6.o,HR.o,HB6.o⟩
 case round =>
  obtain⟨j,ps,hj,rfl,hG,hR,hB⟩:=hrel;have HG:=aq hG;have HRr:=aq hR;have HBr:=aq hB;clear hG hR hB;by_cases hlt:j<rl.length
  . obtain⟨q,hq1,hq2,-⟩:=HRB.o j hlt
    have hix:=fun W=>Rdv.ix HRr.o.rd el22 hlt .i64 W;have hc:=Rd.cell HRr.o.rd hlt;rw [hq1]at hc;have g3:=HG.o.b.cell (j:=3) (v:=.slice A N N) rfl;have hxp:=fun W=>R2.ix HG.o.o.rd el2P hq2 .i64 W;go_wp2_with (refine list_of rfl fun K hK=>O2.st HG.o.o hq2 93 (.tmp 42) (.tmp 41) rfl (1,1) rfl rfl infoPt ?_;intro w7 h1 h2;have H7:=aq (HG.o.fresh h1 h2);have HR7:=aq (Ownv.grown HRr.o h2 (fun hA e=>by have:=(Ownv.blk_of HRr.o hA).1;have h9:=Option.some.inj e;have:=HAl.o.2;omega));have HB7:=aq (HBr.o.grown h2 HBr.o.size (fun k hk=>by cases hk;exact HAl.o.1));clear h1 h2;refine hK _ _ ?_;clear hK K);go_roundw
    case rel=>exact⟨j+1,_,by omega,by go_num,H7.o,HR7.o,HB7.o⟩
    case measure=>simp [intOf];omega
  . obtain rfl:j=rl.length:=by omega
    go_wp2;exact bodyPost_ret (results_tmp2 rfl _ _ _) rfl ⟨P,A,N,N,ps,rfl,HG.o,HBr.o⟩
theorem gb_below{A B:World}(h:Below A.heap.size A B)(r:Option Nat):A.grownBy B r:=⟨h.os,h.tape,h.output,h.size,fun k hk _=>h.block k hk⟩
theorem gb_tr{A B C:World}{r:Option Nat}(h:A.grownBy B r)(k:B.grownBy C r):A.grownBy C r :=
 ⟨k.os.trans h.os,k.tape.trans h.tape,k.output.trans h.output,Nat.le_trans h.size k.size,fun i hi hr=>(k.block i (Nat.lt_of_lt_of_le hi h.size) hr).trans (h.block i hi hr)⟩
def putL(l:List Int)(pts ps:List (Int × Int)):Nat->List (Int × Int)
 | 0=>ps
 | j+1=>(putL l pts ps j).set (gi l j).toNat (pi pts j)
def getL(l:List Int)(ps:List (Int × Int))(j:Nat):List (Int × Int):=(List.range j).map fun q=>pi ps (gi l q).toNat
theorem getL_succ(l:List Int)(ps:List (Int × Int))(j:Nat):getL l ps (j+1)=getL l ps j ++ [pi ps (gi l j).toNat]:=by unfold getL;rw [List.range_succ,List.map_append];rfl
theorem dtL_bd(B c k f b:Int)(h:okD B c k f b=true)(j:Nat)(hj:j<(dtL B c k f b).length):∃ q:Nat,gi (dtL B c k f b) j=(q:Int)/\q<168*B.toNat:=by
 obtain⟨q,h1,h2,-⟩:=slG_bd _ _ j hj;exact⟨q,h1,h2⟩
theorem dtL_le(B c k f b:Int):(dtL B c k f b).length<=168*B.toNat:=slG_le _ _
theorem put_any(base P B N cap:Nat)(c k f b:Int)(A:Option Addr)(ps:List (Int × Int))(S:Option Addr)(m cs:Nat)(pts:List (Int × Int))(w:World)(h:GrS w base P B c k A N cap ps)(hok:okD (B:Int) c k f b=true)
 (hp:R2 w S m cs pts) (hm:m<=(dtL (B:Int) c k f b).length) (hS:S≠none->blk S≠blk A) :
 Calls prog 80 #[.pointer (some ⟨P,0,none⟩),.int .i64 f,.int .i64 b,.slice S m cs] w fun e w'=>e= .returned (.int .i64 0)/\GrS w' base P B c k A N cap (putL (dtL (B:Int) c k f b) pts ps m)/\w.grownBy w' (some (blk A)):=by
 have hD:=gdata_any base P B N cap c k f b A ps w h (by obtain⟨-,h1,h2,h3,h4,-⟩:=okD_iff hok;omega)
 have HD:Hid (Calls prog 145 #[.pointer (some ⟨P,0,none⟩),.int .i64 f,.int .i64 b] w fun e w'=>Below w.heap.size w w'/\∃ A',e= .returned (.tuple #[.slice A' (dtL (B:Int) c k f b).length (dtL (B:Int) c k f b).length,.int .i64 0])/\Rd .i64 w' A' (dtL (B:Int) c k f b).length (dtL (B:Int) c k f b).length (dtL (B:Int) c k f b)/\(A'≠none->w.heap.size<=blk A')):=aq (hD.mono (fun e w' h9=>⟨h9.1,by
  rcases h9.2 with⟨h1,-⟩ | ⟨-,h2⟩
  . rw [hok]at h1;cases h1
  . exact h2⟩))
 have HLB:=aq (dtL_bd (B:Int) c k f b hok);have HLE:=aq (dtL_le (B:Int) c k f b);rw [Int.toNat_natCast,<- h.n]at HLB HLE;have hNb:0<N/\N<=16800:=by have:=h.n;have:=h.r;omega
 have HG:=aq h;have HP:=aq hp;have HSA:=aq hS;have hAl:blk A<w.heap.size:=(h.o.blk_ge hNb.1).2.2;have HAl:=aq hAl;clear hD hok h hp hS hAl;obtain⟨l,hl⟩:∃ l,l=dtL (B:Int) c k f b:=⟨_,rfl⟩
 rw [<- hl]at HD HLB HLE hm ⊢;obtain⟨L,hL⟩:∃ L,L=l.length:=⟨_,rfl⟩
 rw [<- hL]at HD HLB HLE hm;have hLe:=HLE.o;clear hl hL;go_enter func80,ntmps80;go_wp2_with fail;refine HD.o.mono ?_;rintro e w1 ⟨hB1,R,rfl,hR,hRf⟩;have HR:=aq hR;have HRA:Hid (R≠none->blk R≠blk A):=aq (fun hA e=>by have:=hRf hA;have:=HAl.o;omega);have HG1:=aq (HG.o.below hB1);have HP1:=aq (HP.o.below hB1);have HB1:=aq (gb_below hB1 (some (blk A)));have hgt:¬ (L:Int)<(m:Int):=by omega
 clear hR hRf hB1 HG HP HD;dsimp only;go_wp2_with fail;go_loopw [32] (fun i wr=>∃ j:Nat,j<=m/\i= .int .i64 (j:Int)/\GrS wr base P B c k A N cap (putL l pts ps j)/\Rd .i64 wr R L L l/\R2 wr S m cs pts/\w.grownBy wr (some (blk A))) (fun i _=>m - (intOf i).toNat)
 case atStart=>exact⟨0,Nat.zero_le _,rfl,HG1.o,HR.o,HP1.o,HB1.o⟩
 case round =>
  obtain⟨j,hj,rfl,hG,hR,hP,hB⟩:=hrel;have HGr:=aq hG;have HRr:=aq hR;have HPr:=aq hP;have HBr:=aq hB;clear hG hR hP hB;by_cases hlt:j<m
  . obtain⟨q,hq1,hq2⟩:=HLB.o j (by omega)
    have hxs:=fun W=>R2.ix HPr.o el2P hlt .i64 W;go_wp2_with (refine ld2 rfl 93 (.tmp 35) rfl rfl HPr.o hlt _ underlying93 rfl infoPt ?_);obtain⟨XB,hXB⟩:∃ XB,XB=wr.heap.size:=⟨_,rfl⟩
    have HG8:=aq (HGr.o.below ((Below.refl _ wr).alloc (Nat.le_refl _) (.cells #[.int .i64 (pi pts j).1,.int .i64 (pi pts j).2] 93)).drew);have HR8:=aq (Rdv.below HRr.o ((Below.refl _ wr).alloc (Nat.le_refl _) (.cells #[.int .i64 (pi pts j).1,.int .i64 (pi pts j).2] 93)).drew);have HP8:=aq (HPr.o.below ((Below.refl _ wr).alloc (Nat.le_refl _) (.cells #[.int .i64 (pi pts j).1,.int .i64 (pi pts j).2] 93)).drew);have HB8:=aq (gb_tr HBr.o (gb_below ((Below.refl _ wr).alloc (Nat.le_refl _) (.cells #[.int .i64 (pi pts j).1,.int .i64 (pi pts j).2] 93)).drew (some (blk A))));have hX:Blk (wr.alloc (.cells #[.int .i64 (pi pts j).1,.int .i64 (pi pts j).2] 93)).drew XB 93 [.int .i64 (pi pts j).1,.int .i64 (pi pts j).2]:=(Blk.new wr [.int .i64 (pi pts j).1,.int .i64 (pi pts j).2] 93 hXB).drew;have hcr:=Rd.cell HR8.o (show j<L by omega);rw [hq1]at hcr;have HS:Hid (Blk (wr.alloc (.cells #[.int .i64 (pi pts j).1,.int .i64 (pi pts j).2] 93)).drew P 66 [.int .i64 (B:Int),.int .i64 c,.int .i64 k,.slice A N cap]/\(wr.alloc (.cells #[.int .i64 (pi pts j).1,.int .i64 (pi pts j).2] 93)).drew.cell? (adr R j)=some (.int .i64 (q:Int))/\Blk (wr.alloc (.cells #[.int .i64 (pi pts j).1,.int .i64 (pi pts j).2] 93)).drew XB 93 [.int .i64 (pi pts j).1,.int .i64 (pi pts j).2]/\O2 93 (wr.alloc (.cells #[.int .i64 (pi pts j).1,.int .i64 (pi pts j).2] 93)).drew base A N cap (putL l pts ps j)):=aq ⟨HG8.o.b,hcr,hX,HG8.o.o⟩;have hix:=fun W=>Rdv.ix HR8.o el22 (show j<L by omega) .i64 W;have hxa:=fun W=>R2.ix HG8.o.o.rd el2P hq2 .i64 W;have HQ1:Hid (putL l pts ps (j+1)=(putL l pts ps j).set q (pi pts j)):=aq (by show(putL l pts ps j).set (gi l j).toNat _=_;rw [hq1,Int.toNat_natCast]);rw [<- hXB];clear hcr hX hq1 hXB hxs HGr HRr HPr HBr;refine Q_start (fun W9=>Blk W9 P 66 [.int .i64 (B:Int),.int .i64 c,.int .i64 k,.slice A N cap]/\W9.cell? (adr R j)=some (.int .i64 (q:Int))/\Blk W9 XB 93 [.int .i64 (pi pts j).1,.int .i64 (pi pts j).2]/\O2 93 W9 base A N cap (putL l pts ps j)) 10 11 ?_;generalize (wr.alloc (.cells #[.int .i64 (pi pts j).1,.int .i64 (pi pts j).2] 93)).drew=w6 at *;refine Q_W 0 37 1 (.pointer (some ⟨P,0,none⟩)) rfl HS.o ?_;simp only [z0,z1,z2];refine Q_W 1 38 3 (.pointer (some ⟨P,0,none⟩)) rfl HS.o ?_;simp only [z0,z1,z2];refine Q_W 2 39 7 (.pointer (some ⟨P,3,none⟩)) rfl HS.o ?_;simp only [z0,z1,z2];refine Q_T 3 40 15 (.slice A N cap) [9] rfl HS.o (.inl ⟨by rfl,fun W hS=>by have s0:=Blk.cell hS.1 (j:=3) (v:=.slice A N cap) rfl;go_simp⟩) ?_;simp only [z0,z1,z2];refine Q_W 4 41 31 (.slice R L L) rfl HS.o ?_;simp only [z0,z1,z2];refine Q_W 5 42 63 (.int .i64 (j:Int)) rfl HS.o ?_;simp only [z0,z1,z2];refine Q_W 6 43 127 (.pointer (some (adr R j))) rfl HS.o ?_;simp only [z0,z1,z2];refine Q_T 7 44 255 (.int .i64 (q:Int)) [9] rfl HS.o (.inl ⟨by rfl,fun W hS=>by have s0:=hS.2.1;go_simp⟩) ?_;simp only [z0,z1,z2];refine Q_T 8 45 511 (.agg #[.int .i64 (pi pts j).1,.int .i64 (pi pts j).2]) [] rfl HS.o (yieldsIf_load_mid (by rfl) 93 (.tmp 12) rfl XB 0 rfl [.int .i64 (pi pts j).1,.int .i64 (pi pts j).2] _ (fun W hS q v hq=>by rw [Nat.zero_add];exact hS.2.2.1.cell hq) underlying93 rfl infoPt) ?_;simp only [z0,z1,z2];refine Q_W 9 46 1023 (.pointer (some (adr A (2*q)))) rfl HS.o ?_;simp only [z0,z1,z2];refine Q_1 10 2047 rfl (fun K hK=>?_);refine O2.st HS.o.2.2.2 hq2 93 (.tmp 46) (.tmp 45) rfl (pi pts j) rfl rfl infoPt ?_;intro w7 h1 h2;have HG7:=aq (HG8.o.fresh h1 h2);have HR7:=aq (Rdv.grown HR8.o h2 (fun hA e=>HRA.o hA (Option.some.inj e)));have HP7:=aq (HP8.o.grown h2 (fun hA e=>HSA.o hA (Option.some.inj e)));have HB7:=aq (grown_tr2 HB8.o h2);clear h1 h2;refine hK _ _ ?_;clear hK K;refine Q_end ?_;go_wp2;go_roundw
    case rel=>exact⟨j+1,by omega,by go_num,by rw [HQ1.o];exact HG7.o,HR7.o,HP7.o,HB7.o⟩
    case measure=>simp [intOf];omega
  . obtain rfl:j=m:=by omega
    go_wp2;go_ret;exact⟨rfl,HGr.o,HBr.o⟩
theorem get_any(base P B N cap:Nat)(c k f b:Int)(A:Option Addr)(ps:List (Int × Int))(w:World)(h:GrS w base P B c k A N cap ps)(hok:okD (B:Int) c k f b=true) :
 Calls prog 78 #[.pointer (some ⟨P,0,none⟩),.int .i64 f,.int .i64 b] w fun e w'=>∃ S' c',e= .returned (.tuple #[.slice S' (dtL (B:Int) c k f b).length c',.int .i64 0])/\O2 93 w' w.heap.size S' (dtL (B:Int) c k f b).length c' (getL (dtL (B:Int) c k f b) ps (dtL (B:Int) c k f b).length)/\Below w.heap.size w w':=by
 have hD:=gdata_any base P B N cap c k f b A ps w h (by obtain⟨-,h1,h2,h3,h4,-⟩:=okD_iff hok;omega)
 have HD:Hid (Calls prog 145 #[.pointer (some ⟨P,0,none⟩),.int .i64 f,.int .i64 b] w fun e w'=>Below w.heap.size w w'/\∃ A',e= .returned (.tuple #[.slice A' (dtL (B:Int) c k f b).length (dtL (B:Int) c k f b).length,.int .i64 0])/\Rd .i64 w' A' (dtL (B:Int) c k f b).length (dtL (B:Int) c k f b).length (dtL (B:Int) c k f b)/\(A'≠none->w.heap.size<=blk A')):=aq (hD.mono (fun e w' h9=>⟨h9.1,by
  rcases h9.2 with⟨h1,-⟩ | ⟨-,h2⟩
  . rw [hok]at h1;cases h1
  . exact h2⟩))
 have HLB:=aq (dtL_bd (B:Int) c k f b hok);have HLE:=aq (dtL_le (B:Int) c k f b);rw [Int.toNat_natCast,<- h.n]at HLB HLE;have hNb:0<N/\N<=16800:=by have:=h.n;have:=h.r;omega
 have HG:=aq h;clear hD hok h;obtain⟨l,hl⟩:∃ l,l=dtL (B:Int) c k f b:=⟨_,rfl⟩
 rw [<- hl]at HD HLB HLE ⊢;obtain⟨L,hL⟩:∃ L,L=l.length:=⟨_,rfl⟩
 rw [<- hL]at HD HLB HLE ⊢;have hLe:=HLE.o;clear hl hL;go_enter func78,ntmps78;go_wp2_with fail;refine HD.o.mono ?_;rintro e w1 ⟨hB1,R,rfl,hR,hRf⟩;have HR:=aq hR;have HG1:=aq (HG.o.below hB1);have HB1:=aq hB1;clear hR hRf hB1 HG HD;dsimp only;go_wp2_with fail;go_loopw [22,10] (fun i o wr=>∃ (j:Nat) (S':Option Addr) (c':Nat),j<=L/\i= .int .i64 (j:Int)/\o= .slice S' j c'/\O2 93 wr w1.heap.size S' j c' (getL l ps j)/\Below w1.heap.size w1 wr) (fun i _ _=>L - (intOf i).toNat)
 case atStart=>exact⟨0,none,0,Nat.zero_le _,rfl,rfl,O2.nilv _ _ _,Below.refl _ _⟩
 case round =>
  obtain⟨j,S',c',hj,rfl,rfl,hO,hB⟩:=hrel;have HO:=aq hO;have HBr:=aq hB;have HGr:=aq (HG1.o.below hB);have HRr:=aq (Rdv.below HR.o hB);clear hO hB;by_cases hlt:j<L
  . obtain⟨q,hq1,hq2⟩:=HLB.o j hlt
    have hix:=fun W=>Rdv.ix HRr.o el22 hlt .i64 W;have hc:=Rd.cell HRr.o hlt;rw [hq1]at hc;have g3:=HGr.o.b.cell (j:=3) (v:=.slice A N cap) rfl;have hxa:=fun W=>R2.ix HGr.o.o.rd el2P hq2 .i64 W;have HQ1:Hid (getL l ps (j+1)=getL l ps j ++ [pi ps q]):=aq (by rw [getL_succ,hq1,Int.toNat_natCast]);clear hq1
    go_wp2_with (first
     | (refine ld2 rfl 93 (.tmp 32) rfl rfl HGr.o.o.rd hq2 _ underlying93 rfl infoPt ?_)
     | (at_builtin
        refine list_of rfl fun K hK=>wp_app2 (base:=w1.heap.size) _ _ 64 rfl el2P rfl (pi ps q) rfl HO.o (by omega) HBr.o.size ?_;intro A4 c4 w4 h1 h2;have HO4:=aq h1;have HG4:=aq (HBr.o.grown h2 HBr.o.size (fun k hk=>HO.o.ob' hk));clear h1 h2;refine hK _ _ ?_
        clear hK K))
    go_roundw
    case rel=>exact⟨j+1,A4,c4,by omega,by go_num,rfl,by rw [HQ1.o];exact HO4.o,HG4.o⟩
    case measure=>simp [intOf];omega
  . obtain rfl:j=L:=by omega
    go_wp2;exact bodyPost_ret (results_tmp2 rfl _ _ _) rfl ⟨S',c',rfl,HO.o.mono HB1.o.size,HB1.o.trans (HBr.o.mono HB1.o.size)⟩
end Go.Proofs.YthmhogdceolkdaaGreat
namespace Go.Proofs.YthmhogdceolkdaaGreat.Cr
open Tryz
open Go.RowKit Go.Shelf
attribute [local go_sem] Oper.semAt_some
set_option maxRecDepth 100000
set_option maxHeartbeats 4000000
def gbL(n v:Nat):List Int:=(List.range n).map fun i=>((v / 2 ^ i % 2:Nat):Int)
def gbP(n v i:Nat):List Int:=(List.range n).map fun q=>if q<i then((v / 2 ^ q % 2:Nat):Int) else 0
theorem gbP_zero(n v:Nat):gbP n v 0=List.replicate n 0:=by
 unfold gbP;simp [List.map_const']
theorem gbP_all(n v:Nat):gbP n v n=gbL n v:=by
 unfold gbP gbL;refine List.map_congr_left fun q hq=>?_;rw [if_pos (List.mem_range.1 hq)]
theorem gbP_set(n v i:Nat)(hi:i<n):(gbP n v i).set i ((v / 2 ^ i % 2:Nat):Int)=gbP n v (i+1):=by
 apply List.ext_getElem?;intro q;unfold gbP;rw [List.getElem?_set];by_cases hq:q<n
 . by_cases e:i=q
   . subst e;simp [hq]
   . rw [if_neg e]
     simp only [List.getElem?_map,List.getElem?_range hq,Option.map_some];congr 1;by_cases h1:q<i
     . rw [if_pos h1,if_pos (by omega)]
     . rw [if_neg h1,if_neg (by omega)]
 . by_cases e:i=q
   . omega
   . rw [if_neg e]
     simp [hq]
theorem gbL_bit(n v:Nat):∀ x ∈ gbL n v,x=0\/x=1:=fun x hx=>by
 obtain⟨i,-,rfl⟩:=List.mem_map.1 hx;omega
theorem gbL_len(n v:Nat):(gbL n v).length=n:=by simp [gbL]
theorem and1(q:Nat)(hq:q<1000):bits .and .i64 (q:Int) 1=((q % 2:Nat):Int):=by
 show IntKind.i64.wrap ((BitVec.ofInt 64 (q:Int) &&& BitVec.ofInt 64 1).toNat:Int)=_;rw [BitVec.toNat_and,show(BitVec.ofInt 64 1).toNat=1 from rfl,Nat.and_one_is_mod,IntKind.wrap_i64];have h:(BitVec.ofInt 64 (q:Int)).toNat=q:=by
  rw [BitVec.ofInt_natCast,BitVec.toNat_ofNat,Nat.mod_eq_of_lt (by omega)]
 rw [h];omega
def encGr(n:Nat)(x:Option Addr):Array Value:=#[.slice x n n]
def OkGr(n:Nat)(pre:List (Option Addr))(x:Option Addr)(W:World):Prop:=pre.length<2 ^ n/\Rd .u8 W x n n (gbL n pre.length)
def KpGr(NB n:Nat)(A B:World):Prop:=Blk A NB 3 [.int .i64 (n:Int)]->Blk B NB 3 [.int .i64 (n:Int)]
def GrQ(n:Nat)(J Jx:List (Option Addr)->World->Prop)(e:Ending)(W':World):Prop :=
 (∃ v,e= .returned v)/\((∃ xs:List (Option Addr),xs.length=2 ^ n/\J xs W')\/(∃ pre:List (Option Addr),True/\Jx pre W'))
theorem groups_in(d y l n NB:Nat)(W:World)(hn:1<=n/\n<=3)(h:Blk W NB 3 [.int .i64 (n:Int)])(J Jx:List (Option Addr)->World->Prop)(hJ:ClB J)(hJx:ClB Jx)
 (hY:∀ pre x W1,J pre W1->OkGr n pre x W1->YieldAt Fence.wide (d+1) prog l (encGr n x) W1 fun e W' =>
   (e= .returned (.bool true)/\J (pre ++ [x]) W'/\KpGr NB n W1 W')\/(e= .returned (.bool false)/\Jx (pre ++ [x]) W'))
 (h0:J [] W):CallsIn Fence.wide (d+2) prog 310 #[.func (.yield l) #[] #[],.pointer (some ⟨NB,0,none⟩)] W (GrQ n J Jx):=by
 have c0:=h.cell (j:=0) (v:=.int .i64 (n:Int)) rfl;have HB:=aq h;have H0:=aq h0;obtain⟨T,hT⟩:∃ T,T=2 ^ n:=⟨_,rfl⟩
 have hT8:T<=8:=by
  rw [hT];rcases (by omega:n=1\/n=2\/n=3) with rfl | rfl | rfl<;>decide
 have hsh:wrap64 ((2:Int) ^ n)=(T:Int):=by
  rw [hT];unfold wrap64;rcases (by omega:n=1\/n=2\/n=3) with rfl | rfl | rfl<;>decide
 have HT:=aq hT;clear h h0 hT;refine callsIn_of_wp func310 rfl trivial ?_ rfl;simp only [ntmps310,List.size_toArray,List.length_cons,List.length_nil,Nat.reduceAdd,Nat.reduceSub,Array.replicate_succ,Array.replicate_zero,List.push_toArray,List.append_toArray,List.nil_append,List.cons_append];gi_wp2_with fail;rw [hsh];gi_loopw [8] (fun i wr=>∃ (v:Nat) (pre:List (Option Addr)),v<=T/\i= .int .i64 (v:Int)/\pre.length=v/\J pre wr/\Blk wr NB 3 [.int .i64 (n:Int)]) (fun i _=>T - (intOf i).toNat)
 case atStart=>exact⟨0,[],Nat.zero_le _,rfl,rfl,H0.o,HB.o⟩
 case round =>
  obtain⟨v,pre,hv,rfl,hpl,hJs,hb⟩:=hrel;obtain⟨wo,hwo⟩:∃ x,x=wr:=⟨_,rfl⟩
  subst hwo;have HJ:=aq hJs;have HBr:=aq hb;have HPL:=aq hpl;clear hJs hb hpl c0;by_cases hlt:v<T
  . have c0:=HBr.o.cell (j:=0) (v:=.int .i64 (n:Int)) rfl
    gi_wp2_with (refine listIn_of rfl nofun fun K hK=>wp_mk (n:=n) (.tmp 11) (.tmp 11) 53 rfl el53 rfl rfl (by omega) (by unfold maxLen;omega) ?_;intro A w2 hO2 hB2 hA2;refine hK _ _ ?_;clear hK K);have HO2:Hid (Own .u8 5 w2 wo.heap.size A n n (gbP n v 0)):=aq (Own.of_eq hO2 rfl (by rw [gbP_zero,List.map_replicate]));have HB2:=aq hB2;clear hO2 hB2 hA2 c0;gi_wp2_with fail;gi_loopw [15] (fun i wQ=>∃ q:Nat,q<=n/\i= .int .i64 (q:Int)/\Own .u8 5 wQ wo.heap.size A n n (gbP n v q)/\Below wo.heap.size wo wQ) (fun i _=>n - (intOf i).toNat)
    case atStart=>exact⟨0,Nat.zero_le _,rfl,HO2.o,HB2.o⟩
    case round =>
     obtain⟨q,hq,rfl,hO,hBq⟩:=hrel;have HO:=aq hO;have HBq:=aq hBq;clear hO hBq;by_cases hqn:q<n
     . have hbt:bits .and .i64 ((v:Int) / 2 ^ q) 1 % 256=((v / 2 ^ q % 2:Nat):Int):=by
        have e:(v:Int) / 2 ^ q=((v / 2 ^ q:Nat):Int):=by push_cast;rfl
        rw [e,and1 _ (by have:=Nat.div_le_self v (2 ^ q);omega)];omega
       have HS:=aq (Own.set_ HO.o hqn (bits .and .i64 ((v:Int) / 2 ^ q) 1 % 256))
       have hst:(gbP n v q).set q (bits .and .i64 ((v:Int) / 2 ^ q) 1 % 256)=gbP n v (q+1):=by rw [hbt,gbP_set n v q hqn]
       have HST:=aq hst
       have hix:=fun W=>Rdv.ix HO.o.rd el53 hqn .i64 W
       have hc:=Rd.cell HO.o.rd hqn
       have hf:=Ownv.frozen HO.o (by omega) q
       clear hst hbt
       gi_wp2
       go_roundw
       case rel=>exact⟨q+1,by omega,by go_num,by rw [<- HST.o];exact HS.o.1,HBq.o.grown HS.o.2 HBq.o.size (fun k hk=>by cases hk;exact(Ownv.blk_ge HO.o (by omega)).1)⟩
       case measure=>simp [intOf];omega
     . obtain rfl:q=n:=by omega
       obtain⟨fn,tmps,assign,body,hy,hRD⟩:=hY pre A wr (hJ pre wo wr HJ.o HBq.o) ⟨by rw [HPL.o,<- HT.o];exact hlt,by rw [HPL.o,<- gbP_all];exact HO.o.rd⟩;unfold encGr at hy;have HRD:=aq hRD;have HBn:=aq (HBr.o.below HBq.o);clear hRD;gi_wp2_with fail;refine HRD.o.mono ?_;rintro e W7 (⟨rfl,hJ7,hk7⟩ | ⟨rfl,hJx7⟩)
       . gi_wp2
         go_roundw
         case rel=>exact⟨v+1,pre ++ [A],by omega,by go_num,by rw [List.length_append,HPL.o];rfl,hJ7,hk7 HBn.o⟩
         case measure=>simp [intOf];omega
       . gi_wp2
         go_end0;exact⟨⟨_,rfl⟩,.inr ⟨_,trivial,hJx7⟩⟩
  . obtain rfl:v=T:=by omega
    gi_wp2;go_end0;exact⟨⟨_,rfl⟩,.inl ⟨pre,by rw [HPL.o,HT.o],HJ.o⟩⟩
end Go.Proofs.YthmhogdceolkdaaGreat.Cr
namespace Go.Proofs.YthmhogdceolkdaaGreat
open Tryz
open Go.RowKit
theorem wp_app1e{o:Oper}{a:Act}{K:Act->World->Prop}{Q:Exit->Act->World->Prop}{P:Program}{w:World}{e:TypeId}{g:Nat}(s x:Operand)(t:TypeId)
 (ho:o.op= .call {callee:=.builtin .append,args:=#[s,x],argTypes:=#[t,t]}) {z:Value} {bytes:Nat} (hE:El P t e z bytes) (hs:a.eval s= .slice (some ⟨g,0,none⟩) 0 0) (u:Value) (hx:a.eval x= .slice (some ⟨w.heap.size,0,none⟩) 1 1)
 (hby:bytes<=100) (h:∀ A' c' w',Ownv e w' w.heap.size A' 1 c' [u]->Below w.heap.size w w'->K (a.put o.dst (.slice A' 1 c')) w'):o.wp P a (w.alloc (.cells #[u] e)) K Q:=by
 obtain⟨i,hi,hz0,hz1,hz2⟩:=info_parts hE.i;have hl:Rdv (w.alloc (.cells #[u] e)) (some ⟨w.heap.size,0,none⟩) 1 1 [u]:=(Ownv.lit (base:=0) w #[u] e rfl (Nat.zero_le _) (by show 1<=maxLen;unfold maxLen;omega)).rd;have hr:=run_append_grow (P:=P) (w.alloc (.cells #[u] e)) t o.type e i z hE.u hi hz0 ⟨g,0,none⟩ 0 0 [] (by simp) (by simp) ⟨w.heap.size,0,none⟩ 1 1 [u] (by rw [hz1];rfl)
  (fun j v hj=>by have h8:=hl.at_ j v hj;rwa [adr_some,<- add_lit]at h8) (by omega) (by omega) (growslice_fits (by omega) (by rw [hz2];omega))
 have hge:=grownCap_ge (w.alloc (.cells #[u] e)) (0+1) 0 e;have hcm:grownCap (w.alloc (.cells #[u] e)) (0+1) 0 e<=maxLen:=grownCap_le_maxLen (w.alloc (.cells #[u] e)) (0+1) 0 e (by unfold maxLen;omega);unfold Oper.wp;simp only [execOp,ho,resolve,invoke,builtin,Sem.run_bind,Sem.run_pure,Result.andThen_ok,List.map_toArray,List.map_cons,List.map_nil,hs,hx,hr];refine h _ _ _ ⟨⟨rfl,.inr ⟨(w.alloc (.cells #[u] e)).heap.size,_,_,rfl,by simp,heap_alloc_new _ _,hge,hcm,?_,?_⟩⟩⟩ (((Below.refl _ w).alloc (Nat.le_refl _) _).drew.alloc (by simp) _)
 . simp only [Array.size_append,List.size_toArray,size_zeroCells,hE.z1,List.length_nil,List.length_cons]
   simp only [Nat.zero_add,Nat.mul_one]at hge ⊢;omega
 . simp
theorem Rdv.putO{w:World}{A:Option Addr}{n c:Nat}{vs:List Value}(h:Rdv w A n c vs){l:Nat}{o:Obj}(o':Obj)(hl:w.heap[l]?=some o)(ho:o.isCells=false):Rdv (w.putObj l o') A n c vs:=by
 refine⟨h.len,h.le,h.cm,h.nil,h.spot,fun hc a ha=>Nat.lt_of_lt_of_le (h.lt hc a ha) (grownBy_putObj' w l o').size,fun j v hj=>?_⟩;have h1:=h.at_ j v hj;rw [<- h1];have hb:=World.block_lt_of_cell? w _ h1;refine World.cell?_of_block ((grownBy_putObj' w l o').block _ hb (fun e=>?_));have e':(adr A j).block=l:=Option.some.inj e;rw [<- e']at hl;cases o with
 | cells x y z=>cases ho
 | _=>simp [World.cell?,hl]at h1
section
variable {P : Program} {ops : Array Oper} {Q : Exit -> Act -> World -> Prop} {l n' : Nat}
theorem Q_startR{id:Nat}{a:Act}{w:World}(S:World->Prop)(p n:Nat)(hL:¬ LetsOut Q)(h:wpAnyP P .any ops (noPanic Q) S p n (bz n 0) a w.drew)(hn:ops.size=n:=by kernel_rfl)(hl:Array.replicate n false=bz n 0:=by kernel_rfl)(hm:P.follows .mixedOrders=true:=by kernel_rfl)(hd:noDefer ops=true:=by kernel_rfl):(Code.region id ops true).wpIn (Fence.wide.inRound l) n' P Q a w:=by
 refine wpIn_mono (Q:=noPanic Q) ?_ (fun e a w h=>by cases e<;>first | exact h | exact h.elim);subst hn;refine regIn_any hm hd (fun⟨a,w,h⟩=>hL ⟨a,w,h⟩) ?_;have:=wpAny_of_P _ _ _ _ h;rwa [<- hl]at this
end
end Go.Proofs.YthmhogdceolkdaaGreat