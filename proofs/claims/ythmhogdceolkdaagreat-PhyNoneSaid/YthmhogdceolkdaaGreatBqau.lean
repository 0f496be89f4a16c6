/- Bundle. Conditions: none. -/
import Derived.Test.YthmhogdceolkdaaGreatBqat
set_option linter.unusedVariables false
set_option linter.unusedSimpArgs false
namespace Go.Proofs.YthmhogdceolkdaaGreat.Cr
open Tryz
open Go.RowKit
set_option maxRecDepth 100000
set_option maxHeartbeats 1000000
theorem cl86_any(x:Int)(w:World):Calls prog 169 #[.int .i64 x] w fun e w'=>e= .returned (.bool (decide (x<0)))/\w=w':=by
 have H87:∀ W,Calls prog 170 #[.int .i64 x] W fun e w'=>e= .returned (.bool (decide (0<=x)))/\W=w':=by
  intro W;go_enter func170,ntmps170;go_wp2;go_ret;exact⟨rfl,by trivial⟩
 have hd:(!decide (0<=x))=decide (x<0):=by
  by_cases h:0<=x
  . rw [decide_eq_true h,decide_eq_false (by omega)];rfl
  . rw [decide_eq_false h,decide_eq_true (by omega)];rfl
 have HD:=aq hd;clear hd;go_enter func169,ntmps169;go_wp2_with fail;refine(H87 _).mono ?_;rintro e w' ⟨rfl,rfl⟩;by_cases h:0<=x
 . have q:decide (0<=x)=true:=decide_eq_true h
   rw [q];go_wp2;go_ret;exact⟨ret_bool (decide_eq_false (by omega)).symm,by trivial⟩
 . have q:decide (0<=x)=false:=decide_eq_false h
   rw [q];go_wp2;go_ret;exact⟨ret_bool (decide_eq_true (by omega)).symm,by trivial⟩
def IxP(n:Nat)(xs:List Int)(r:Int):Prop:=(r = -1/\∀ j,j<n->0<=gi xs j)\/(∃ i:Nat,r=(i:Int)/\i<n/\gi xs i<0/\∀ j,j<i->0<=gi xs j)
def IxI(w:World)(n:Nat)(xs:List Int)(i:Value)(wr:World):Prop:=∃ j:Nat,j<=n/\i= .int .i64 j/\(∀ q,q<j->0<=gi xs q)/\w=wr
theorem ixf_any(A:Option Addr)(n c:Nat)(xs:List Int)(w:World)(hx:Rd .i64 w A n c xs)(hn:n<=100000):Calls prog 230 #[.slice A n c,.func (.func 169) #[] #[]] w fun e w'=>∃ r:Int,e= .returned (.int .i64 r)/\IxP n xs r/\w=w':=by
 go_enter func230,ntmps230;go_wp2;go_loopw [8] (fun i wr=>IxI w n xs i wr) (fun i _=>n - (intOf i).toNat)
 case atStart=>exact⟨0,Nat.zero_le _,rfl,fun q hq=>by omega,rfl⟩
 case round =>
  obtain⟨j,hj,rfl,hall,rfl⟩:=hrel;have HALL:=aq hall;clear hall;by_cases hlt:j<n
  . have hc:=Rd.cell hx hlt
    have hix:=fun W=>Rdv.ix hx el34 hlt .i64 W;have HP:=aq (fun r=>show IxP n xs r↔_ from Iff.rfl);obtain⟨x,hxe⟩:∃ x,x=gi xs j:=⟨_,rfl⟩
    have HXE:=aq hxe;rw [<- hxe]at hc;clear hxe;by_cases h0:x<0
    . have HC:=aq (cl86_any x w)
      rw [decide_eq_true h0]at HC;go_wp2_with (go_at_call 169;refine HC.o.mono ?_;rintro e w' ⟨rfl,rfl⟩);go_ret;exact⟨_,rfl,.inr ⟨j,rfl,hlt,by rw [<- HXE.o];exact h0,HALL.o⟩,by trivial⟩
    . have HC:=aq (cl86_any x w)
      rw [decide_eq_false h0]at HC;go_wp2_with (go_at_call 169;refine HC.o.mono ?_;rintro e w' ⟨rfl,rfl⟩);go_roundw
      case rel=>exact⟨j+1,by omega,by go_num,fun q hq=>lt_succ_cases HALL.o (by rw [<- HXE.o];omega) q hq,by trivial⟩
      case measure=>simp [intOf];omega
  . obtain rfl:j=n:=by omega
    go_wp2;go_ret;exact⟨_,rfl,.inl ⟨rfl,HALL.o⟩,by trivial⟩
theorem usC_all{xs:List Int}:∀ n,n<=xs.length->(∀ j,j<n->0<=gi xs j)->usC (xs.take n)=n
 | 0,_,_=>rfl
 | n+1,h,ha=>by
   rw [List.take_succ_eq_append_getElem (by omega),usC_snoc,usC_all n (by omega) (fun j hj=>ha j (by omega)),if_pos (by have:=ha n (by omega);rwa [gi_eq _ _ (by omega)]at this)]
theorem usC_lt{xs:List Int}{i:Nat}(hi:i<xs.length)(h:gi xs i<0):usC xs<xs.length:=by
 unfold usC;rw [List.length_filter_lt_length_iff_exists];refine⟨xs[i],List.getElem_mem hi,?_⟩;rw [<- gi_eq _ _ hi];simp;omega
theorem usC_step{xs:List Int}{j:Nat}(hj:j<xs.length):usC (xs.take (j+1))=usC (xs.take j)+if 0<=gi xs j then 1 else 0:=by
 rw [List.take_succ_eq_append_getElem hj,usC_snoc,gi_eq _ _ hj]
def DeI(w:World)(base n c:Nat)(A:Option Addr)(xs:List Int)(u i:Value)(wr:World):Prop:=∃ (j:Nat) (cur:List Int),j<=n/\i= .int .i64 j/\u= .int .i64 (usC (xs.take j))/\Own .i64 3 wr base A n c cur/\(∀ q,j<=q->q<n->gi cur q=gi xs q)/\Below base w wr
theorem delf_any(A:Option Addr)(n c base:Nat)(xs:List Int)(w:World)(hx:Own .i64 3 w base A n c xs)(hn:n<=100000)(hb:base<=w.heap.size):Calls prog 168 #[.slice A n c,.func (.func 169) #[] #[]] w fun e w'=>∃ A' c',e= .returned (.slice A' (usC xs) c')/\Below base w w':=by
 have hl:=(Own.rd hx).len;have HIX:=aq (ixf_any A n c xs w (Own.rd hx) hn);obtain⟨uu,huu⟩:∃ u,u=usC xs:=⟨_,rfl⟩
 rw [<- huu];have HUU:=aq huu;clear huu;have HX:=aq hx;clear hx;go_enter func168,ntmps168;go_wp2_with fail;refine HIX.o.mono ?_;rintro e w' ⟨r,rfl,hr,rfl⟩;clear HIX;rcases hr with⟨rfl,hall⟩ | ⟨i0,rfl,hi0,hneg,hall⟩
 . have hu:usC xs=n:=by have:=usC_all n (by omega) hall;rwa [List.take_of_length_le (by omega)]at this
   go_wp2;go_ret;exact⟨A,c,by rw [HUU.o,hu];rfl,Below.refl _ _⟩
 . have hq0:((i0:Int) == -1)=false:=beq_f (by omega)
   have hu0:usC (xs.take (i0+1))=i0:=by rw [usC_step (by omega),usC_all i0 (by omega) hall,if_neg (by omega),Nat.add_zero]
   have HLT:=aq (usC_lt (by omega:i0<xs.length) hneg);clear hneg hall;go_wp2;go_loopw [5,6] (fun u i wr=>DeI w base n c A xs u i wr) (fun _ i _=>n - (intOf i).toNat)
   case atStart=>exact⟨i0+1,xs,by omega,by go_num,by rw [hu0],HX.o,fun q _ _=>rfl,Below.refl _ _⟩
   case round =>
    obtain⟨j,cur,hj,rfl,rfl,hO,hsame,hB⟩:=hrel;clear HX hu0;have hO':=hO;have HB:=aq hB;by_cases hlt:j<n
    . have hc:=Rd.cell (Own.rd hO) hlt
      have hix:=fun W=>Rdv.ix (Own.rd hO) el34 hlt .i64 W;rw [hsame j (Nat.le_refl _) hlt]at hc;have HST:=aq (usC_step (xs:=xs) (j:=j) (by omega));have hul:usC (xs.take j)<=j:=by have:=usC_le (xs.take j);rw [List.length_take]at this;omega
      have HSM:=aq hsame;obtain⟨x,hxe⟩:∃ x,x=gi xs j:=⟨_,rfl⟩
      rw [<- hxe]at hc HST;clear hsame hxe;generalize usC (xs.take j)=u at *;by_cases h0:x<0
      . have HC:=aq (cl86_any x wr)
        rw [decide_eq_true h0]at HC;have HO:=aq hO;clear hO hO' hB;go_wp2_with (go_at_call 169;refine HC.o.mono ?_;rintro e w' ⟨rfl,rfl⟩);go_roundw
        case rel=>exact⟨j+1,cur,by omega,by go_num,by rw [HST.o,if_neg (by omega)];rfl,HO.o,fun q h1 h2=>HSM.o q (by omega) h2,HB.o⟩
        case measure=>simp [intOf];omega
      . have HC:=aq (cl86_any x wr)
        rw [decide_eq_false h0]at HC;have huj:u<n:=by omega
        have hcu:=Rd.cell (Own.rd hO) huj;have hfu:=Ownv.frozen hO (by have:=(Own.rd hO).le;omega) u;have hiu:=fun W=>Rdv.ix (Own.rd hO) el34 huj .i64 W;have HS:=aq (Own.set_ hO huj x);have hbA:=(Ownv.blk_ge hO (by have:=(Own.rd hO).le;omega)).1;have HB2:=aq (hB.grown (Own.set_ hO huj x).2 (Nat.le_trans hb hB.size) (fun k e=>by cases e;exact hbA));have hcl:=(Own.rd hO).len;clear hO hO' hB;go_wp2_with (go_at_call 169;refine HC.o.mono ?_;rintro e w' ⟨rfl,rfl⟩);go_roundw
        case rel=>exact⟨j+1,cur.set u x,by omega,by go_num,by rw [HST.o,if_pos (by omega)];go_num,HS.o.1,fun q h1 h2=>by rw [gi_set _ _ _ _ (by omega),if_neg (by omega)];exact HSM.o q (by omega) h2,HB2.o⟩
        case measure=>simp [intOf];omega
    . obtain rfl:j=n:=by omega
      rw [List.take_of_length_le (by omega)];have hlt':=HLT.o;rw [hl,<- HUU.o]at hlt';rw [<- HUU.o];have hcap:=(Own.rd hO).le;obtain⟨b,o,rfl,-⟩:=Rdv.ptr (Own.rd hO) (by omega);have hsl0:=fun W=>Rdv.sll (Own.rd hO) el34 .i64 (l:=uu) (by omega) W;rw [show cut (some ⟨b,o,none⟩) c uu=some ⟨b,o+uu,none⟩ from by unfold cut;rw [if_neg (by omega)];exact congrArg some (add_lit b o uu)]at hsl0;have hcl:∀ ty,(Builtin.clear_ #[51] ty #[.slice (some ⟨b,o+uu,none⟩) (j - uu) (c - uu)]).run prog wr= .ok (.tuple #[]) (wr.setCells b (o+uu) (List.replicate (j - uu) (.int .i64 0))):=fun ty =>
       Lib.run_clear_slice wr 51 3 ty (.int .i64 0) el34.u (fun W=>by kernel_rfl) rfl rfl b (o+uu) (j - uu) (c - uu) (by omega)
        (fun q hq=>by have:=Rd.cell (Own.rd hO) (j:=uu+q) (by omega);rw [adr_some]at this;rw [Nat.add_assoc,this];rfl)
        (fun q hq=>by have:=Ownv.frozen hO (by omega) (uu+q);rw [adr_some]at this;rw [Nat.add_assoc];exact this)
      have hsl1:=fun W=>Rdv.slh (Own.rd hO) el34 .i64 (m:=uu) (by omega) W;have hbA:=(Ownv.blk_ge hO (by omega)).1;have HB9:=aq (hB.grown (grownBy_setCells b (List.replicate (j - uu) (.int .i64 0)) (o+uu) wr) (Nat.le_trans hb hB.size) (fun k e=>by cases e;exact hbA));clear hO hO' hB hsame;go_wp2;go_ret;exact⟨_,_,rfl,HB9.o⟩
theorem usable_ok(k f:Nat)(lim:Int)(w:World)(h1:40<=k)(h2:k<=6144)(hf:f<k)(hl:1<=lim):Calls prog 115 #[.int .i64 k,.int .i64 f,.int .i64 lim] w fun e w'=>e= .returned (.tuple #[.int .i64 (usC ((bufL k f).take (szB k lim))),.int .i64 0])/\Below w.heap.size w w':=by
 have HBU:=aq (fun W=>buffer_ok k f lim W h1 h2 hf hl);have hzb:=szB_bd k hl;have hN:=nB_le h2;generalize szB k lim=Z at *;generalize nB k=N at *;obtain⟨u,hu⟩:∃ u,u=usC (List.take Z (bufL k f)):=⟨_,rfl⟩
 rw [<- hu];go_enter func115,ntmps115;go_wp2_with fail;refine(HBU.o _).mono ?_;rintro e w1 ⟨A,c,rfl,hO,hB1⟩;have HO:=aq hO;have HB1:=aq hB1;clear hO hB1;go_wp2_with fail;refine(delf_any A Z c w.heap.size _ w1 HO.o (by omega) HB1.o.size).mono ?_;rintro e w2 ⟨A',c',rfl,hB2⟩;have HB2:=aq (HB1.o.trans hB2);clear hB2;rw [<- hu];clear hu;go_wp2;go_ret2;exact⟨rfl,HB2.o⟩
def ly15(sz:Int):List Int × Int:=if sz<1\/79536<sz then(zero7,2) else(LY (sz+24).toNat,0)
theorem lay_any(sz:Int)(w:World):Calls prog 63 #[.int .i64 sz] w fun e w'=>e= .returned (.tuple #[.agg (ints8 (ly15 sz).1).toArray,.int .i64 (ly15 sz).2])/\Below w.heap.size w w':=by
 have hr0:Blk (w.alloc (.cells (ints8 zero7).toArray 122)) w.heap.size 122 (ints8 zero7):=Blk.new w _ 122 rfl;have hb0:=bal (Below.refl _ w) (.cells (ints8 zero7).toArray 122);by_cases h:sz<1\/79536<sz
 . have e:ly15 sz=(zero7,2):=by unfold ly15;rw [if_pos h]
   rw [e];simp only [ints8,zero7,List.map_cons,List.map_nil]at hr0 hb0 ⊢;by_cases h1:sz<1
   . have q:decide (sz<1)=true:=by simp [h1]
     clear h;go_enter func63,ntmps63;go_wp2_with (refine strow (cs:=[.int .i64 0,.int .i64 0,.int .i64 0,.int .i64 0,.int .i64 0,.int .i64 0,.int .i64 0]) rfl 122 (.tmp 2) (.tmp 10) rfl rfl rfl hr0 rfl info23 (ints8_one zero7) ?_;intro W4 g1 g2;have H4:=aq g1;have HB4:=aq (hb0.grown g2 hb0.size (fun k hk=>by cases hk;exact Nat.le_refl _));clear g1 g2 hr0);refine bodyPost_ret (v:=.tuple #[.agg #[.int .i64 0,.int .i64 0,.int .i64 0,.int .i64 0,.int .i64 0,.int .i64 0,.int .i64 0],.int .i64 2]) ?_ rfl ⟨rfl,HB4.o⟩;have l1:=res23 (m:=zero7) H4.o rfl;simp only [ints8,zero7,List.map_cons,List.map_nil]at l1;rw [results_ct rfl];simp [Act.put,asAddr,l1,Sem.run_pure,Result.andThen]
   . have q:decide (sz<1)=false:=by simp;omega
     have q2:decide (79536<sz)=true:=by simp;omega
     clear h h1;go_enter func63,ntmps63;go_wp2_with (refine strow (cs:=[.int .i64 0,.int .i64 0,.int .i64 0,.int .i64 0,.int .i64 0,.int .i64 0,.int .i64 0]) rfl 122 (.tmp 2) (.tmp 10) rfl rfl rfl hr0 rfl info23 (ints8_one zero7) ?_;intro W4 g1 g2;have H4:=aq g1;have HB4:=aq (hb0.grown g2 hb0.size (fun k hk=>by cases hk;exact Nat.le_refl _));clear g1 g2 hr0);refine bodyPost_ret (v:=.tuple #[.agg #[.int .i64 0,.int .i64 0,.int .i64 0,.int .i64 0,.int .i64 0,.int .i64 0,.int .i64 0],.int .i64 2]) ?_ rfl ⟨rfl,HB4.o⟩;have l1:=res23 (m:=zero7) H4.o rfl;simp only [ints8,zero7,List.map_cons,List.map_nil]at l1;rw [results_ct rfl];simp [Act.put,asAddr,l1,Sem.run_pure,Result.andThen]
 . have e:ly15 sz=(LY (sz+24).toNat,0):=by unfold ly15;rw [if_neg h]
   obtain⟨b,hb⟩:∃ b,b=(sz+24).toNat:=⟨_,rfl⟩
   rw [e,<- hb];have HP:=aq (fun W=>plan_top b W (by omega) (by omega));skip;have hbs:sz+24=(b:Int):=by omega
   have hbw:IntKind.i64.wrap (sz+24)=(b:Int):=by rw [IntKind.wrap_i64];omega
   have q:decide (sz<1)=false:=by simp;omega
   have q2:decide (79536<sz)=false:=by simp;omega
   clear h e hb hbs;obtain⟨ly,hly⟩:∃ ly,ly=LY b:=⟨_,rfl⟩
   have hl7:ly.length=7:=by rw [hly];rfl
   rw [<- hly]at HP ⊢;clear hly;have HR0:=aq hr0;have HB0:=aq hb0;clear hr0 hb0;simp only [ints8,zero7,List.map_cons,List.map_nil]at HR0 HB0;go_enter func63,ntmps63;go_wp2_with fail;refine(HP.o _).mono ?_;rintro e w1 ⟨rfl,hB1⟩;have hr1:=HR0.o.below hB1;have HB1:=aq (HB0.o.trans (hB1.mono HB0.o.size));clear hB1;go_wp2_with (refine strow (cs:=ints8 ly) rfl 122 (.tmp 2) (.tmp 14) rfl rfl rfl hr1 (by simp [ints8,hl7]) (by rw [info23];simp [ints8,hl7]) (ints8_one ly) ?_;intro W4 g1 g2;have H4:=aq g1;have HB4:=aq (HB1.o.grown g2 HB1.o.size (fun k hk=>by cases hk;exact Nat.le_refl _));clear g1 g2 hr1);refine bodyPost_ret (v:=.tuple #[.agg (ints8 ly).toArray,.int .i64 0]) ?_ rfl ⟨rfl,HB4.o⟩;have l1:=res23 (m:=ly) H4.o hl7;rw [results_ct rfl];simp [Act.put,asAddr,l1,Sem.run_pure,Result.andThen]
set_option maxHeartbeats 4000000
def VC(sz bt md lm rv:Int):Bool:=decide (1<=sz/\sz<=79536/\(md=2\/md=4\/md=6)/\0<=bt/\bt<=131072/\bt % md=0/\1<=lm/\0<=rv/\rv<=3)
theorem valc_any(sz bt md lm rv:Int)(w:World):Calls prog 107 #[.agg #[.int .i64 sz,.int .i64 bt,.int .i64 md,.int .i64 lm,.int .i64 rv]] w fun e w'=>e= .returned (.bool (VC sz bt md lm rv))/\Below w.heap.size w w':=by
 obtain⟨e,he⟩:∃ e,e=bt % md:=⟨_,rfl⟩
 have ht:0<=bt->bt.tmod md=e:=fun h=>by rw [Int.tmod_eq_emod_of_nonneg h,he]
 have hv:VC sz bt md lm rv=decide (1<=sz/\sz<=79536/\(md=2\/md=4\/md=6)/\0<=bt/\bt<=131072/\e=0/\1<=lm/\0<=rv/\rv<=3):=by unfold VC;rw [he]
 rw [hv];clear hv he;rcases (by omega:sz<1\/(1<=sz/\79536<sz)\/((1<=sz/\sz<=79536)/\md≠2/\md≠4/\md≠6)\/((1<=sz/\sz<=79536)/\(md=2\/md=4\/md=6))) with a1 | ⟨a1,a2⟩ | ⟨⟨a1,a2⟩,n2,n4,n6⟩ | ⟨⟨a1,a2⟩,z⟩
 all_goals first
  | (rcases z with rfl | rfl | rfl<;>rcases (by omega:(bt<0)\/(0<=bt/\131072<bt)\/(0<=bt/\bt<=131072/\e≠0)\/(0<=bt/\bt<=131072/\e=0/\lm<1)\/(0<=bt/\bt<=131072/\e=0/\1<=lm/\rv<0)\/(0<=bt/\bt<=131072/\e=0/\1<=lm/\0<=rv/\3<rv)\/(0<=bt/\bt<=131072/\e=0/\1<=lm/\0<=rv/\rv<=3)) with c1 | ⟨c1,c2⟩ | ⟨c1,c2,c3⟩ | ⟨c1,c2,c3,c4⟩ | ⟨c1,c2,c3,c4,c5⟩ | ⟨c1,c2,c3,c4,c5,c6⟩ | ⟨c1,c2,c3,c4,c5,c6⟩)
  | (have m2:=beq_f n2;have m4:=beq_f n4;have m6:=beq_f n6)
  | skip
 all_goals
  first | rw [decide_eq_true (by omega)] | rw [decide_eq_false (by omega)]
  try have hq:=ht (by omega)
  try have hz:=beq_f (show e≠0 by assumption)
  clear ht
  go_enter func107,ntmps107
  go_wp2
  go_ret
  refine⟨?_,bal (Below.refl _ w) _⟩
  first | rfl | (show Ending.returned (.bool (decide (rv<=3)))=_;rw [decide_eq_true (by omega)]) | (show Ending.returned (.bool (decide (rv<=3)))=_;rw [decide_eq_false (by omega)])
open Go.Shelf
attribute [local go_sem] Oper.semAt_some
def ClB{β:Type}(J:β->World->Prop):Prop:=∀ s W W',J s W->Below W.heap.size W W'->J s W'
theorem ClB.alloc{β:Type}{J:β->World->Prop}(h:ClB J){s:β}{W:World}(o:Obj)(hs:J s W):J s (W.alloc o):=h s W _ hs ((Below.refl _ W).alloc (Nat.le_refl _) o)
theorem ClB.call{β:Type}{J:β->World->Prop}(h:ClB J){s:β}{W W':World}(hs:J s W)(hb:Below W.heap.size W W'):J s W':=h s W W' hs hb
def ClP{β:Type}(B:Nat)(J:β->World->Prop):Prop:=∀ s W l o o',J s W->B<=l->W.heap[l]?=some o->o.isCells=false->J s (W.putObj l o')
def SeqE{α:Type}(m gf:Nat)(lb:Array Value)(encs:α->Array Value)(Kp:World->World->Prop)(S Sp:List α->Prop)(Ok:List α->α->Prop)(w:World):Prop :=
 ∀ (l:Nat) (J Jx:List α->World->Prop) (W:World),Below w.heap.size w W->ClB J->ClB Jx ->
  (∀ pre x W1,J pre W1->Ok pre x->YieldAt Fence.wide (m - 1) prog l (encs x) W1 fun e W' =>
    (e= .returned (.bool true)/\J (pre ++ [x]) W'/\Kp W1 W')\/(e= .returned (.bool false)/\Jx (pre ++ [x]) W')) ->
  J [] W ->
  CallsIn Fence.wide m prog gf (#[.func (.yield l) #[] #[]] ++ lb) W fun e W'=>(∃ v,e= .returned v)/\((∃ xs,S xs/\J xs W')\/(∃ pre,Sp pre/\Jx pre W'))
def LpJ{α:Type}(n:Nat)(r:Loop)(I:List α->World->Prop)(pre:List α)(W:World):Prop:=I pre W/\W.heap[n+1]?=some (.loop r)/\W.heap[n]?=some (.deferred (some []))
theorem LpJ.b{α:Type}{n:Nat}{r:Loop}{I:List α->World->Prop}(hI:ClB I):ClB (LpJ n r I):=fun s A B h hb=>⟨hI s A B h.1 hb,(hb.block _ (Array.getElem?_eq_some_iff.1 h.2.1).1).trans h.2.1,(hb.block _ (Array.getElem?_eq_some_iff.1 h.2.2).1).trans h.2.2⟩
theorem LpJ.x{α:Type}{n:Nat}{rd:Code->Loop}{Ix:Code->List α->World->Prop}(hI:∀ c,ClB (Ix c)):ClB (fun pre W=>∃ c,LpJ n (rd c) (Ix c) pre W):=fun s A B ⟨c,h⟩ hb=>⟨c,LpJ.b (hI c) s A B h hb⟩
theorem rangeQ{α:Type}{g:Operand}{ps:Array Tmp}{assign body:Code}{Q:Exit->Act->World->Prop}{a:Act}{w:World}
 {gf:Nat} {lb:Array Value} (hg:a.eval g= .func (.func gf) #[] lb) (eg:∀ args w,(callFunc gf args).run prog w= .ok (.enter gf args) w)
 {encs:α->Array Value} {Kp:World->World->Prop} {S Sp:List α->Prop} {Ok:List α->α->World->Prop} {w0:World} {d y:Nat} (hOk:∀ pre x W l o o',Ok pre x W->W.heap[l]?=some o->o.isCells=false->Ok pre x (W.putObj l o'))
 (hKt:∀ {A B C:World},Kp A B->Kp B C->Kp A C) (hKb:∀ (W:World) (l:Nat) (o o':Obj),w.heap.size<=l->W.heap[l]?=some o->o.isCells=false->Kp W (W.putObj l o')) (hb0:Below w0.heap.size w0 w) (hps:∀ x,(encs x).size=ps.size)
 (I:List α->World->Prop) (Ix:Code->List α->World->Prop) (hrun:∀ (n:Nat) (r:Loop) (rd:Code->Loop) (W:World),n=w.heap.size->W.heap.size=n+2->Below w0.heap.size w0 W ->
   (∀ pre x W1,LpJ n r I pre W1->Ok pre x W1->YieldAt Fence.wide y prog (n+1) (encs x) W1 fun e W'=>(e= .returned (.bool true)/\LpJ n r I (pre ++ [x]) W'/\Kp W1 W')\/(e= .returned (.bool false)/\∃ c,LpJ n (rd c) (Ix c) (pre ++ [x]) W'))->LpJ n r I [] W ->
   CallsIn Fence.wide (d+2) prog gf (#[.func (.yield (n+1)) #[] #[]] ++ lb) W fun e W'=>(∃ v,e= .returned v)/\((∃ xs,S xs/\LpJ n r I xs W')\/(∃ pre,Sp pre/\∃ c,LpJ n (rd c) (Ix c) pre W'))) (hI:ClB I) (hIp:ClP w.heap.size I) (hIxp:∀ c,ClP w.heap.size (Ix c)) (h0:I [] w) (a₁:α->Act)
 (hassign:∀ (l:Nat) (x:α) (W:World) (K:Act->World->Prop),K (a₁ x) W ->
   assign.wpIn (Fence.wide.inRound l) y prog (Exit.then K (fun _ _ _=>False)) {tmps:=(ps.zip (encs x)).foldl (fun t (p,v)=>t.setIfInBounds p v) a.tmps,defers:=[]} W)
 (hbody:∀ (l:Nat) (pre:List α) (x:α) (W:World),I pre W->Ok pre x W->body.wpIn (Fence.wide.inRound l) y prog (ownPostK Kp I Ix (pre ++ [x]) W) (a₁ x) W)
 (hdone:∀ (D:Nat) (xs:List α) (W:World),w.heap.size<=D->S xs->I xs W->W.heap[D]?=some (.deferred (some []))->Q .normal {a with defers:={target:=.collected D,args:=#[]} :: a.defers} W)
 (hstop:∀ (D:Nat) (c:Code) (pre:List α) (W:World),w.heap.size<=D->Sp pre->Ix c pre W->W.heap[D]?=some (.deferred (some []))->c.wpIn Fence.wide (d+3) prog Q {a with defers:={target:=.collected D,args:=#[]} :: a.defers} W) :
 (Code.rangeFunc g ps assign body).wpIn Fence.wide (d+3) prog Q a w:=by
 refine wpIn_rangeFunc fun fn hfn=>?_;obtain⟨n,hn⟩:∃ n,n=w.heap.size:=⟨_,rfl⟩
 rw [<- hn]at hKb hIp hIxp hdone hstop;obtain⟨rc,hrc⟩:∃ rc:LoopState->Option Code->Loop,rc=fun st pe=>{state:=st,pending:=pe,fn,tmps:=a.tmps,params:=ps,assign,body,defers:=n}:=⟨_,rfl⟩
 obtain⟨W1,hW1⟩:∃ W1,W1=(w.alloc (.deferred (some []))).alloc (.loop (rc .ready none)):=⟨_,rfl⟩
 have hs1:W1.heap.size=n+2:=by rw [hW1,hn];simp
 have hL1:W1.heap[n+1]?=some (.loop (rc .ready none)):=by
  rw [hW1,hn];have h:=World.alloc_heap_new (w.alloc (.deferred (some []))) (.loop (rc .ready none));rwa [World.size_alloc]at h
 have hK1:W1.heap[n]?=some (.deferred (some [])):=by
  rw [hW1,hn];exact(Below.heap_alloc _ _ _ (by simp)).trans (World.alloc_heap_new w _)
 have hI1:I [] W1:=by rw [hW1];exact hI.alloc _ (hI.alloc _ h0)
 have hb1:Below w0.heap.size w0 W1:=by
  rw [hW1];exact hb0.trans ((((Below.refl _ w).alloc (Nat.le_refl _) _).alloc (by simp) _).mono hb0.size)
 refine⟨n+1,[{target:=.collected n,args:=#[]}],W1,{target:=.fn (.func gf) lb,args:=#[.func (.yield (n+1)) #[] #[]]},W1,gf,#[.func (.yield (n+1)) #[] #[]] ++ lb,W1,?_,?_,?_,?_,fun _=>by omega,?_⟩
 . rw [hW1,hrc,hn]
   exact run_enterLoop_outer _ _ _ _ _
 . simp only [resolve,hg]
   simp [go_sem]
 . intro f hf
   simp [Target.leads]at hf;subst hf;trivial
 . simp [invoke,go_sem,eg]
 refine(hrun n (rc .ready none) (fun c=>rc .done (some c)) W1 hn hs1 hb1 ?_ ⟨hI1,hL1,hK1⟩).mono ?_
 . rintro pre x W ⟨hi,hl,hk⟩ hlen
   have hlt:n+1<W.heap.size:=(Array.getElem?_eq_some_iff.1 hl).1;obtain⟨Wb,hWb⟩:∃ Wb,Wb=W.putObj (n+1) (.loop {rc .ready none with state:=.busy}):=⟨_,rfl⟩
   have hlb:Wb.heap[n+1]?=some (.loop {rc .ready none with state:=.busy}):=by rw [hWb];exact World.putObj_heap_same hlt
   have hkb:Wb.heap[n]?=some (.deferred (some [])):=by rw [hWb];exact(World.putObj_heap_other (by omega)).trans hk
   have hib:I pre Wb:=by rw [hWb];exact hIp _ _ _ _ _ hi (by omega) hl rfl
   have hpb:Kp W Wb:=by rw [hWb];exact hKb _ _ _ _ (by omega) hl rfl
   have hyl:=run_yield (P:=prog) (args:=encs x) hl (by rw [hrc];exact hps x);rw [hrc]at hyl;refine⟨fn,_,assign,body,hyl,roundIn_of_wpIn hfn (hassign _ x W _ ⟨_,run_beginRound hl (by rw [hrc]),?_⟩)⟩;rw [<- hWb];refine wpIn_mono (hbody _ pre x _ hib (by rw [hWb];exact hOk _ _ _ _ _ _ hlen hl rfl)) ?_;have close:∀ (jump:Option Code) (W3:World),KeepsOthers Wb W3->∃ W4,W4=W3.putObj (n+1) (.loop (rc (if jump.isNone then .ready else .done) jump))/\(Instr.endRound (n+1) jump).run prog W3= .ok (.bool jump.isNone) W4 /\
    (∃ o:Obj,W3.heap[n+1]?=some o/\o.isCells=false)/\W4.heap[n+1]?=some (.loop (rc (if jump.isNone then .ready else .done) jump))/\W4.heap[n]?=some (.deferred (some [])):=fun jump W3 hk3=>by
    have hl3:=hk3.same _ _ hlb rfl;have hr3:=run_endRound (P:=prog) jump hl3;rw [hrc]at hr3 ⊢;exact⟨_,rfl,hr3,⟨_,hl3,rfl⟩,World.putObj_heap_same (Array.getElem?_eq_some_iff.1 hl3).1,(World.putObj_heap_other (by omega)).trans (hk3.same _ _ hkb rfl)⟩
   have away:∀ (c:Code) (W3:World),KeepsOthers Wb W3->Ix c (pre ++ [x]) W3->∃ v W4,(Instr.endRound (n+1) (some c)).run prog W3= .ok v W4/\v= .bool false/\∃ c',Ix c' (pre ++ [x]) W4/\W4.heap[n+1]?=some (.loop (rc .done (some c')))/\W4.heap[n]?=some (.deferred (some [])):=fun c W3 hk3 hi3=>by
    obtain⟨W4,e4,hr,⟨o,ho,hc⟩,h1,h2⟩:=close (some c) W3 hk3;exact⟨_,W4,hr,rfl,c,by rw [e4];exact hIxp c _ _ _ _ _ hi3 (by omega) ho hc,h1,h2⟩
   rintro e a3 W3 hp;cases e with
   | normal =>
     obtain⟨hk3,hp3,hi3⟩:=hp;obtain⟨W4,e4,hr,⟨o,ho,hc⟩,h1,h2⟩:=close none W3 hk3;refine⟨_,W4,hr,.inl ⟨rfl,⟨?_,h1,h2⟩,hKt (hKt hpb hp3) ?_⟩⟩
     . rw [e4];exact hIp _ _ _ _ _ hi3 (by omega) ho hc
     . rw [e4];exact hKb _ _ _ _ (by omega) ho hc
   | ret =>
     obtain⟨v,W4,hr,hv,h⟩:=away .ret W3 hp.1 hp.2;exact⟨v,W4,hr,.inr ⟨by rw [hv],h⟩⟩
   | exit id =>
     obtain⟨v,W4,hr,hv,h⟩:=away (.exit id) W3 hp.1 hp.2;exact⟨v,W4,hr,.inr ⟨by rw [hv],h⟩⟩
   | goto t =>
     obtain⟨v,W4,hr,hv,h⟩:=away (.goto t) W3 hp.1 hp.2;exact⟨v,W4,hr,.inr ⟨by rw [hv],h⟩⟩
   | panic ch=>exact hp.elim
   | outgrown=>exact hp.elim
 . rintro e W2 ⟨⟨v,rfl⟩,h⟩
   rcases h with⟨xs,hS,hi,hl,hk⟩ | ⟨pre,hSp,c,hi,hl,hk⟩
   . have hr:=run_endLoop (P:=prog) hl (by rw [hrc];simp)
     rw [hrc]at hr;exact⟨none,_,hr,hdone _ xs _ (Nat.le_refl _) hS (hIp _ _ _ _ _ hi (by omega) hl rfl) ((World.putObj_heap_other (by omega)).trans hk)⟩
   . have hl:W2.heap[n+1]?=some (.loop (rc .done (some c))):=hl
     have hr:=run_endLoop (P:=prog) hl (by rw [hrc];simp);rw [hrc]at hr;exact⟨some c,_,hr,hstop _ c pre _ (Nat.le_refl _) hSp (hIxp c _ _ _ _ _ hi (by omega) hl rfl) ((World.putObj_heap_other (by omega)).trans hk)⟩
theorem rangeE{α:Type}{g:Operand}{ps:Array Tmp}{assign body:Code}{Q:Exit->Act->World->Prop}{a:Act}{w:World}
 {gf:Nat} {lb:Array Value} (hg:a.eval g= .func (.func gf) #[] lb) (eg:∀ args w,(callFunc gf args).run prog w= .ok (.enter gf args) w)
 {encs:α->Array Value} {Kp:World->World->Prop} {S Sp:List α->Prop} {Ok:List α->α->Prop} {w0:World} (hseq:SeqE 2 gf lb encs Kp S Sp Ok w0)
 (hKt:∀ {A B C:World},Kp A B->Kp B C->Kp A C) (hKb:∀ (W:World) (l:Nat) (o o':Obj),w.heap.size<=l->W.heap[l]?=some o->o.isCells=false->Kp W (W.putObj l o')) (hb0:Below w0.heap.size w0 w) (hps:∀ x,(encs x).size=ps.size)
 (I:List α->World->Prop) (Ix:Code->List α->World->Prop) (hI:ClB I) (hIx:∀ c,ClB (Ix c)) (hIp:ClP w.heap.size I) (hIxp:∀ c,ClP w.heap.size (Ix c)) (h0:I [] w) (a₁:α->Act)
 (hassign:∀ (l:Nat) (x:α) (W:World) (K:Act->World->Prop),K (a₁ x) W ->
   assign.wpIn (Fence.wide.inRound l) 1 prog (Exit.then K (fun _ _ _=>False)) {tmps:=(ps.zip (encs x)).foldl (fun t (p,v)=>t.setIfInBounds p v) a.tmps,defers:=[]} W)
 (hbody:∀ (l:Nat) (pre:List α) (x:α) (W:World),I pre W->Ok pre x->body.wpIn (Fence.wide.inRound l) 1 prog (ownPostK Kp I Ix (pre ++ [x]) W) (a₁ x) W)
 (hdone:∀ (D:Nat) (xs:List α) (W:World),w.heap.size<=D->S xs->I xs W->W.heap[D]?=some (.deferred (some []))->Q .normal {a with defers:={target:=.collected D,args:=#[]} :: a.defers} W)
 (hstop:∀ (D:Nat) (c:Code) (pre:List α) (W:World),w.heap.size<=D->Sp pre->Ix c pre W->W.heap[D]?=some (.deferred (some []))->c.wpIn Fence.wide 3 prog Q {a with defers:={target:=.collected D,args:=#[]} :: a.defers} W) :
 (Code.rangeFunc g ps assign body).wpIn Fence.wide 3 prog Q a w :=
 rangeQ (Kp:=Kp) (Ok:=fun pre x _=>Ok pre x) (d:=0) (y:=1) hg eg (fun _ _ _ _ _ _ h _ _=>h) hKt hKb hb0 hps I Ix (fun n r rd W hn hs hb hy hj=>hseq (n+1) _ _ W hb (LpJ.b hI) (LpJ.x hIx) hy hj) hI hIp hIxp h0 a₁ hassign hbody hdone hstop
def ClR(n:Nat)(ts:List TypeId){α:Type}(J:α->World->Prop):Prop:=∀ s A B r t x f,n<=r->J s A->A.heap[r]?=some (.cells x t f)->t ∈ ts->A.grownBy B (some r)->J s B
def SeqT(ts:List TypeId){α:Type}(m gf:Nat)(lb:Array Value)(encs:α->Array Value)(Kp:World->World->Prop)(S Sp:List α->Prop)(Ok:List α->α->Prop)(T:Nat)(w:World):Prop :=
 ∀ (l:Nat) (J Jx:List α->World->Prop) (W:World),Below w.heap.size w W->ClB J->ClB Jx->ClR W.heap.size ts J->ClR W.heap.size ts Jx ->
  (∀ pre x W1,J pre W1->Ok pre x->YieldAt Fence.wide (m - 1) prog l (encs x) W1 fun e W' =>
    (e= .returned (.bool true)/\J (pre ++ [x]) W'/\Kp W1 W')\/(e= .returned (.bool false)/\Jx (pre ++ [x]) W')) ->
  (∀ pre W,J pre W->pre.length<T)->J [] W ->
  CallsIn Fence.wide m prog gf (#[.func (.yield l) #[] #[]] ++ lb) W fun e W'=>(∃ v,e= .returned v)/\((∃ xs,S xs/\J xs W')\/(∃ pre,Sp pre/\Jx pre W'))
theorem LpJ.r{ts:List TypeId}{α:Type}{n m k:Nat}{q:Loop}{I:List α->World->Prop}(hI:ClR m ts I)(hm:m<=k):ClR k ts (LpJ n q I):=fun s A B r t x f h9 hs hr ht hg =>
 ⟨hI s A B r t x f (Nat.le_trans hm h9) hs.1 hr ht hg,
  (hg.block _ (Array.getElem?_eq_some_iff.1 hs.2.1).1 (fun e=>by rw [Option.some.injEq]at e;first | rw [e,hs.2.1]at hr | rw [<- e,hs.2.1]at hr;cases hr)).trans hs.2.1,
  (hg.block _ (Array.getElem?_eq_some_iff.1 hs.2.2).1 (fun e=>by rw [Option.some.injEq]at e;first | rw [e,hs.2.2]at hr | rw [<- e,hs.2.2]at hr;cases hr)).trans hs.2.2⟩
theorem rangeT{ts:List TypeId}{α:Type}{g:Operand}{ps:Array Tmp}{assign body:Code}{Q:Exit->Act->World->Prop}{a:Act}{w:World}
 {gf:Nat} {lb:Array Value} (hg:a.eval g= .func (.func gf) #[] lb) (eg:∀ args w,(callFunc gf args).run prog w= .ok (.enter gf args) w)
 {encs:α->Array Value} {Kp:World->World->Prop} {S Sp:List α->Prop} {Ok:List α->α->Prop} {w0:World} {T:Nat} (hseq:SeqT ts 2 gf lb encs Kp S Sp Ok T w0)
 (hKt:∀ {A B C:World},Kp A B->Kp B C->Kp A C) (hKb:∀ (W:World) (l:Nat) (o o':Obj),w.heap.size<=l->W.heap[l]?=some o->o.isCells=false->Kp W (W.putObj l o')) (hb0:Below w0.heap.size w0 w) (hps:∀ x,(encs x).size=ps.size)
 (I:List α->World->Prop) (Ix:Code->List α->World->Prop) (hI:ClB I) (hIx:∀ c,ClB (Ix c)) (hIr:ClR w.heap.size ts I) (hIxr:∀ c,ClR w.heap.size ts (Ix c)) (hIp:ClP w.heap.size I) (hIxp:∀ c,ClP w.heap.size (Ix c)) (hIT:∀ pre W,I pre W->pre.length<T) (h0:I [] w) (a₁:α->Act)
 (hassign:∀ (l:Nat) (x:α) (W:World) (K:Act->World->Prop),K (a₁ x) W ->
   assign.wpIn (Fence.wide.inRound l) 1 prog (Exit.then K (fun _ _ _=>False)) {tmps:=(ps.zip (encs x)).foldl (fun t (p,v)=>t.setIfInBounds p v) a.tmps,defers:=[]} W)
 (hbody:∀ (l:Nat) (pre:List α) (x:α) (W:World),I pre W->Ok pre x->body.wpIn (Fence.wide.inRound l) 1 prog (ownPostK Kp I Ix (pre ++ [x]) W) (a₁ x) W)
 (hdone:∀ (D:Nat) (xs:List α) (W:World),w.heap.size<=D->S xs->I xs W->W.heap[D]?=some (.deferred (some []))->Q .normal {a with defers:={target:=.collected D,args:=#[]} :: a.defers} W)
 (hstop:∀ (D:Nat) (c:Code) (pre:List α) (W:World),w.heap.size<=D->Sp pre->Ix c pre W->W.heap[D]?=some (.deferred (some []))->c.wpIn Fence.wide 3 prog Q {a with defers:={target:=.collected D,args:=#[]} :: a.defers} W) :
 (Code.rangeFunc g ps assign body).wpIn Fence.wide 3 prog Q a w :=
 rangeQ (Kp:=Kp) (Ok:=fun pre x _=>Ok pre x) (d:=0) (y:=1) hg eg (fun _ _ _ _ _ _ h _ _=>h) hKt hKb hb0 hps I Ix (fun n r rd W hn hs hb hy hj=>hseq (n+1) _ _ W hb (LpJ.b hI) (LpJ.x hIx) (LpJ.r hIr (by omega)) (fun s A B r t x f h9 ⟨c,h⟩ hr ht hg=>⟨c,LpJ.r (hIxr c) (Nat.le_refl _) s A B r t x f (by omega) h hr ht hg⟩) hy (fun pre W h=>hIT pre W h.1) hj) hI hIp hIxp h0 a₁ hassign hbody hdone hstop
end Go.Proofs.YthmhogdceolkdaaGreat.Cr