/- Bundle. Conditions: none. -/
import Derived.Test.YthmhogdceolkdaaGreatBqau
set_option linter.unusedVariables false
set_option linter.unusedSimpArgs false
namespace Go.Proofs.YthmhogdceolkdaaGreat.Cr
open Tryz
open Go.RowKit Go.Shelf
attribute [local go_sem] Oper.semAt_some
set_option maxRecDepth 100000
set_option maxHeartbeats 4000000
def shr(C g m i:Nat):Int:=if i+g % C<C then((g / C*m:Nat):Int) else(((g / C+1)*m:Nat):Int)
def shT(C g m n:Nat):List Int:=(List.range n).map (shr C g m)
theorem shT_len(C g m n:Nat):(shT C g m n).length=n:=by simp [shT]
theorem shT_succ(C g m n:Nat):shT C g m (n+1)=shT C g m n ++ [shr C g m n]:=by simp [shT,List.range_succ]
theorem shT_gi(C g m n i:Nat)(h:i<n):gi (shT C g m n) i=shr C g m i:=by
 rw [gi_eq _ _ (by rw [shT_len];exact h)];simp [shT]
def psS(C g m:Nat):List (Int × Int):=(List.range C).map fun(i:Nat)=>((i:Int),shr C g m i)
theorem psS_len(C g m:Nat):(psS C g m).length=C:=by simp [psS]
theorem psS_get(C g m k:Nat)(h:k<(psS C g m).length):(psS C g m)[k]=((k:Int),shr C g m k):=by simp [psS]
def ScI(PS:List (Int × Int))(C:Nat)(J:List (Int × Int)->World->Prop)(W0:World)(CB KB:Nat)(cf:List Value)(i:Value)(wr:World):Prop :=
 ∃ k:Nat,k<=C/\i= .int .i64 k/\J (PS.take k) wr/\(Blk wr CB 36 cf/\Blk wr KB 3 [.int .i64 C])/\W0.heap.size<=wr.heap.size
theorem shs_in(l C g m CB KB:Nat)(sz lm rv:Int)(hC1:1<=C)(hC:C<=13)(hm1:1<=m)(hm:m<=6)(hg:g<=65536)(Kp:World->World->Prop)(W:World)
 (hCB:Blk W CB 36 [.int .i64 sz,.int .i64 ((m*g:Nat):Int),.int .i64 m,.int .i64 lm,.int .i64 rv]) (hKB:Blk W KB 3 [.int .i64 C])
 (hkp:∀ A B,Kp A B->Blk A CB 36 [.int .i64 sz,.int .i64 ((m*g:Nat):Int),.int .i64 m,.int .i64 lm,.int .i64 rv]->Blk A KB 3 [.int .i64 C]->Blk B CB 36 [.int .i64 sz,.int .i64 ((m*g:Nat):Int),.int .i64 m,.int .i64 lm,.int .i64 rv]/\Blk B KB 3 [.int .i64 C])
 (hks:∀ A B,Kp A B->A.heap.size<=B.heap.size)
 (J Jx:List (Int × Int)->World->Prop) (hJ:ClB J) (hJx:ClB Jx)
 (hY:∀ pre x W1,J pre W1->OkP (psS C g m) pre x->YieldAt Fence.wide 1 prog l (encP x) W1 fun e W' =>
   (e= .returned (.bool true)/\J (pre ++ [x]) W'/\Kp W1 W')\/(e= .returned (.bool false)/\Jx (pre ++ [x]) W'))
 (h0:J [] W) :
 CallsIn Fence.wide 2 prog 163 #[.func (.yield l) #[] #[],.pointer (some ⟨CB,0,none⟩),.pointer (some ⟨KB,0,none⟩)] W (IdQ (psS C g m) J Jx):=by
 obtain⟨PS,hPS⟩:∃ PS,PS=psS C g m:=⟨_,rfl⟩
 have HPL:=aq (show PS.length=C by rw [hPS];exact psS_len C g m);have HPG:=aq (show ∀ k (h:k<PS.length),PS[k]=((k:Int),shr C g m k) from fun k h=>by subst hPS;exact psS_get C g m k h);have HSH0:=aq (fun i=>show shr C g m i=if i+g % C<C then((g / C*m:Nat):Int) else(((g / C+1)*m:Nat):Int) from rfl);rw [<- hPS]at hY ⊢;obtain⟨bt,hbt⟩:∃ bt,bt=((m*g:Nat):Int):=⟨_,rfl⟩
 rw [<- hbt]at hCB hkp;have hgq:bt / (m:Int)=(g:Int):=by rw [hbt];push_cast;exact Int.mul_ediv_cancel_left _ (by omega)
 have hgt:bt.tdiv (m:Int)=(g:Int):=by rw [Int.tdiv_eq_ediv_of_nonneg (by rw [hbt];omega)];exact hgq
 have hgw:IntKind.i64.wrap (g:Int)=(g:Int):=by rw [IntKind.wrap_i64];omega
 have hmne:¬ m=0:=by omega
 have hCne:¬ C=0:=by omega
 obtain⟨a,ha⟩:∃ a,a=g / C:=⟨_,rfl⟩
 obtain⟨r,hr⟩:∃ r,r=g % C:=⟨_,rfl⟩
 have haq:(g:Int) / (C:Int)=(a:Int):=by rw [ha];rfl
 have hrq:(g:Int) % (C:Int)=(r:Int):=by rw [hr];rfl
 have hat:(g:Int).tdiv (C:Int)=(a:Int):=by rw [Int.tdiv_eq_ediv_of_nonneg (by omega)];exact haq
 have hrt:(g:Int).tmod (C:Int)=(r:Int):=by rw [Int.tmod_eq_emod_of_nonneg (by omega)];exact hrq
 have ha1:a<=65536:=by rw [ha];exact Nat.le_trans (Nat.div_le_self _ _) hg
 have hrC:r<C:=by rw [hr];exact Nat.mod_lt _ (by omega)
 have haw:IntKind.i64.wrap (a:Int)=(a:Int):=by rw [IntKind.wrap_i64];omega
 have hcw:IntKind.i64.wrap ((C:Int) - (r:Int))=(C:Int) - (r:Int):=by rw [IntKind.wrap_i64];omega
 have HSH:Hid (∀ i,shr C g m i=if i+r<C then((a*m:Nat):Int) else(((a+1)*m:Nat):Int)):=aq (fun i=>by rw [ha,hr];exact HSH0.o i);have HKP:=aq hkp;have HKS:=aq hks;clear hPS hbt ha hr HSH0 hkp hks;have HQ0:=aq (And.intro hCB hKB);have c1:=hCB.cell (j:=1) (v:=.int .i64 bt) rfl;have c2:=hCB.cell (j:=2) (v:=.int .i64 m) rfl;have c3:=hKB.cell (j:=0) (v:=.int .i64 C) rfl;clear hCB hKB;refine callsIn_of_wp func163 rfl trivial ?_ rfl;simp only [ntmps163,List.size_toArray,List.length_cons,List.length_nil,Nat.reduceAdd,Nat.reduceSub,Array.replicate_succ,Array.replicate_zero,List.push_toArray,List.append_toArray,List.nil_append,List.cons_append];refine wpIn_scope_straight rfl ?_;gi_wp2_with fail;refine wpIn_label ?_;rename_i K hK;refine hK _ _ ?_;clear hK K;gi_wp2_with fail;gi_loopw [13] (fun i wr=>ScI PS C J W CB KB [.int .i64 sz,.int .i64 bt,.int .i64 m,.int .i64 lm,.int .i64 rv] i wr) (fun i _=>C - (intOf i).toNat)
 case atStart=>exact⟨0,Nat.zero_le _,rfl,h0,HQ0.o,Nat.le_refl _⟩
 case round =>
  obtain⟨i,hi,rfl,hJs,hQ,hz⟩:=hrel;clear c1 c2 c3;have HJs:=aq hJs;have HQs:=aq hQ;have HZs:=aq hz;clear hJs hQ hz;by_cases hlt:i<C
  . have hlk:i<PS.length:=by rw [HPL.o];exact hlt
    have hpk:=HPG.o i hlk;have HPT:=aq (takeP_succ PS i hlk);have HOK:=aq (show ∀ x,x=PS[i]->OkP PS (PS.take i) x from fun x hx=>⟨by rw [List.length_take];omega,by rw [hx];congr 1;rw [List.length_take];omega⟩);have d3:=HQs.o.2.cell (j:=0) (v:=.int .i64 C) rfl;have HW:Hid (wr.drew.cell? ⟨KB,0,none⟩=some (.int .i64 C)):=aq d3;have d2:=(HQs.o.1.drew).cell (j:=2) (v:=.int .i64 m) rfl;have hil:(i:Int)+1<=14:=by omega
    by_cases hge:i+r<C
    . have HS:=aq (show shr C g m i=((a*m:Nat):Int) from HSH.o i |>.trans (by rw [if_pos hge]))
      have hd:decide ((C:Int) - (r:Int)<=(i:Int))=false:=by simp;omega
      have hd2:decide ((i:Int) ≥ (C:Int) - (r:Int))=false:=by simp;omega
      have hwm:IntKind.i64.wrap ((a:Int)*(m:Int))=((a*m:Nat):Int):=by
       have hb:a*m<=65537*6:=Nat.mul_le_mul (by omega) (by omega);rw [show (a:Int)*(m:Int)=((a*m:Nat):Int) by push_cast;rfl,IntKind.wrap_i64];generalize a*m=P at *;omega
      gi_wp2_with fail;refine PJ_s (fun W=>W.cell? ⟨KB,0,none⟩=some (.int .i64 C)) 6 7 ?_;refine PJ_W 0 19 1 (.int .i64 (i:Int)) rfl HW.o ?_;simp only [yq0,yq1,yq2];refine PJ_W 2 21 5 (.int .i64 (g:Int)) rfl HW.o ?_;simp only [yq0,yq1,yq2];refine PJ_T 1 20 7 (.int .i64 (C:Int)) [5] rfl HW.o ⟨Or.inl ⟨by rfl,fun W hS=>by have s0:=hS;go_simp⟩,fun _=>rfl⟩ ?_;simp only [yq0,yq1,yq2];refine PJ_T 3 22 15 (.int .i64 (C:Int)) [5,4] rfl HW.o ⟨Or.inl ⟨by rfl,fun W hS=>by have s0:=hS;go_simp⟩,fun _=>rfl⟩ ?_;simp only [yq0,yq1,yq2];refine PJ_W 4 23 31 (.int .i64 (r:Int)) rfl HW.o ?_;simp only [yq0,yq1,yq2];refine PJ_W 5 24 63 (.int .i64 ((C:Int) - (r:Int))) rfl HW.o ?_;simp only [yq0,yq1,yq2];refine PJ_1 6 127 rfl (fun K hK=>?_);refine operIn_w nofun ?_;go_simp;refine hK _ _ ?_;clear hK K;refine PJ_e ?_;obtain⟨fn,tmps,assign,body,hy,hRD⟩:=hY _ ((i:Int),((a*m:Nat):Int)) wr.drew (hJ.call HJs.o ((Below.refl _ wr).drew)) (HOK.o _ (by rw [<- HS.o];exact hpk.symm));unfold encP at hy;rw [show ((a*m:Nat):Int)=(a:Int)*(m:Int) by push_cast;rfl]at hy;have HRD:=aq hRD;have HPK:=aq hpk;clear hRD hpk hd hd2;gi_wp2_with fail;refine HRD.o.mono ?_;rintro e W7 (⟨rfl,hJ7,hk7⟩ | ⟨rfl,hJx7⟩)
      . gi_wp2
        go_roundw
        case rel=>exact⟨i+1,by omega,by go_num,by rw [HPT.o,HPK.o,HS.o];exact hJ7,HKP.o _ _ hk7 (HQs.o.1.drew) (HQs.o.2.drew),Nat.le_trans HZs.o (HKS.o wr.drew _ hk7)⟩
        case measure=>simp [intOf];omega
      . gi_wp2
        go_end0;exact⟨⟨_,rfl⟩,.inr ⟨_,⟨i+1,by have:=HPL.o;omega,by rw [HPT.o,HPK.o,HS.o]⟩,hJx7⟩⟩
    . have HS:=aq (show shr C g m i=(((a+1)*m:Nat):Int) from HSH.o i |>.trans (by rw [if_neg hge]))
      have hd:decide ((C:Int) - (r:Int)<=(i:Int))=true:=by simp;omega
      have hd2:decide ((i:Int) ≥ (C:Int) - (r:Int))=true:=by simp;omega
      have hwm:IntKind.i64.wrap (((a:Int)+1)*(m:Int))=(((a+1)*m:Nat):Int):=by
       have hb:(a+1)*m<=65537*6:=Nat.mul_le_mul (by omega) (by omega);rw [show ((a:Int)+1)*(m:Int)=(((a+1)*m:Nat):Int) by push_cast;rfl,IntKind.wrap_i64];generalize (a+1)*m=P at *;omega
      gi_wp2_with fail;refine PJ_s (fun W=>W.cell? ⟨KB,0,none⟩=some (.int .i64 C)) 6 7 ?_;refine PJ_W 0 19 1 (.int .i64 (i:Int)) rfl HW.o ?_;simp only [yq0,yq1,yq2];refine PJ_W 2 21 5 (.int .i64 (g:Int)) rfl HW.o ?_;simp only [yq0,yq1,yq2];refine PJ_T 1 20 7 (.int .i64 (C:Int)) [5] rfl HW.o ⟨Or.inl ⟨by rfl,fun W hS=>by have s0:=hS;go_simp⟩,fun _=>rfl⟩ ?_;simp only [yq0,yq1,yq2];refine PJ_T 3 22 15 (.int .i64 (C:Int)) [5,4] rfl HW.o ⟨Or.inl ⟨by rfl,fun W hS=>by have s0:=hS;go_simp⟩,fun _=>rfl⟩ ?_;simp only [yq0,yq1,yq2];refine PJ_W 4 23 31 (.int .i64 (r:Int)) rfl HW.o ?_;simp only [yq0,yq1,yq2];refine PJ_W 5 24 63 (.int .i64 ((C:Int) - (r:Int))) rfl HW.o ?_;simp only [yq0,yq1,yq2];refine PJ_1 6 127 rfl (fun K hK=>?_);refine operIn_w nofun ?_;go_simp;refine hK _ _ ?_;clear hK K;refine PJ_e ?_;obtain⟨fn,tmps,assign,body,hy,hRD⟩:=hY _ ((i:Int),(((a+1)*m:Nat):Int)) wr.drew (hJ.call HJs.o ((Below.refl _ wr).drew)) (HOK.o _ (by rw [<- HS.o];exact hpk.symm));unfold encP at hy;rw [show (((a+1)*m:Nat):Int)=((a:Int)+1)*(m:Int) by push_cast;rfl]at hy;have HRD:=aq hRD;have HPK:=aq hpk;clear hRD hpk hd hd2;gi_wp2_with fail;refine HRD.o.mono ?_;rintro e W7 (⟨rfl,hJ7,hk7⟩ | ⟨rfl,hJx7⟩)
      . gi_wp2
        go_roundw
        case rel=>exact⟨i+1,by omega,by go_num,by rw [HPT.o,HPK.o,HS.o];exact hJ7,HKP.o _ _ hk7 (HQs.o.1.drew) (HQs.o.2.drew),Nat.le_trans HZs.o (HKS.o wr.drew _ hk7)⟩
        case measure=>simp [intOf];omega
      . gi_wp2
        go_end0;exact⟨⟨_,rfl⟩,.inr ⟨_,⟨i+1,by have:=HPL.o;omega,by rw [HPT.o,HPK.o,HS.o]⟩,hJx7⟩⟩
  . obtain rfl:i=C:=by omega
    gi_wp2;go_end0;exact⟨⟨_,rfl⟩,.inl ⟨_,List.take_of_length_le (Nat.le_of_eq HPL.o),HJs.o⟩⟩
theorem listRn_of{P:Program}{Q:Exit->Act->World->Prop}{n l:Nat}{ops:Array Oper}{rest:List Oper}{o:Oper}{a:Act}{w:World}(hgd:o.guard=none)(hd:∀ c,o.op≠.defer c)(hL:¬ LetsOut Q)(h:∀ K:Act->World->Prop,(∀ a w,wpListIn (Fence.wide.inRound l) n P ops Q rest a w->K a w)->o.wp P a w K Q):wpListIn (Fence.wide.inRound l) n P ops Q (o :: rest) a w :=
 wpListIn_plain hgd fun K hK=>operIn_of hd hL (h K hK)
theorem shf_any(sz bt md lm rv:Int)(C:Nat)(w:World):Calls prog 108 #[.agg #[.int .i64 sz,.int .i64 bt,.int .i64 md,.int .i64 lm,.int .i64 rv],.int .i64 C] w fun e w'=>e= .returned (.func (.func 163) #[] #[.pointer (some ⟨w.heap.size,0,none⟩),.pointer (some ⟨w.heap.size+1,0,none⟩)])/\Blk w' w.heap.size 36 [.int .i64 sz,.int .i64 bt,.int .i64 md,.int .i64 lm,.int .i64 rv]/\Blk w' (w.heap.size+1) 3 [.int .i64 C]/\Below w.heap.size w w':=by
 have hmf:∀ (fn:Fn) (first cap:Array Value) (w:World),(Instr.makeFunc fn first cap).run prog w= .ok (.func fn first cap) w:=fun _ _ _ _=>rfl;go_enter func108,ntmps108;go_wp2;go_ret;exact⟨rfl,(Blk.new w [.int .i64 sz,.int .i64 bt,.int .i64 md,.int .i64 lm,.int .i64 rv] 36 rfl).alloc _,Blk.new (w.alloc _) [.int .i64 C] 3 (by simp),((Below.refl _ w).alloc (Nat.le_refl _) _).alloc (by simp) _⟩
def KpN(B OB:Nat)(W W':World):Prop:=W.heap.size<=W'.heap.size/\∀ k,k<B->k≠OB->W'.heap[k]?=W.heap[k]?
theorem KpN.trans{B OB:Nat}{X Y Z:World}(h:KpN B OB X Y)(k:KpN B OB Y Z):KpN B OB X Z:=⟨Nat.le_trans h.1 k.1,fun i hi hn=>(k.2 i hi hn).trans (h.2 i hi hn)⟩
theorem KpN.put{B OB:Nat}{W:World}{l:Nat}(o:Obj)(hl:B<=l):KpN B OB W (W.putObj l o):=⟨(grownBy_putObj' W l o).size,fun k hk _=>World.putObj_heap_other (by omega)⟩
theorem KpN.blk{B OB:Nat}{W W':World}{b:Nat}{t:TypeId}{cs:List Value}(h:KpN B OB W W')(hb:b<B)(hn:b≠OB)(hB:Blk W b t cs):Blk W' b t cs:=(h.2 b hb hn).trans hB
theorem KpN.grown{B OB:Nat}{W W':World}{row:Option Nat}(hg:W.grownBy W' row)(hr:∀ r,row=some r->r=OB\/B<=r)(hB:B<=W.heap.size):KpN B OB W W' :=
 ⟨hg.size,fun k hk hn=>hg.block k (Nat.lt_of_lt_of_le hk hB) (fun e=>by rcases hr k e.symm with h | h<;>omega)⟩
structure ShK (w:World) (B C g m OB:Nat) (n:Nat) (W:World):Prop where
 o:∃ A c,Blk W OB 51 [.slice A n c]/\Own .i64 3 W B A n c (shT C g m n)
 bl:Below w.heap.size w W
 hs:B<=W.heap.size
theorem ShK.clB{w:World}{B C g m OB:Nat}:ClB (fun(pre:List (Int × Int)) W=>ShK w B C g m OB pre.length W):=fun pre W W' h hb=>by
 obtain⟨A,c,h1,h2⟩:=h.o;exact⟨⟨A,c,h1.below hb,Ownv.below h2 hb⟩,h.bl.trans (hb.mono h.bl.size),Nat.le_trans h.hs hb.size⟩
theorem Ownv.put{e:TypeId}{w:World}{base:Nat}{A:Option Addr}{n c:Nat}{vs:List Value}(h:Ownv e w base A n c vs){l:Nat}{o:Obj}(o':Obj)(hl:w.heap[l]?=some o)(ho:o.isCells=false):Ownv e (w.putObj l o') base A n c vs:=by
 refine h.grown (grownBy_putObj' w l o') (fun hA he=>?_);obtain⟨-,h2⟩:=h.cases;rcases h2 with⟨rfl,-⟩ | ⟨g,cur,rfl,-,hh,-⟩
 . exact hA rfl
 . have e1:g=l:=Option.some.inj he
   subst e1;rw [hh]at hl;cases hl;cases ho
theorem Blk.put{W:World}{b:Nat}{t:TypeId}{cs:List Value}(h:Blk W b t cs){l:Nat}{o:Obj}(o':Obj)(hl:W.heap[l]?=some o)(ho:o.isCells=false):Blk (W.putObj l o') b t cs:=by
 refine h.grown (grownBy_putObj' W l o') (fun he=>?_);have e1:b=l:=Option.some.inj he;subst e1;have h':W.heap[b]?=some (.cells cs.toArray t (0,0)):=h;rw [h']at hl;cases hl;cases ho
theorem ShK.clP{w:World}{C g m OB B B':Nat}(hB:w.heap.size<=B'):ClP B' (fun(pre:List (Int × Int)) W=>ShK w B C g m OB pre.length W):=fun pre W l o o' h hl hk ho=>by
 obtain⟨A,c,h1,h2⟩:=h.o;have hg:=grownBy_putObj' W l o';exact⟨⟨A,c,h1.put o' hk ho,Ownv.put h2 o' hk ho⟩,h.bl.grown hg h.bl.size (fun k e=>by cases e;omega),Nat.le_trans h.hs hg.size⟩
theorem row_cells{e:TypeId}{w:World}{base:Nat}{A:Option Addr}{n c:Nat}{vs:List Value}(h:Ownv e w base A n c vs):∀ (j:Nat) (o:Obj),(Value.slice A n c).ownBlock=some j->w.heap[j]?=some o->o.isCells=true:=by
 intro j o hj ho;obtain⟨-,h2⟩:=h.cases;rcases h2 with⟨rfl,-⟩ | ⟨g,cur,rfl,-,hh,-⟩
 . cases hj
 . have e1:g=j:=by simpa [Value.ownBlock] using hj
   subst e1;rw [hh]at ho;cases ho;rfl
theorem ShK.next{w W W2:World}{B C g m OB n:Nat}{A A2:Option Addr}{c c2:Nat}{u:Int}(hbl:Below w.heap.size w W)(hs:B<=W.heap.size)(hw:w.heap.size<=B)(hwO:w.heap.size<=OB)(hx:Blk W OB 51 [.slice A n c])(hO:Own .i64 3 W B A n c (shT C g m n))(hu:shr C g m n=u)
 (hO2:Ownv 3 W2 B A2 (n+1) c2 ((shT C g m n).map (Value.int .i64) ++ [.int .i64 u])) (hg:W.grownBy W2 ((Value.slice A n c).ownBlock)) :
 KeepsOthers W (W2.setCell ⟨OB,0,none⟩ (.slice A2 (n+1) c2))/\KpN B OB W (W2.setCell ⟨OB,0,none⟩ (.slice A2 (n+1) c2))/\ShK w B C g m OB (n+1) (W2.setCell ⟨OB,0,none⟩ (.slice A2 (n+1) c2)):=by
 have hob:∀ k,(Value.slice A n c).ownBlock=some k->B<=k:=fun k hk=>Ownv.ob' hO hk;have hx2:Blk W2 OB 51 [.slice A n c]:=hx.grown hg (blk_ne_row hx hO (by decide));have hg2:=grownBy_set W2 OB 0 (.slice A2 (n+1) c2);have hO2':Own .i64 3 W2 B A2 (n+1) c2 (shT C g m (n+1)):=by
  rw [shT_succ,hu];unfold Own;simpa using hO2
 refine⟨KeepsOthers.trans (KeepsOthers.of_grownBy hg (fun j o hj=>row_cells hO j o hj)) (KeepsOthers.setCell _ _ _),?_,⟨⟨A2,c2,hx2.set 0 _,own_set_blk hx2 hO2' (by decide) 0 _⟩,?_,?_⟩⟩
 . exact KpN.trans (KpN.grown hg (fun r hr=>.inr (hob r hr)) hs) (KpN.grown hg2 (fun r hr=>.inl (Option.some.inj hr).symm) (Nat.le_trans hs hg.size))
 . exact(hbl.grown hg hbl.size (fun k hk=>Nat.le_trans hw (hob k hk))).grown hg2 (Nat.le_trans hbl.size hg.size) (fun k hk=>by cases hk;exact hwO)
 . exact Nat.le_trans hs (Nat.le_trans hg.size hg2.size)
theorem shs_seq(C g m CB KB OB:Nat)(sz lm rv:Int)(hC1:1<=C)(hC:C<=13)(hm1:1<=m)(hm:m<=6)(hg:g<=65536)(w:World)
 (hCB:Blk w CB 36 [.int .i64 sz,.int .i64 ((m*g:Nat):Int),.int .i64 m,.int .i64 lm,.int .i64 rv]) (hKB:Blk w KB 3 [.int .i64 C]) (h1:CB≠OB) (h2:KB≠OB) :
 SeqE 2 163 #[.pointer (some ⟨CB,0,none⟩),.pointer (some ⟨KB,0,none⟩)] encP (KpN w.heap.size OB) (fun ys=>ys=psS C g m) (fun pre=>∃ k,k<=(psS C g m).length/\pre=(psS C g m).take k) (OkP (psS C g m)) w :=
 fun l J Jx W hB hJ hJx hY h0=>shs_in l C g m CB KB sz lm rv hC1 hC hm1 hm hg (KpN w.heap.size OB) W (hCB.below hB) (hKB.below hB) (fun A B hk hc hk'=>⟨hk.blk hCB.lt h1 hc,hk.blk hKB.lt h2 hk'⟩) (fun A B hk=>hk.1) J Jx hJ hJx hY h0
theorem shares_ok(s C g m:Nat)(lm rv:Int)(w:World)(hs1:1<=s)(hs2:s<=79536)(hCe:C=bC (s+24))(hmm:m=2\/m=4\/m=6)(hgm:m*g<=131072)(hlm:1<=lm)(hrv:0<=rv/\rv<=3) :
 Calls prog 56 #[.agg #[.int .i64 s,.int .i64 ((m*g:Nat):Int),.int .i64 m,.int .i64 lm,.int .i64 rv]] w fun e w'=>∃ A c,e= .returned (.tuple #[.slice A C c,.int .i64 0])/\Own .i64 3 w' w.heap.size A C c (shT C g m C)/\Below w.heap.size w w':=by
 have hg:g<=65536:=by rcases hmm with rfl | rfl | rfl<;>omega
 have hm1:1<=m/\m<=6:=by omega
 have hC1:1<=C:=by rw [hCe];exact bC_pos
 have hC2:C<=13:=by rw [hCe];exact bC_le (by omega)
 have hV:VC s ((m*g:Nat):Int) m lm rv=true:=by
  unfold VC;rw [decide_eq_true_iff];refine⟨by omega,by omega,by omega,by omega,by omega,?_,hlm,hrv.1,hrv.2⟩;rw [Int.natCast_mul];exact Int.mul_emod_right _ _
 have HV:=aq (fun W=>valc_any s ((m*g:Nat):Int) m lm rv W);rw [hV]at HV;have HLY:=aq (fun W=>lay_any s W);have hly:ly15 s=(LY (s+24),0):=by unfold ly15;rw [if_neg (by omega)];rfl
 rw [hly]at HLY;obtain⟨ly,hly⟩:∃ ly,ly=LY (s+24):=⟨_,rfl⟩
 have hl7:ly.length=7:=by rw [hly];rfl
 have hl1:(ints8 ly)[1]?=some (.int .i64 C):=by rw [hly,hCe];rfl
 have HSQ:=aq (fun CB KB OB W=>shs_seq C g m CB KB OB s lm rv hC1 hC2 hm1.1 hm1.2 hg W);have HPL:=aq (psS_len C g m);have HPG:=aq (psS_get C g m);have HSF:=aq (fun W=>shf_any s ((m*g:Nat):Int) m lm rv C W);rw [<- hly]at HLY;obtain⟨bt,hbt⟩:∃ bt,bt=((m*g:Nat):Int):=⟨_,rfl⟩
 rw [<- hbt]at HV HSF HSQ ⊢;clear hly hbt hV hCe;have HC0:=aq (Blk.new w [.int .i64 s,.int .i64 bt,.int .i64 m,.int .i64 lm,.int .i64 rv] 36 rfl);have HB0:=aq (bal (Below.refl _ w) (.cells [Value.int .i64 s,.int .i64 bt,.int .i64 m,.int .i64 lm,.int .i64 rv].toArray 36));have c0:=HC0.o.cell (j:=0) (v:=.int .i64 s) rfl;refine(callsIn_wide (n:=3)).1 ?_;refine callsIn_of_wp_marks func56 rfl trivial ?_;simp only [ntmps56,List.size_toArray,List.length_cons,List.length_nil,Nat.reduceAdd,Nat.reduceSub,Array.replicate_succ,Array.replicate_zero,List.push_toArray,List.append_toArray,List.nil_append,List.cons_append];refine wpIn_wide.2 ?_;go_wp2_with fail;refine(HLY.o _).mono ?_;rintro e w1 ⟨rfl,hB1⟩;have hC1':=HC0.o.below hB1;have HC1:Hid (w.heap.size<w1.heap.size):=aq hC1'.lt;have HB1:=aq (HB0.o.trans (hB1.mono HB0.o.size));have hL0:Blk (w1.alloc (.cells (ints8 zero7).toArray 122)) w1.heap.size 122 (ints8 zero7):=Blk.new w1 _ 122 rfl;have hC2':=hC1'.alloc (.cells (ints8 zero7).toArray 122);simp only [ints8,zero7,List.map_cons,List.map_nil]at hL0 hC2';clear hB1 hC1' c0
 go_wp2_with (first
  | (refine strow (cs:=ints8 ly) rfl 122 (.tmp 4) (.tmp 13) rfl rfl rfl hL0 (by simp [ints8,hl7]) (by rw [info23];simp [ints8,hl7]) (ints8_one ly) ?_
     intro W2 g1 g2;have hC3:=hC2'.grown g2 (fun e=>by have h7:=HC1.o;have h8:=Option.some.inj e;omega);have hq:=(Below.refl w1.heap.size w1).alloc (Nat.le_refl _) (.cells #[.int .i64 0,.int .i64 0,.int .i64 0,.int .i64 0,.int .i64 0,.int .i64 0,.int .i64 0] 122);have HB2:=aq (hq.grown g2 hq.size (fun k hk=>by cases hk;exact Nat.le_refl _))
     have HL2:=aq g1)
  | (refine list_ofg (by rfl) fun K hK=>wp_ldrow (cs:=[.int .i64 s,.int .i64 bt,.int .i64 m,.int .i64 lm,.int .i64 rv]) 36 (.tmp 1) rfl rfl hC3 _ underlying36 rfl (by kernel_rfl) ?_;refine hK _ _ ?_;clear hK K)
  | (go_at_call 107;refine(HV.o _).mono ?_;rintro e w3 ⟨rfl,hB3⟩;have hC5:=(hC3.below hB3).alloc (.cells #[.slice none 0 0] 51);have hL5:=(HL2.o.below hB3).alloc (.cells #[.slice none 0 0] 51);have c1:=hL5.cell (j:=1) hl1)
  | (refine ldrow (cs:=[.int .i64 s,.int .i64 bt,.int .i64 m,.int .i64 lm,.int .i64 rv]) rfl 36 (.tmp 1) rfl rfl hC5 _ underlying36 rfl (by kernel_rfl) ?_))
 obtain⟨w4,hw4⟩:∃ W,W=w3.alloc (.cells #[.slice none 0 0] 51):=⟨_,rfl⟩
 have HX4:Hid (Blk w4 w3.heap.size 51 [.slice none 0 0]):=aq (by rw [hw4];exact Blk.new w3 _ 51 rfl)
 have HB4:Hid (Below w.heap.size w w4):=aq (by
  rw [hw4];have b1:=HB1.o.trans (HB2.o.mono HB1.o.size)
  exact bal (b1.trans (hB3.mono b1.size)) _)
 have HWO:Hid (w.heap.size<=w3.heap.size):=aq (by
  have b1:=HB1.o.trans (HB2.o.mono HB1.o.size)
  exact Nat.le_trans b1.size hB3.size)
 rw [<- hw4];clear hw4 hC2' hC3 hC5 hL5 c1 hL0 hB3 HL2 HB2 HB1;generalize w3.heap.size=OB at *;refine(HSF.o w4).mono ?_;rintro e w5 ⟨rfl,hcb,hkb,hB5⟩;have hOl:=HX4.o.lt;have HSEQ:=aq (HSQ.o w4.heap.size (w4.heap.size+1) OB w5 hcb hkb (by omega) (by omega));have HK:Hid (ShK w w5.heap.size C g m OB 0 w5):=aq ⟨⟨none,0,HX4.o.below hB5,Own.nilv _ _ _ _⟩,HB4.o.trans (hB5.mono HB4.o.size),Nat.le_refl _⟩;have HW5:Hid (w.heap.size<=w5.heap.size):=aq (Nat.le_trans HB4.o.size hB5.size);have hw5:=HW5.o;clear hcb hkb hB5 HX4 HSQ HSF HLY HV HC0 HB0 HC1 HB4;go_wp2_with fail;refine(wpIn_wide (n:=3)).1 ?_;refine' rangeE (w0:=w5) (gf:=163) (lb:=#[.pointer (some ⟨w4.heap.size,0,none⟩),.pointer (some ⟨w4.heap.size+1,0,none⟩)]) rfl (enters_of func163 (by kernel_rfl) rfl) HSEQ.o KpN.trans (fun W l o o' hl h1 h2=>KpN.put o' hl) (Below.refl _ _) (fun _=>rfl)
  (fun pre W=>ShK w w5.heap.size C g m OB pre.length W) (fun _ _ _=>False) ShK.clB (fun _ _ _ _ h _=>h) (ShK.clP (by omega)) (fun _ _ _ _ _ _ h _ _ _=>h) HK.o _ ?assign ?body ?done ?stop
 case assign =>
  intro l x W K hK;unfold encP;gi_wp2;exact hK
 case body =>
  rintro l pre x W hI ⟨hlt,rfl⟩;rw [HPG.o];rw [HPL.o]at hlt;obtain⟨A,c,hx,hO⟩:=hI.o;have HI:=aq hI;have HX:=aq hx;have HO:=aq hO;have cO:=hx.cell (j:=0) (v:=.slice A pre.length c) rfl;have hne:=blk_ne_row hx hO (by decide);have hsz:w5.heap.size<=W.heap.size:=hI.hs;have hlen:∀ x:Int × Int,(pre ++ [x]).length=pre.length+1:=fun x=>by simp
  obtain⟨u,hu⟩:∃ u,shr C g m pre.length=u:=⟨_,rfl⟩
  rw [hu];have HU:=aq hu;clear hI hu hx hO;gi_wp2_with (refine listRn_of rfl nofun (fun⟨_,_,h⟩=>h) fun K hK=>wp_app1 (w:=W) (base:=w5.heap.size) _ _ 51 rfl el34 rfl (.int .i64 u) rfl rfl HO.o (by omega) (by omega) hsz ?_;intro A2 c2 W2 hO2 hg2;have HO2:=aq hO2;have HG2:=aq hg2;have hx2:=HX.o.grown hg2 hne;have c2':=hx2.cell (j:=0) (v:=.slice A pre.length c) rfl;have f2':=hx2.frozen 0;clear hO2 hg2;refine hK _ _ ?_;clear hK K);have HN:=aq (ShK.next HI.o.bl HI.o.hs (by omega) HWO.o HX.o HO.o HU.o HO2.o HG2.o);exact⟨HN.o.1,HN.o.2.1,by show ShK _ _ _ _ _ _ (pre ++ [_]).length _;rw [hlen];exact HN.o.2.2⟩
 case done =>
  rintro D ys W hD rfl hI hK;rw [HPL.o]at hI;obtain⟨A,c,hx,hO⟩:=hI.o;have cO:=hx.cell (j:=0) (v:=.slice A C c) rfl;have HO9:=aq (Ownv.mono (Ownv.put hO (.deferred none) hK rfl) (show w.heap.size<=w5.heap.size by omega));have HB9:=aq (hI.bl.grown (grownBy_putObj' W D (.deferred none)) hI.bl.size (fun k e=>by cases e;omega));clear hO hx;go_wp2;refine⟨by simp,.inl ⟨_,_,rfl,run_takeDeferred hK,?_⟩⟩;exact⟨_,results_tmp2 rfl _ _ _,A,c,rfl,HO9.o,HB9.o⟩
 case stop =>
  rintro D c pre W hD _ hx hK;exact hx.elim
end Go.Proofs.YthmhogdceolkdaaGreat.Cr
namespace Go.Proofs.YthmhogdceolkdaaGreat.Cr
open Tryz
open Go.RowKit Go.Shelf
set_option maxRecDepth 100000
set_option maxHeartbeats 2000000
theorem sz_40(b i:Nat):40<=sz b i:=by
 unfold sz;split
 . rename_i h
   by_cases hb:b<=6144
   . have:shs b=0:=by unfold shs;rw [if_pos hb]
     omega
   . have:=sh_lt hb;omega
 . exact SZ_lo _
def fl(b i:Nat):Nat:=if i=0 then fi b else 0
theorem fl_lt{b i:Nat}(h1:1<=b):fl b i<sz b i:=by
 have:=(sz_ge (i:=i) h1).1;unfold fl;omega
def uS(b:Nat)(lim:Int)(i:Nat):Nat:=usC ((bufL (sz b i) (fl b i)).take (szB (sz b i) lim))
theorem tsize_any(b i:Nat)(w:World):Calls prog 116 #[.agg (ints8 (LY b)).toArray,.int .i64 i] w fun e w'=>e= .returned (.int .i64 (sz b i:Int))/\Below w.heap.size w w':=by
 rw [sz_if];simp only [LY,ints8,List.map_cons,List.map_nil];by_cases h:(i:Int)<(shs b:Int)
 . rw [if_pos h]
   go_enter func116,ntmps116;go_wp2;go_ret;exact⟨rfl,(Below.refl _ _).alloc (Nat.le_refl _) _⟩
 . rw [if_neg h]
   go_enter func116,ntmps116;go_wp2;go_ret;exact⟨rfl,(Below.refl _ _).alloc (Nat.le_refl _) _⟩
theorem tfil_any(b i:Nat)(w:World):Calls prog 117 #[.agg (ints8 (LY b)).toArray,.int .i64 i] w fun e w'=>e= .returned (.int .i64 (fl b i:Int))/\Below w.heap.size w w':=by
 unfold fl;simp only [LY,ints8,List.map_cons,List.map_nil];by_cases h:i=0
 . rw [if_pos h]
   have q:decide ((i:Int) > 0)=false:=by simp;omega
   subst h;go_enter func117,ntmps117;go_wp2;go_ret;exact⟨rfl,(Below.refl _ _).alloc (Nat.le_refl _) _⟩
 . rw [if_neg h]
   have q:0<i:=by omega
   clear h;go_enter func117,ntmps117;go_wp2;go_ret;exact⟨rfl,(Below.refl _ _).alloc (Nat.le_refl _) _⟩
def SqPost(bad:Prop)(m VB:Nat)(A:Option Addr)(n c:Nat)(ys:List Int)(W:World)(e:Ending)(w':World):Prop :=
 ((bad/\e= .returned (.tuple #[.slice none 0 0,.int .i64 10]))\/(¬ bad/\∃ A' c',e= .returned (.tuple #[.slice A' m c',.int .i64 0])/\Own .i64 3 w' W.heap.size A' m c' (ys.take m))) /\
 Blk w' VB 51 [.slice (cut A c m) (n - m) (c - m)]/\W.grownBy w' (some VB)
theorem cl50_any(b i LB VB CB m:Nat)(A:Option Addr)(n c:Nat)(ys:List Int)(lim:Int)(W:World)(h1:1<=b)(h2:b<=79560)(hlim:1<=lim)
 (hL:Blk W LB 122 (ints8 (LY b))) (hV:Blk W VB 51 [.slice A n c]) (hC:W.cell? ⟨CB,3,none⟩=some (.int .i64 lim)) (hCV:CB≠VB) (hy:Rd .i64 W A n c ys) (hm:m<=n) (hn:n<=200000) :
 Calls prog 113 #[.int .i64 i,.int .i64 m,.pointer (some ⟨VB,0,none⟩),.pointer (some ⟨LB,0,none⟩),.pointer (some ⟨CB,0,none⟩)] W (SqPost (uS b lim i=0/\0<m) m VB A n c ys W):=by
 have HU:=aq (fun W=>usable_ok (sz b i) (fl b i) lim W (sz_40 b i) (sz_ge (i:=i) h1).2 (fl_lt h1) hlim);have hle:=Rdv.le hy;obtain⟨U,hU⟩:∃ U,U=uS b lim i:=⟨_,rfl⟩
 rw [show usC ((bufL (sz b i) (fl b i)).take (szB (sz b i) lim))=U from hU.symm]at HU;rw [<- hU];clear hU h1 h2 hlim;have hLV:LB≠VB:=by
  intro e;have h3:W.heap[LB]?=_:=hL;have h4:W.heap[VB]?=_:=hV;rw [e,h4]at h3;injection h3 with h3
  injection h3 with _ h9
  exact absurd h9 (by decide)
 have hclt:CB<W.heap.size:=World.block_lt_of_cell? W _ hC;have hvl:=hV.lt;have r0:=hV.cell (j:=0) rfl;have s1:=fun W=>Rdv.slh hy el34 .i64 (m:=m) (by omega) W;have s2:=fun W=>Rdv.sll hy el34 .i64 hm W;have hcl:=aq (cloneI_any A m c (ys.take m) W (Rd.upto hy hm) (by omega));go_enter func113,ntmps113;go_wp2_with (go_at_call 114;refine hcl.o.mono ?_;rintro e w3 ⟨A3,c3',rfl,hO3,hB3⟩;have hR3:=hV.below hB3;have r3:=hR3.cell (j:=0) rfl;have rf3:=hR3.frozen 0;have HL3:=aq ((hL.below hB3).other (fun e=>hLV e.symm) 0 (.slice (cut A c m) (n - m) (c - m)));have HC3:=aq (cell_below hC hB3);have HB3:=aq hB3;have HR3:=aq (hR3.set 0 (.slice (cut A c m) (n - m) (c - m)));have HO3:=aq hO3;clear hO3 hB3 hcl);have HO4:=aq (Ownv.grown HO3.o (grownBy_set w3 VB 0 (.slice (cut A c m) (n - m) (c - m))) (fun hA he=>by have h8:=(Ownv.blk_of HO3.o hA).1;have h9:=Option.some.inj he;omega));have HG4:=aq (grownBy_below HB3.o (grownBy_set w3 VB 0 (.slice (cut A c m) (n - m) (c - m))));have HC4:Hid ((w3.setCell ⟨VB,0,none⟩ (.slice (cut A c m) (n - m) (c - m))).cell? ⟨CB,3,none⟩=some (.int .i64 lim)):=aq (by rw [cell_set_ne _ hCV];exact HC3.o);clear r0 s1 s2 hL hV hR3 r3 rf3 HB3 HO3 hC HC3 hy;generalize w3.setCell ⟨VB,0,none⟩ (.slice (cut A c m) (n - m) (c - m))=W4 at *;have HS4:Hid (Blk W4 LB 122 (ints8 (LY b))/\W4.cell? ⟨CB,3,none⟩=some (.int .i64 lim)):=aq ⟨HL3.o,HC4.o⟩;clear HL3 HC4;refine P_start (fun W=>Blk W LB 122 (ints8 (LY b))/\W.cell? ⟨CB,3,none⟩=some (.int .i64 lim)) 8 14 #[false,false,false,false,false,false,false,false,false,false,false,false,false,false] (by kernel_rfl) (by kernel_rfl) (by kernel_rfl) ?_;refine P_takeT 0 20 (.agg (ints8 (LY b)).toArray) #[true,false,false,false,false,false,false,false,false,false,false,false,false,false] [2] rfl rfl (by kernel_rfl) (by kernel_rfl) (by kernel_rfl) (by kernel_rfl) (by kernel_rfl) (by kernel_rfl) (by kernel_rfl) (by decide) (fun _ _ _ h=>h) (yieldsIf_load_mid rfl 122 (.tmp 3) rfl LB (0) rfl (ints8 (LY b)) _ (fun W hS=>fun q v hv=>hS.1.cell (by rw [Nat.zero_add];exact hv)) underlying122 rfl (by rw [info23];rfl)) HS4.o ?_;simp only [yq0,yq1,yq2];refine P_takeW 1 21 (.int .i64 (i:Int)) #[true,true,false,false,false,false,false,false,false,false,false,false,false,false] rfl rfl (by kernel_rfl) (by kernel_rfl) (by kernel_rfl) (by kernel_rfl) (by decide) (fun _ _ _ h=>h) (Or.inl ⟨by rfl,fun W hS=>by go_simp⟩) HS4.o ?_;simp only [yq0,yq1,yq2];refine P_takeT 3 23 (.agg (ints8 (LY b)).toArray) #[true,true,false,true,false,false,false,false,false,false,false,false,false,false] [5] rfl rfl (by kernel_rfl) (by kernel_rfl) (by kernel_rfl) (by kernel_rfl) (by kernel_rfl) (by kernel_rfl) (by kernel_rfl) (by decide) (fun _ _ _ h=>h) (yieldsIf_load_mid rfl 122 (.tmp 3) rfl LB (0) rfl (ints8 (LY b)) _ (fun W hS=>fun q v hv=>hS.1.cell (by rw [Nat.zero_add];exact hv)) underlying122 rfl (by rw [info23];rfl)) HS4.o ?_;simp only [yq0,yq1,yq2];refine P_takeW 4 24 (.int .i64 (i:Int)) #[true,true,false,true,true,false,false,false,false,false,false,false,false,false] rfl rfl (by kernel_rfl) (by kernel_rfl) (by kernel_rfl) (by kernel_rfl) (by decide) (fun _ _ _ h=>h) (Or.inl ⟨by rfl,fun W hS=>by go_simp⟩) HS4.o ?_;simp only [yq0,yq1,yq2];refine P_takeW 6 26 (.pointer (some ⟨CB,3,none⟩)) #[true,true,false,true,true,false,true,false,false,false,false,false,false,false] rfl rfl (by kernel_rfl) (by kernel_rfl) (by kernel_rfl) (by kernel_rfl) (by decide) (fun _ _ _ h=>h) (Or.inl ⟨by rfl,fun W hS=>by go_simp⟩) HS4.o ?_;simp only [yq0,yq1,yq2];refine P_take 7 27 (.int .i64 lim) #[true,true,false,true,true,false,true,true,false,false,false,false,false,false] rfl rfl (by kernel_rfl) (by kernel_rfl) (by kernel_rfl) (by kernel_rfl) (by kernel_rfl) (by kernel_rfl) (by decide) (fun _ _ _ h=>h) (Or.inl ⟨by rfl,fun W hS=>by obtain⟨hS1,hS2⟩:=hS;go_simp⟩) HS4.o ?_;simp only [yq0,yq1,yq2];refine P_oneS 2 #[true,true,true,true,true,false,true,true,false,false,false,false,false,false] rfl (by kernel_rfl) (by kernel_rfl) rfl (fun K hK=>?_);go_simp;refine(tsize_any b i _).mono ?_;rintro e wa ⟨rfl,hBa⟩;have HSa:Hid (Blk wa LB 122 (ints8 (LY b))/\wa.cell? ⟨CB,3,none⟩=some (.int .i64 lim)):=aq ⟨HS4.o.1.drew.below hBa,cell_below (w:=W4.drew) HS4.o.2 hBa⟩;have HBa:=aq (((Below.refl W4.heap.size W4).drew).trans hBa);clear hBa;refine hK _ _ HSa.o ?_;clear hK K;refine P_oneS 5 #[true,true,true,true,true,true,true,true,false,false,false,false,false,false] rfl (by kernel_rfl) (by kernel_rfl) rfl (fun K hK=>?_);go_simp;refine(tfil_any b i _).mono ?_;rintro e wb ⟨rfl,hBb⟩;have HSb:Hid (Blk wb LB 122 (ints8 (LY b))/\wb.cell? ⟨CB,3,none⟩=some (.int .i64 lim)):=aq ⟨HSa.o.1.below hBb,cell_below HSa.o.2 hBb⟩;have HBb:=aq (HBa.o.trans (hBb.mono HBa.o.size));clear hBb;refine hK _ _ HSb.o ?_;clear hK K;refine P_one 8 #[true,true,true,true,true,true,true,true,true,false,false,false,false,false] rfl (by kernel_rfl) (by kernel_rfl) rfl (by kernel_rfl) (fun K hK=>?_);go_simp;refine(HU.o _).mono ?_;rintro e wc ⟨rfl,hBc⟩;have HBc:=aq (HBb.o.trans (hBc.mono HBb.o.size));clear hBc;refine hK _ _ ?_;clear hK K;refine P_one 9 #[true,true,true,true,true,true,true,true,true,true,false,false,false,false] rfl (by kernel_rfl) (by kernel_rfl) rfl (by kernel_rfl) (fun K hK=>?_);go_simp;refine hK _ _ ?_;clear hK K;refine P_takeX 10 29 (.int .i64 (U:Int)) #[true,true,true,true,true,true,true,true,true,true,true,false,false,false] rfl rfl (by kernel_rfl) (by kernel_rfl) (by kernel_rfl) (by kernel_rfl) (by decide) (fun _ _ _ h=>h) (Or.inl ⟨by rfl,fun W hS=>by go_simp⟩) rfl ?_;simp only [yq0,yq1,yq2];refine P_takeX 11 30 (.int .i64 0) #[true,true,true,true,true,true,true,true,true,true,true,true,false,false] rfl rfl (by kernel_rfl) (by kernel_rfl) (by kernel_rfl) (by kernel_rfl) (by decide) (fun _ _ _ h=>h) (Or.inl ⟨by rfl,fun W hS=>by go_simp⟩) rfl ?_;simp only [yq0,yq1,yq2];refine P_one 12 #[true,true,true,true,true,true,true,true,true,true,true,true,true,false] rfl (by kernel_rfl) (by kernel_rfl) rfl (by kernel_rfl) (fun K hK=>?_);go_simp;refine hK _ _ ?_;clear hK K;refine P_one 13 #[true,true,true,true,true,true,true,true,true,true,true,true,true,true] rfl (by kernel_rfl) (by kernel_rfl) rfl (by kernel_rfl) (fun K hK=>?_);go_simp;refine hK _ _ ?_;clear hK K;refine P_done (by kernel_rfl) ?_ _;have HR5:Hid (Blk wc VB 51 [.slice (cut A c m) (n - m) (c - m)]):=aq (HR3.o.below HBc.o);have HG5:=aq (grownBy_then HG4.o HBc.o);have HO5:=aq (Ownv.below HO4.o HBc.o);clear HR3 HG4 HO4 HBc HBb HBa HSa HSb HS4 HU;unfold SqPost;by_cases hu:U=0
 . have q:((U:Int) == 0)=true:=beq_t (by omega)
   by_cases hm0:0<m
   . have q2:decide ((m:Int) > 0)=true:=by simp;omega
     have HP:Hid (U=0/\0<m):=aq ⟨hu,hm0⟩;clear hu;go_wp2;go_ret2;exact⟨.inl ⟨HP.o,rfl⟩,HR5.o,HG5.o⟩
   . have q2:decide ((m:Int) > 0)=false:=by simp;omega
     have HP:Hid (¬ (U=0/\0<m)):=aq (fun h=>hm0 h.2);clear hu;go_wp2;go_ret2;exact⟨.inr ⟨HP.o,A3,c3',rfl,HO5.o⟩,HR5.o,HG5.o⟩
 . have q:((U:Int) == 0)=false:=beq_f (by omega)
   have HP:Hid (¬ (U=0/\0<m)):=aq (fun h=>hu h.1);clear hu;go_wp2;go_ret2;exact⟨.inr ⟨HP.o,A3,c3',rfl,HO5.o⟩,HR5.o,HG5.o⟩
end Go.Proofs.YthmhogdceolkdaaGreat.Cr