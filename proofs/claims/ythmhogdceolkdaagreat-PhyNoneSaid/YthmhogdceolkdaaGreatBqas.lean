/- Bundle. Conditions: none. -/
import Derived.Test.YthmhogdceolkdaaGreatBqar
set_option linter.unusedVariables false
set_option linter.unusedSimpArgs false
namespace Go.Proofs.YthmhogdceolkdaaGreat.Cr
open Tryz
open Go.RowKit Go.Shelf
attribute [local go_sem] Oper.semAt_some
set_option maxRecDepth 100000
set_option maxHeartbeats 4000000
def ShV(W:World)(R s:Nat)(sv:Value)(SB:Nat):Prop:=(s≠2/\sv= .func (.func 358) #[] #[])\/(s=2/\sv= .func (.func 359) #[] #[.pointer (some ⟨SB,0,none⟩)]/\∃ v,Blk W SB 393 [.int .i64 R,v])
theorem ShV.below{W W':World}{R s SB:Nat}{sv:Value}(h:ShV W R s sv SB)(hB:Below W.heap.size W W'):ShV W' R s sv SB:=h.imp id fun⟨h1,h2,v,h3⟩=>⟨h1,h2,v,h3.below hB⟩
theorem ShV.kp{W W':World}{R s SB:Nat}{sv:Value}{bs:List Nat}(h:ShV W R s sv SB)(hk:KpB bs W W')(hb:SB ∉ bs):ShV W' R s sv SB:=h.imp id fun⟨h1,h2,v,h3⟩=>⟨h1,h2,v,h3.kp hk hb⟩
theorem info138:(prog.info? 393).map (·.size)=some 2:=by kernel_rfl
theorem res138{W:World}{b:Nat}{x y:Value}(h:Blk W b 393 [x,y]):(loadVar 393 ⟨b,0,none⟩).run prog W= .ok (.agg #[x,y]) W :=
 run_loadVar_row (P:=prog) W b 393 393 _ (0,0) _ h underlying393 rfl (by rw [info138];rfl)
def OfPost(d s:Nat)(w:World)(e:Ending)(w':World):Prop:=∃ sv SB,e= .returned (.tuple #[.agg #[.int .i64 (rwS d),sv],.int .i64 0])/\ShV w' (rwS d) s sv SB/\w.heap.size<=SB/\SB<w'.heap.size/\sv.oneCell'=true/\Below w.heap.size w w'
theorem of_ok(d s:Nat)(w:World)(h1:1<=d)(h2:d<=6148)(hs:s<=2):Calls prog 344 #[.int .i64 d,.int .i64 s] w (OfPost d s w):=by
 have hmf:∀ (fn:Fn) (first cap:Array Value) (w:World),(Instr.makeFunc fn first cap).run prog w= .ok (.func fn first cap) w:=fun _ _ _ _=>rfl;have HR:=aq (fun W=>crows_any d W h1 h2);have hR1:=rwS_pos h1;unfold OfPost;generalize rwS d=R at *;have q1:((R:Int) == 0)=false:=beq_f (by omega);have q2:decide ((s:Int)<0)=false:=by simp
 have q3:decide ((2:Int)<(s:Int))=false:=by simp;omega
 have hr0:Blk ((w.alloc (.cells #[.int .i64 0,.nilFunc] 393)).alloc (.cells #[.int .i64 0,.nilFunc] 393)) w.heap.size 393 [.int .i64 0,.nilFunc]:=(Blk.new w [.int .i64 0,.nilFunc] 393 rfl).alloc _;have hs0:Blk ((w.alloc (.cells #[.int .i64 0,.nilFunc] 393)).alloc (.cells #[.int .i64 0,.nilFunc] 393)) (w.heap.size+1) 393 [.int .i64 0,.nilFunc]:=Blk.new (w.alloc _) [.int .i64 0,.nilFunc] 393 (by simp);have hb0:Below w.heap.size w ((w.alloc (.cells #[.int .i64 0,.nilFunc] 393)).alloc (.cells #[.int .i64 0,.nilFunc] 393)):=((Below.refl _ w).alloc (Nat.le_refl _) _).alloc (by simp) _;have HR0:=aq hr0;have HB0:=aq hb0;have hzz:((w.alloc (.cells #[.int .i64 0,.nilFunc] 393)).alloc (.cells #[.int .i64 0,.nilFunc] 393)).heap.size=w.heap.size+2:=by simp
 have HZZ:=aq hzz;clear hr0 hb0 hzz;by_cases h22:s=2
 . subst h22
   have hst:=fun W m=>run_store prog W ⟨w.heap.size+1,1,none⟩ (.func (.func 359) #[] #[.pointer (some ⟨w.heap.size+1,0,none⟩)]) m rfl;go_enter func344,ntmps344
   go_wp2_with (first
    | (go_at_call 287;refine(HR.o _).mono ?_;rintro e w1 ⟨rfl,rfl⟩)
    | (refine strow (cs:=[.int .i64 R,.func (.func 358) #[] #[]]) rfl 393 (.tmp 6) (.tmp 9) rfl rfl rfl hs0 rfl info138 (by simp [Value.oneCell']) ?_
       intro W2 g1 g2;have HS2:=aq g1;have HR2:=aq (HR0.o.grown g2 (by simp));have HB2:=aq (HB0.o.grown g2 HB0.o.size (fun k hk=>by cases hk;omega));have HZ2:Hid (w.heap.size+2<=W2.heap.size):=aq (by have:=g2.size;have:=HZZ.o;omega);have c0:=g1.cell (j:=0) (v:=.int .i64 R) rfl;have c1:=g1.cell (j:=1) (v:=.func (.func 358) #[] #[]) rfl;have f1:=g1.frozen 1;have hs3:Blk (W2.setCell ⟨w.heap.size+1,1,none⟩ (.func (.func 359) #[] #[.pointer (some ⟨w.heap.size+1,0,none⟩)])) (w.heap.size+1) 393 [.int .i64 R,.func (.func 359) #[] #[.pointer (some ⟨w.heap.size+1,0,none⟩)]]:=g1.set 1 _;have hr3:Blk (W2.setCell ⟨w.heap.size+1,1,none⟩ (.func (.func 359) #[] #[.pointer (some ⟨w.heap.size+1,0,none⟩)])) w.heap.size 393 [.int .i64 0,.nilFunc]:=HR2.o.other (by omega) _ _;have HS3:=aq hs3
       clear g1 g2 hs0)
    | (refine ldrow (cs:=[.int .i64 R,.func (.func 359) #[] #[.pointer (some ⟨w.heap.size+1,0,none⟩)]]) rfl 393 (.tmp 6) rfl rfl hs3 _ underlying393 rfl info138 ?_)
    | (refine strow (cs:=[.int .i64 R,.func (.func 359) #[] #[.pointer (some ⟨w.heap.size+1,0,none⟩)]]) rfl 393 (.tmp 4) (.tmp 26) rfl rfl rfl hr3 rfl info138 (by simp [Value.oneCell']) ?_
       intro W4 g1 g2;have HR4:=aq g1;have HS4:=aq (HS3.o.grown g2 (by simp));have hq4:=HB2.o.setCell (p:=⟨w.heap.size+1,1,none⟩) (Nat.le_succ _) (.func (.func 359) #[] #[.pointer (some ⟨w.heap.size+1,0,none⟩)]);have HB4:=aq (hq4.grown g2 hq4.size (fun k hk=>by cases hk;exact Nat.le_refl _))
       clear g1 g2 hs3 hr3 c0 c1 f1 hq4))
   refine bodyPost_ret (v:=.tuple #[.agg #[.int .i64 R,.func (.func 359) #[] #[.pointer (some ⟨w.heap.size+1,0,none⟩)]],.int .i64 0]) ?_ rfl ⟨_,w.heap.size+1,rfl,.inr ⟨rfl,rfl,_,HS4.o⟩,Nat.le_succ _,HS4.o.lt,rfl,HB4.o⟩;have l1:=res138 HR4.o;rw [results_ct rfl];simp [Act.put,asAddr,l1,Sem.run_pure,Result.andThen]
 . have q4:((s:Int) == 2)=false:=beq_f (by omega)
   go_enter func344,ntmps344
   go_wp2_with (first
    | (go_at_call 287;refine(HR.o _).mono ?_;rintro e w1 ⟨rfl,rfl⟩)
    | (refine strow (cs:=[.int .i64 R,.func (.func 358) #[] #[]]) rfl 393 (.tmp 6) (.tmp 9) rfl rfl rfl hs0 rfl info138 (by simp [Value.oneCell']) ?_
       intro W2 g1 g2;have hs2:=g1;have hr2:=HR0.o.grown g2 (by simp);have HB2:=aq (HB0.o.grown g2 HB0.o.size (fun k hk=>by cases hk;omega));have HZ2:Hid (w.heap.size+2<=W2.heap.size):=aq (by have:=g2.size;have:=HZZ.o;omega);have c0:=g1.cell (j:=0) (v:=.int .i64 R) rfl
       clear g1 g2 hs0)
    | (refine ldrow (cs:=[.int .i64 R,.func (.func 358) #[] #[]]) rfl 393 (.tmp 6) rfl rfl hs2 _ underlying393 rfl info138 ?_)
    | (refine strow (cs:=[.int .i64 R,.func (.func 358) #[] #[]]) rfl 393 (.tmp 4) (.tmp 26) rfl rfl rfl hr2 rfl info138 (by simp [Value.oneCell']) ?_
       intro W4 g1 g2;have HR4:=aq g1;have HB4:=aq (HB2.o.grown g2 HB2.o.size (fun k hk=>by cases hk;omega));have HZ4:Hid (w.heap.size+2<=W4.heap.size):=aq (by have:=g2.size;have:=HZ2.o;omega)
       clear g1 g2 hs2 hr2 c0))
   refine bodyPost_ret (v:=.tuple #[.agg #[.int .i64 R,.func (.func 358) #[] #[]],.int .i64 0]) ?_ rfl ⟨_,w.heap.size+1,rfl,.inl ⟨h22,rfl⟩,Nat.le_succ _,by have:=HZ4.o;omega,rfl,HB4.o⟩;have l1:=res138 HR4.o;rw [results_ct rfl];simp [asAddr,l1,Sem.run_pure,Result.andThen]
theorem shift0_any(m:Nat)(w:World):Calls prog 358 #[.int .i64 m] w fun e w'=>e= .returned (.int .i64 m)/\w=w':=by
 go_enter func358,ntmps358;go_wp2;go_ret;exact⟨rfl,by trivial⟩
theorem shift2_any(m R SB:Nat)(v:Value)(w:World)(h:Blk w SB 393 [.int .i64 R,v])(hm:m<=7000)(hR:1<=R)(hR2:R<=193):Calls prog 359 #[.int .i64 m,.pointer (some ⟨SB,0,none⟩)] w fun e w'=>e= .returned (.int .i64 (((m+1) % (32*R):Nat):Int))/\w=w':=by
 have c0:=h.cell (j:=0) (v:=.int .i64 R) rfl;go_enter func359,ntmps359;go_wp2;go_ret;refine⟨ret_int ?_,by trivial⟩;push_cast;try rfl
theorem ind_any(R:Nat)(sv:Value)(w:World)(h1:sv.oneCell'=true):Calls prog 345 #[.agg #[.int .i64 R,sv]] w fun e w'=>e= .returned (.func (.func 360) #[] #[.pointer (some ⟨w.heap.size,0,none⟩)])/\Blk w' w.heap.size 393 [.int .i64 R,sv]/\Below w.heap.size w w':=by
 have hmf:∀ (fn:Fn) (first cap:Array Value) (w:World),(Instr.makeFunc fn first cap).run prog w= .ok (.func fn first cap) w:=fun _ _ _ _=>rfl;go_enter func345,ntmps345;go_wp2;go_ret;exact⟨rfl,Blk.new w [.int .i64 R,sv] 393 rfl,bal (Below.refl _ _) _⟩
def psO(d s:Nat):List (Int × Int):=(List.range (32*rwS d)).map fun(k:Nat)=>((k:Int),((mx0 d s (k / rwS d) (k % rwS d):Nat):Int))
theorem psO_len(d s:Nat):(psO d s).length=32*rwS d:=by simp [psO]
theorem psO_get(d s k:Nat)(h:k<(psO d s).length):(psO d s)[k]=((k:Int),((mx0 d s (k / rwS d) (k % rwS d):Nat):Int)):=by simp [psO]
def OkP(PS:List (Int × Int))(pre:List (Int × Int))(x:Int × Int):Prop:=∃ h:pre.length<PS.length,x=PS[pre.length]
def W124(IB CB R c:Nat)(sv:Value)(cp:Nat)(W:World):Prop:=W.cell? ⟨IB,0,none⟩=some (.int .i64 R)/\W.cell? ⟨IB,1,none⟩=some sv/\W.cell? ⟨CB,c,none⟩=some (.int .i64 cp)
def IjI(PS:List (Int × Int))(R s:Nat)(J:List (Int × Int)->World->Prop)(W0:World)(IB CB SB:Nat)(sv:Value)(i:Value)(wr:World):Prop :=
 ∃ k:Nat,k<=32*R/\i= .int .i64 k/\J (PS.take k) wr/\Blk wr IB 393 [.int .i64 R,sv]/\ShV wr R s sv SB/\Blk wr CB 407 (ints8 cpI)/\W0.heap.size<=wr.heap.size
def IdQ(PS:List (Int × Int))(J Jx:List (Int × Int)->World->Prop)(e:Ending)(W':World):Prop :=
 (∃ v,e= .returned v)/\((∃ ys,ys=PS/\J ys W')\/(∃ pre,(∃ k,k<=PS.length/\pre=PS.take k)/\Jx pre W'))
theorem ind_in(l d s IB SB:Nat)(sv:Value)(h1:1<=d)(h2:d<=6148)(hs:s<=2)(bs:List Nat)(W:World)(hI:Blk W IB 393 [.int .i64 (rwS d),sv])(hV:ShV W (rwS d) s sv SB)(ha:IB ∉ bs)(hb:SB ∉ bs)(hbs:∀ b ∈ bs,b<W.heap.size)
 (J Jx:List (Int × Int)->World->Prop) (hJ:Cl W.heap.size J) (hJx:Cl W.heap.size Jx)
 (hY:∀ pre x W1,J pre W1->OkP (psO d s) pre x->YieldAt Fence.wide 1 prog l (encP x) W1 fun e W' =>
   (e= .returned (.bool true)/\J (pre ++ [x]) W'/\KpB bs W1 W')\/(e= .returned (.bool false)/\Jx (pre ++ [x]) W'))
 (h0:J [] W) :
 CallsIn Fence.wide 2 prog 360 #[.func (.yield l) #[] #[],.pointer (some ⟨IB,0,none⟩)] W (IdQ (psO d s) J Jx):=by
 have hR:=rwS_le h2;have hR1:=rwS_pos h1;obtain⟨PS,hPS⟩:∃ PS,PS=psO d s:=⟨_,rfl⟩
 have HPL:=aq (show PS.length=32*rwS d by rw [hPS];exact psO_len d s);have HPG:=aq (show ∀ k (h:k<PS.length),PS[k]=((k:Int),((mx0 d s (k / rwS d) (k % rwS d):Nat):Int)) from fun k h=>by subst hPS;exact psO_get d s k h);have HX2:=aq (fun c r=>show mx0 d s c r=if s=2 then(32*r+cpN c+1) % (32*rwS d) else 32*r+cpN c from rfl);rw [<- hPS]at hY ⊢;clear hPS;generalize rwS d=R at *;have HI:=aq hI;have HV:=aq hV;have HA:=aq ha;have HB:=aq hb;have HBS:=aq hbs;clear hI hV ha hb hbs;refine callsIn_of_wp func360 rfl trivial ?_ rfl;simp only [ntmps360,List.size_toArray,List.length_cons,List.length_nil,Nat.reduceAdd,Nat.reduceSub,Array.replicate_succ,Array.replicate_zero,List.push_toArray,List.append_toArray,List.nil_append,List.cons_append];gi_wp2_with fail;refine⟨by simp [Fence.wide],?_⟩;refine CallsIn.mono (callsIn_wide.2 (cols_any W)) ?_;rintro e w1 ⟨rfl,hB1⟩;have HI1:=aq (HI.o.below hB1);have HV1:=aq (HV.o.below hB1);have HJ1:=aq (hJ.call h0 hB1);have HZ1:=aq hB1.size;clear hB1;have hc0:Blk (w1.alloc (.cells (ints8 (List.replicate 32 0)).toArray 407)) w1.heap.size 407 (ints8 (List.replicate 32 0)):=Blk.new w1 _ 407 rfl
 gi_wp2_with (refine listIn_of rfl nofun fun K hK=>wp_strow (cs:=ints8 cpI) 407 (.tmp 3) (.tmp 5) rfl rfl rfl hc0 rfl info143 (ints8_one _) ?_
              intro W2 g1 g2;refine hK _ _ ?_;clear hK K;have HC2:=aq g1;have H2:=aq g2;have c0:=((HI1.o.alloc (.cells (ints8 (List.replicate 32 0)).toArray 407)).grown g2 (by have:=HI1.o.lt;intro e;injection e with e;omega)).cell (j:=0) (v:=.int .i64 R) rfl
              clear g1 g2 hc0)
 have hq2:Below w1.heap.size w1 W2:=((Below.refl _ w1).alloc (Nat.le_refl _) _).grown H2.o (by simp) (fun k hk=>by cases hk;exact Nat.le_refl _);have HI2:=aq (HI1.o.below hq2);have HV2:=aq (HV1.o.below hq2);have HZ2:=aq (Nat.le_trans HZ1.o hq2.size);have HJ2:=aq (hJ.set (hJ.alloc (.cells (ints8 (List.replicate 32 0)).toArray 407) HJ1.o) H2.o HZ1.o);have HCB:Hid (w1.heap.size ∉ bs):=aq (fun hm=>by have:=HBS.o _ hm;have:=HZ1.o;omega);clear hq2 HI1 HV1 HZ1 HJ1 H2 HI HV;generalize w1.heap.size=CB at *;gi_loopw [9] (fun i wr=>IjI PS R s J W IB CB SB sv i wr) (fun i _=>32*R - (intOf i).toNat)
 case atStart=>exact⟨0,Nat.zero_le _,rfl,HJ2.o,HI2.o,HV2.o,HC2.o,HZ2.o⟩
 case round =>
  obtain⟨k,hk,rfl,hJs,hI,hV,hC,hz⟩:=hrel;clear HI2 HV2 HC2 HZ2 HJ2 c0;by_cases hlt:k<32*R
  . obtain⟨c,hc⟩:∃ c,c=k / R:=⟨_,rfl⟩
    obtain⟨r,hr⟩:∃ r,r=k % R:=⟨_,rfl⟩
    have hc32:c<32:=by rw [hc];exact Nat.div_lt_of_lt_mul (by rw [Nat.mul_comm];exact hlt)
    have hrR:r<R:=by rw [hr];exact Nat.mod_lt _ (by omega)
    have hcI:(k:Int) / (R:Int)=(c:Int):=by rw [hc];rfl
    have hrI:(k:Int) % (R:Int)=(r:Int):=by rw [hr];rfl
    have hRne:¬ R=0:=by omega
    have hwc:IntKind.i64.wrap (c:Int)=(c:Int):=by rw [IntKind.wrap_i64];omega
    have htm:(k:Int).tmod (R:Int)=(r:Int):=by rw [Int.tmod_eq_emod_of_nonneg (by omega)];exact hrI
    have hw3:IntKind.i64.wrap (32*(r:Int))=32*(r:Int):=by rw [IntKind.wrap_i64];omega
    have hlk:k<PS.length:=by rw [HPL.o];exact hlt
    have hpk:=HPG.o k hlk;rw [<- hc,<- hr,HX2.o c r]at hpk;have HPT:=aq (takeP_succ PS k hlk);have HOK:=aq (show ∀ x,x=PS[k]->OkP PS (PS.take k) x from fun x hx=>⟨by rw [List.length_take];omega,by rw [hx];congr 1;rw [List.length_take];omega⟩);clear hc hr;have hcc:wr.cell? ⟨CB,c,none⟩=some (.int .i64 (cpN c:Int)):=by
     have h9:=Blk.icell hC (j:=c) hc32;rw [h9];congr 2;unfold gi cpI cpN;rw [List.getD_eq_getElem?_getD,List.getD_eq_getElem?_getD,List.getElem?_map];cases cpL[c]?<;>rfl
    have hcp:=cpN_lt c;have HW:Hid (W124 IB CB R c sv (cpN c) wr.drew):=aq ⟨hI.cell (j:=0) rfl,hI.cell (j:=1) rfl,hcc⟩;have hix:=fun W=>ix143 CB hc32 .i64 W;have HJs:=aq hJs;have HIs:=aq hI;have HVs:=aq hV;have HCs:=aq hC;have HZs:=aq hz;clear hJs hI hC hz hcc;generalize cpN c=cp at *;rcases hV with⟨hs2,rfl⟩ | ⟨rfl,rfl,vv,hS⟩
    . rw [if_neg hs2]at hpk
      obtain⟨m,hm⟩:∃ m,m=cp+32*r:=⟨_,rfl⟩
      rw [show 32*r+cp=m by omega]at hpk;have hws:IntKind.i64.wrap ((cp:Int)+32*(r:Int))=(m:Int):=by rw [IntKind.wrap_i64];omega
      have hm7:m<=7000:=by omega
      have hk7:IntKind.i64.wrap ((k:Int)+1)=(k:Int)+1:=by rw [IntKind.wrap_i64];omega
      clear hm;gi_wp2_with fail;refine PJ_s (W124 IB CB R c (.func (.func 358) #[] #[]) cp) 16 19 ?_;refine PJ_W 0 12 1 (.func (.yield l) #[] #[]) rfl HW.o ?_;simp only [yq0,yq1,yq2];refine PJ_W 1 13 3 (.int .i64 (k:Int)) rfl HW.o ?_;simp only [yq0,yq1,yq2];refine PJ_W 2 14 7 (.pointer (some ⟨IB,1,none⟩)) rfl HW.o ?_;simp only [yq0,yq1,yq2];refine PJ_T 3 15 15 (.func (.func 358) #[] #[]) [] rfl HW.o ⟨Or.inl ⟨by rfl,fun W hS=>by obtain⟨s0,s1,s2⟩:=hS;go_simp⟩,fun _=>rfl⟩ ?_;simp only [yq0,yq1,yq2];refine PJ_W 4 16 31 (.int .i64 (k:Int)) rfl HW.o ?_;simp only [yq0,yq1,yq2];refine PJ_W 5 17 63 (.pointer (some ⟨IB,0,none⟩)) rfl HW.o ?_;simp only [yq0,yq1,yq2];refine PJ_T 6 18 127 (.int .i64 (R:Int)) [15,9,8,7] rfl HW.o ⟨Or.inl ⟨by rfl,fun W hS=>by obtain⟨s0,s1,s2⟩:=hS;go_simp⟩,fun _=>rfl⟩ ?_;simp only [yq0,yq1,yq2];refine PJ_W 7 19 255 (.int .i64 (c:Int)) rfl HW.o ?_;simp only [yq0,yq1,yq2];refine PJ_W 8 20 511 (.pointer (some ⟨CB,c,none⟩)) rfl HW.o ?_;simp only [yq0,yq1,yq2];refine PJ_T 9 21 1023 (.int .i64 (cp:Int)) [15] rfl HW.o ⟨Or.inl ⟨by rfl,fun W hS=>by obtain⟨s0,s1,s2⟩:=hS;go_simp⟩,fun _=>rfl⟩ ?_;simp only [yq0,yq1,yq2];refine PJ_W 10 22 2047 (.int .i64 (k:Int)) rfl HW.o ?_;simp only [yq0,yq1,yq2];refine PJ_W 11 23 4095 (.pointer (some ⟨IB,0,none⟩)) rfl HW.o ?_;simp only [yq0,yq1,yq2];refine PJ_T 12 24 8191 (.int .i64 (R:Int)) [15,14,13] rfl HW.o ⟨Or.inl ⟨by rfl,fun W hS=>by obtain⟨s0,s1,s2⟩:=hS;go_simp⟩,fun _=>rfl⟩ ?_;simp only [yq0,yq1,yq2];refine PJ_W 13 25 16383 (.int .i64 (r:Int)) rfl HW.o ?_;simp only [yq0,yq1,yq2];refine PJ_W 14 26 32767 (.int .i64 (32*(r:Int))) rfl HW.o ?_;simp only [yq0,yq1,yq2];refine PJ_W 15 27 65535 (.int .i64 (m:Int)) rfl HW.o ?_;simp only [yq0,yq1,yq2];refine PJ_1 16 131071 rfl (fun K hK=>?_);refine operIn_w nofun ?_;go_simp;refine(shift0_any m _).mono ?_;rintro e w' ⟨rfl,rfl⟩;refine hK _ _ ?_;clear hK K;refine PJ_1 17 262143 rfl (fun K hK=>?_);obtain⟨fn,tmps,assign,body,hy,hRD⟩:=hY _ ((k:Int),(m:Int)) wr.drew (hJ.call HJs.o ((Below.refl _ wr).drew)) (HOK.o _ hpk.symm);unfold encP at hy;have HRD:=aq hRD;have HPK:=aq hpk;clear hRD hpk;go_simp;refine HRD.o.mono ?_;rintro e W7 (⟨rfl,hJ7,hk7⟩ | ⟨rfl,hJx7⟩)
      . refine hK _ _ ?_
        clear hK K;refine PJ_1 18 524287 rfl (fun K hK=>?_);refine operIn_w nofun ?_;go_simp;refine hK _ _ ?_;clear hK K;refine PJ_e ?_;gi_wp2;go_roundw
        case rel=>exact⟨k+1,by omega,by go_num,by rw [HPT.o,HPK.o];exact hJ7,(HIs.o.drew).kp hk7 HA.o,ShV.kp (HVs.o.below ((Below.refl _ wr).drew)) hk7 HB.o,(HCs.o.drew).kp hk7 HCB.o,Nat.le_trans HZs.o hk7.1⟩
        case measure=>simp [intOf];omega
      . refine hK _ _ ?_
        clear hK K;refine PJ_1 18 524287 rfl (fun K hK=>?_);refine operIn_w nofun ?_;go_simp;refine hK _ _ ?_;clear hK K;refine PJ_e ?_;gi_wp2;go_end0;exact⟨⟨_,rfl⟩,.inr ⟨_,⟨k+1,by have:=HPL.o;omega,by rw [HPT.o,HPK.o]⟩,hJx7⟩⟩
    . rw [if_pos rfl]at hpk
      obtain⟨m0,hm0⟩:∃ m,m=cp+32*r:=⟨_,rfl⟩
      obtain⟨m,hm⟩:∃ m,m=(m0+1) % (32*R):=⟨_,rfl⟩
      rw [show 32*r+cp+1=m0+1 by omega,<- hm]at hpk;have HMM:=aq (show(m:Int)=(((m0+1) % (32*R):Nat):Int) by rw [hm]);have HSB:=aq (hS.drew);have hws:IntKind.i64.wrap ((cp:Int)+32*(r:Int))=(m0:Int):=by rw [IntKind.wrap_i64];omega
      have hm7:m0<=7000:=by omega
      have hk7:IntKind.i64.wrap ((k:Int)+1)=(k:Int)+1:=by rw [IntKind.wrap_i64];omega
      clear hm hm0 hS;gi_wp2_with fail;refine PJ_s (W124 IB CB R c (.func (.func 359) #[] #[.pointer (some ⟨SB,0,none⟩)]) cp) 16 19 ?_;refine PJ_W 0 12 1 (.func (.yield l) #[] #[]) rfl HW.o ?_;simp only [yq0,yq1,yq2];refine PJ_W 1 13 3 (.int .i64 (k:Int)) rfl HW.o ?_;simp only [yq0,yq1,yq2];refine PJ_W 2 14 7 (.pointer (some ⟨IB,1,none⟩)) rfl HW.o ?_;simp only [yq0,yq1,yq2];refine PJ_T 3 15 15 (.func (.func 359) #[] #[.pointer (some ⟨SB,0,none⟩)]) [] rfl HW.o ⟨Or.inl ⟨by rfl,fun W hS=>by obtain⟨s0,s1,s2⟩:=hS;go_simp⟩,fun _=>rfl⟩ ?_;simp only [yq0,yq1,yq2];refine PJ_W 4 16 31 (.int .i64 (k:Int)) rfl HW.o ?_;simp only [yq0,yq1,yq2];refine PJ_W 5 17 63 (.pointer (some ⟨IB,0,none⟩)) rfl HW.o ?_;simp only [yq0,yq1,yq2];refine PJ_T 6 18 127 (.int .i64 (R:Int)) [15,9,8,7] rfl HW.o ⟨Or.inl ⟨by rfl,fun W hS=>by obtain⟨s0,s1,s2⟩:=hS;go_simp⟩,fun _=>rfl⟩ ?_;simp only [yq0,yq1,yq2];refine PJ_W 7 19 255 (.int .i64 (c:Int)) rfl HW.o ?_;simp only [yq0,yq1,yq2];refine PJ_W 8 20 511 (.pointer (some ⟨CB,c,none⟩)) rfl HW.o ?_;simp only [yq0,yq1,yq2];refine PJ_T 9 21 1023 (.int .i64 (cp:Int)) [15] rfl HW.o ⟨Or.inl ⟨by rfl,fun W hS=>by obtain⟨s0,s1,s2⟩:=hS;go_simp⟩,fun _=>rfl⟩ ?_;simp only [yq0,yq1,yq2];refine PJ_W 10 22 2047 (.int .i64 (k:Int)) rfl HW.o ?_;simp only [yq0,yq1,yq2];refine PJ_W 11 23 4095 (.pointer (some ⟨IB,0,none⟩)) rfl HW.o ?_;simp only [yq0,yq1,yq2];refine PJ_T 12 24 8191 (.int .i64 (R:Int)) [15,14,13] rfl HW.o ⟨Or.inl ⟨by rfl,fun W hS=>by obtain⟨s0,s1,s2⟩:=hS;go_simp⟩,fun _=>rfl⟩ ?_;simp only [yq0,yq1,yq2];refine PJ_W 13 25 16383 (.int .i64 (r:Int)) rfl HW.o ?_;simp only [yq0,yq1,yq2];refine PJ_W 14 26 32767 (.int .i64 (32*(r:Int))) rfl HW.o ?_;simp only [yq0,yq1,yq2];refine PJ_W 15 27 65535 (.int .i64 (m0:Int)) rfl HW.o ?_;simp only [yq0,yq1,yq2];refine PJ_1 16 131071 rfl (fun K hK=>?_);refine operIn_w nofun ?_;go_simp;refine(shift2_any m0 R SB vv _ HSB.o hm7 hR1 hR).mono ?_;rintro e w' ⟨rfl,rfl⟩;rw [<- HMM.o];refine hK _ _ ?_;clear hK K;refine PJ_1 17 262143 rfl (fun K hK=>?_);obtain⟨fn,tmps,assign,body,hy,hRD⟩:=hY _ ((k:Int),(m:Int)) wr.drew (hJ.call HJs.o ((Below.refl _ wr).drew)) (HOK.o _ hpk.symm);unfold encP at hy;have HRD:=aq hRD;have HPK:=aq hpk;clear hRD hpk;go_simp;refine HRD.o.mono ?_;rintro e W7 (⟨rfl,hJ7,hk7⟩ | ⟨rfl,hJx7⟩)
      . refine hK _ _ ?_
        clear hK K;refine PJ_1 18 524287 rfl (fun K hK=>?_);refine operIn_w nofun ?_;go_simp;refine hK _ _ ?_;clear hK K;refine PJ_e ?_;gi_wp2;go_roundw
        case rel=>exact⟨k+1,by omega,by go_num,by rw [HPT.o,HPK.o];exact hJ7,(HIs.o.drew).kp hk7 HA.o,ShV.kp (HVs.o.below ((Below.refl _ wr).drew)) hk7 HB.o,(HCs.o.drew).kp hk7 HCB.o,Nat.le_trans HZs.o hk7.1⟩
        case measure=>simp [intOf];omega
      . refine hK _ _ ?_
        clear hK K;refine PJ_1 18 524287 rfl (fun K hK=>?_);refine operIn_w nofun ?_;go_simp;refine hK _ _ ?_;clear hK K;refine PJ_e ?_;gi_wp2;go_end0;exact⟨⟨_,rfl⟩,.inr ⟨_,⟨k+1,by have:=HPL.o;omega,by rw [HPT.o,HPK.o]⟩,hJx7⟩⟩
  . obtain rfl:k=32*R:=by omega
    have HJs:=aq hJs;clear hJs hI hV hC;gi_wp2;go_end0;exact⟨⟨_,rfl⟩,.inl ⟨_,List.take_of_length_le (Nat.le_of_eq HPL.o),HJs.o⟩⟩
theorem ind_seq(d s IB SB:Nat)(sv:Value)(h1:1<=d)(h2:d<=6148)(hs:s<=2)(bs:List Nat)(w:World)(hI:Blk w IB 393 [.int .i64 (rwS d),sv])(hV:ShV w (rwS d) s sv SB)(ha:IB ∉ bs)(hb:SB ∉ bs)(hbs:∀ b ∈ bs,b<w.heap.size) :
 SeqD 2 360 #[.pointer (some ⟨IB,0,none⟩)] encP (KpB bs) (fun ys=>ys=psO d s) (fun pre=>∃ k,k<=(psO d s).length/\pre=(psO d s).take k) (OkP (psO d s)) w:=fun l J Jx W hB hJ hJx hY h0 =>
 ind_in l d s IB SB sv h1 h2 hs bs W (hI.below hB) (hV.below hB) ha hb (fun b hb=>Nat.lt_of_lt_of_le (hbs b hb) hB.size) J Jx hJ hJx hY h0
def filL(d s N n:Nat):List Int:=ordT d s n ++ List.replicate (N - n) 0
theorem filL_set{d s N n:Nat}(h:n<N):(filL d s N n).set n (ordV d s n)=filL d s N (n+1):=by
 unfold filL;rw [List.set_append_right _ _ (by rw [ordT_len];exact Nat.le_refl _),ordT_len,Nat.sub_self,ordT_succ,List.append_assoc];congr 1;rw [show N - n=(N - (n+1))+1 by omega,List.replicate_succ];rfl
theorem filL_all{d s N:Nat}:filL d s N N=ordT d s N:=by simp [filL]
structure OrK (w:World) (base DB OB d s N:Nat) (A:Option Addr) (n:Nat) (W:World):Prop where
 le:n<=N
 o:Own .i64 3 W base A N N (filL d s N n)
 x:Blk W OB 51 [.slice A N N]
 dd:Blk W DB 3 [.int .i64 d]
 bl:Below w.heap.size w W
theorem OrK.cl{w:World}{B base DB OB d s N:Nat}{A:Option Addr}(hA:A≠none->blk A<B)(hO:OB<B)(hD:DB<B)(hw:w.heap.size<=B):Cl B (fun(pre:List (Int × Int)) W=>OrK w base DB OB d s N A pre.length W):=fun pre W W' row h hg hr =>
 ⟨h.le,Ownv.grown h.o hg (fun hn=>fun e=>by have:=hr _ e.symm;have:=hA hn;omega),h.x.grown hg (fun e=>by have:=hr _ e.symm;omega),h.dd.grown hg (fun e=>by have:=hr _ e.symm;omega),h.bl.grown hg h.bl.size (fun k e=>Nat.le_trans hw (hr k e))⟩
theorem OrK.next{w W:World}{base DB OB d s N:Nat}{A:Option Addr}{n:Nat}(h:OrK w base DB OB d s N A n W)(hn:n<N)(hO:blk A≠OB)(hD:blk A≠DB)(hw:w.heap.size<=blk A){v:Int}(hv:ordV d s n=v) :
 KeepsOthers W (W.setCell (adr A n) (.int .i64 v))/\KpB [blk A] W (W.setCell (adr A n) (.int .i64 v))/\OrK w base DB OB d s N A (n+1) (W.setCell (adr A n) (.int .i64 v)):=by
 have h2:=Own.set_ h.o hn v;refine⟨KeepsOthers.setCell _ _ _,KpB.set h2.2 (by simp),⟨hn,?_,h.x.grown h2.2 (fun e=>hO (Option.some.inj e).symm),h.dd.grown h2.2 (fun e=>hD (Option.some.inj e).symm),h.bl.grown h2.2 h.bl.size (fun k e=>by cases e;exact hw)⟩⟩;have h3:=h2.1;rw [<- hv,filL_set hn]at h3;rw [hv]at h3;exact h3
theorem mxV_max{d m:Nat}(hd:d<=32*rwS d):max ((m:Int) - (((32*rwS d:Nat):Int) - (d:Int))) (-1)=mxV d m:=by
 unfold mxV;split
 . rw [Int.max_eq_right (by omega)]
 . rw [Int.max_eq_left (by omega)];omega
theorem order_ok(d s:Nat)(w:World)(h1:1<=d)(h2:d<=6148)(hs:s<=2):Calls prog 322 #[.int .i64 d,.int .i64 s] w fun e w'=>∃ A,e= .returned (.tuple #[.slice A (32*rwS d) (32*rwS d),.int .i64 0])/\Own .i64 3 w' w.heap.size A (32*rwS d) (32*rwS d) (ordL d s)/\Below w.heap.size w w':=by
 have hR:=rwS_le h2;have hR1:=rwS_pos h1;have hge:=rwS_ge d;have HMX:=aq (fun m=>mxV_max (d:=d) (m:=m) hge);have HOF:=aq (fun W=>of_ok d s W h1 h2 hs);have HSQ:=aq (fun IB SB sv bs W=>ind_seq d s IB SB sv h1 h2 hs bs W);have HPL:=aq (psO_len d s);have HPG:=aq (psO_get d s);have HOV:=aq (fun k=>show ordV d s k=mxV d (mx0 d s (k / rwS d) (k % rwS d)) from rfl);have HXL:=aq (fun c r (h:r<rwS d)=>mx0_lt (d:=d) (s:=s) (c:=c) h);have HL:=aq (show ordL d s=ordT d s (32*rwS d) from rfl);unfold OfPost at HOF;generalize rwS d=R at *;obtain⟨N,hN⟩:∃ N,N=32*R:=⟨_,rfl⟩
 have hNI:IntKind.i64.wrap (32*(R:Int))=(N:Int):=by rw [IntKind.wrap_i64,hN];push_cast;omega
 rw [<- hN]at HMX HPL HL HXL hge ⊢;have hN2:N<=6176:=by omega
 have hN1:1<=N:=by omega
 clear hN;refine(callsIn_wide (n:=3)).1 ?_;refine callsIn_of_wp_marks func322 rfl trivial ?_;simp only [ntmps322,List.size_toArray,List.length_cons,List.length_nil,Nat.reduceAdd,Nat.reduceSub,Array.replicate_succ,Array.replicate_zero,List.push_toArray,List.append_toArray,List.nil_append,List.cons_append];refine wpIn_wide.2 ?_;have hd0:=Blk.new w [.int .i64 d] 3 rfl;have hb0:=bal (Below.refl _ w) (.cells [Value.int .i64 d].toArray 3);have HD0:=aq hd0;have HB0:=aq hb0;clear hd0 hb0;go_wp2_with fail;refine(HOF.o _).mono ?_;rintro e w1 ⟨sv,SB,rfl,hV,hSB,hSB2,hone,hB1⟩;have HV1:=aq hV;have HD1:=aq (HD0.o.below hB1);have HB1:=aq (HB0.o.trans (hB1.mono HB0.o.size));have HSB:=aq hSB2;have HONE:=aq hone;clear hV hB1 hSB hSB2 HD0 HB0 HOF hone;have hs0:Blk (w1.alloc (.cells #[.int .i64 0,.nilFunc] 393)) w1.heap.size 393 [.int .i64 0,.nilFunc]:=Blk.new w1 _ 393 rfl
 go_wp2_with (first
  | (refine strow (cs:=[.int .i64 R,sv]) rfl 393 (.tmp 6) (.tmp 15) rfl rfl rfl hs0 rfl info138 (by intro v hv;simp at hv;rcases hv with rfl | rfl;rfl;exact HONE.o) ?_
     intro W2 g1 g2;have HS2:=aq g1;have hq:=(Below.refl w1.heap.size w1).alloc (Nat.le_refl _) (.cells #[.int .i64 0,.nilFunc] 393);have HB2:=aq (hq.grown g2 hq.size (fun k hk=>by cases hk;exact Nat.le_refl _));have c0:=g1.cell (j:=0) (v:=.int .i64 R) rfl
     clear g1 g2 hs0 hq)
  | (at_make;refine list_of rfl fun K hK=>wp_mk (n:=N) _ _ 51 rfl el34 rfl rfl (by omega) (by unfold maxLen;omega) ?_
     intro A w3 hO3 hB3 hA;have HO3:=aq hO3;have HA:=aq hA;have HB23:=aq hB3;have hs4:=(HS2.o.below hB3).alloc (.cells #[.slice A N N] 51);clear hO3 hB3 hA c0;refine hK _ _ ?_
     clear hK K)
  | (refine ldrow (cs:=[.int .i64 R,sv]) rfl 393 (.tmp 6) rfl rfl hs4 _ underlying393 rfl info138 ?_))
 obtain⟨w4,hw4⟩:∃ W,W=w3.alloc (.cells #[.slice A N N] 51):=⟨_,rfl⟩
 have hB34:Below w3.heap.size w3 w4:=by rw [hw4];exact(Below.refl _ _).alloc (Nat.le_refl _) _
 have hx4:Blk w4 w3.heap.size 51 [.slice A N N]:=by rw [hw4];exact Blk.new w3 _ 51 rfl
 have h14:Below w1.heap.size w1 w4:=HB2.o.trans ((HB23.o.trans (hB34.mono HB23.o.size)).mono HB2.o.size);have HD4:=aq (HD1.o.below h14);have HV4:=aq (HV1.o.below h14);have HB4:=aq (HB1.o.trans (h14.mono HB1.o.size));have HX4:=aq hx4;have HO4:=aq (Ownv.below HO3.o hB34);have hbA:W2.heap.size<=blk A/\blk A<w4.heap.size:=(Ownv.blk_ge HO4.o (by omega))
 have hlo:w1.heap.size<=W2.heap.size:=HB2.o.size;have hOB:w3.heap.size<w4.heap.size:=hx4.lt;have hDB:w.heap.size<w1.heap.size:=HD1.o.lt;have hAOB:blk A≠w3.heap.size:=by have:=(Ownv.blk_ge HO3.o (by omega)).2;omega
 rw [<- hw4];clear hw4 hB34 hx4 h14 hs4 HB2 HB23 HS2 HO3 HD1 HV1 HB1;generalize w3.heap.size=OB at *;refine(ind_any R sv w4 HONE.o).mono ?_;rintro e w5 ⟨rfl,hI5,hB5⟩;have HI5:=aq hI5;have HK:Hid (OrK w W2.heap.size w.heap.size OB d s N A 0 w5):=aq ⟨Nat.zero_le _,Own.of_eq (Ownv.below HO4.o hB5) rfl (by simp [filL,ordT]),HX4.o.below hB5,HD4.o.below hB5,HB4.o.trans (hB5.mono HB4.o.size)⟩;have HV5:=aq (HV4.o.below hB5);have hz5:w4.heap.size<w5.heap.size:=hI5.lt;generalize w4.heap.size=IB at *;have HSEQ:=aq (HSQ.o IB SB sv [blk A] w5 HI5.o HV5.o (by simp;omega) (by have:=HSB.o;simp;omega) (by intro b hb;simp at hb;subst hb;omega));have hwB:=HK.o.bl.size;clear hI5 hB5 HB4 HD4 HV4 HX4 HO4 HSQ HV5 HI5;go_wp2_with fail;refine(wpIn_wide (n:=3)).1 ?_;refine' rangeD (w0:=w5) (gf:=360) (lb:=#[.pointer (some ⟨IB,0,none⟩)]) rfl (enters_of func360 (by kernel_rfl) rfl) HSEQ.o KpB.trans (fun W l o o' hl h1 h2=>KpB.put o' h1 h2) (Below.refl _ _) (fun _=>rfl)
  (fun pre W=>OrK w W2.heap.size w.heap.size OB d s N A pre.length W) (fun _ _ _=>False) (OrK.cl (fun _=>by omega) (by omega) (by omega) (by omega)) (fun _ _ _ _ _ h _ _=>h) HK.o _ ?assign ?body ?done ?stop
 case assign =>
  intro l x W K hK;unfold encP;gi_wp2;exact hK
 case body =>
  rintro l pre x W hI ⟨hlt,rfl⟩;rw [HPG.o];rw [HPL.o]at hlt;have hov:=HOV.o pre.length;obtain⟨m,hm⟩:∃ m,m=mx0 d s (pre.length / R) (pre.length % R):=⟨_,rfl⟩
  rw [<- hm]at hov ⊢;have hmN:m<N:=by rw [hm];exact HXL.o _ _ (Nat.mod_lt _ (by omega))
  clear hm;have hmx:=HMX.o m;rw [<- hov]at hmx;have hc:=Rd.cell (Own.rd hI.o) hlt;have hf:=Ownv.frozen hI.o (by omega) pre.length;have hix:=fun W=>Rdv.ix (Own.rd hI.o) el34 hlt .i64 W;have cO:=hI.x.cell (j:=0) (v:=.slice A N N) rfl;have cD:=hI.dd.cell (j:=0) (v:=.int .i64 d) rfl;have HI:=aq hI;have HLT:=aq hlt;have HOVM:=aq hov;clear hI hov;have hlen:∀ x:Int × Int,(pre ++ [x]).length=pre.length+1:=fun x=>by simp
  by_cases hmd:m+d+1<N
  . have hv:ordV d s pre.length = -1:=by rw [<- hmx];exact Int.max_eq_right (by omega)
    have HNX:=aq (HI.o.next HLT.o (v:=-1) hAOB (by omega) (by omega) hv);clear hmx hv HOVM;gi_wp2;exact⟨HNX.o.1,HNX.o.2.1,by have h9:=HNX.o.2.2;rw [<- hlen ((pre.length:Int),(m:Int))]at h9;exact h9⟩
  . have hv:ordV d s pre.length=(m:Int) - ((N:Int) - (d:Int)):=by rw [<- hmx];exact Int.max_eq_left (by omega)
    have HNX:=aq (HI.o.next HLT.o (v:=(m:Int) - ((N:Int) - (d:Int))) hAOB (by omega) (by omega) hv);clear hmx hv HOVM;gi_wp2;exact⟨HNX.o.1,HNX.o.2.1,by have h9:=HNX.o.2.2;rw [<- hlen ((pre.length:Int),(m:Int))]at h9;exact h9⟩
 case done =>
  rintro D ys W hD rfl hI hK;rw [HPL.o]at hI;have cO:=hI.x.cell (j:=0) (v:=.slice A N N) rfl;have hO:=hI.o;rw [filL_all,<- HL.o]at hO;have HO9:=aq (Ownv.mono (hO.grown (grownBy_putObj' W D (.deferred none)) (fun _ e=>by have:=Option.some.inj e;omega)) (show w.heap.size<=W2.heap.size by omega));have HB9:=aq (hI.bl.grown (grownBy_putObj' W D (.deferred none)) hI.bl.size (fun k e=>by cases e;omega));clear hO;go_wp2;refine⟨by simp,.inl ⟨_,_,rfl,run_takeDeferred hK,?_⟩⟩;exact⟨_,results_tmp2 rfl _ _ _,A,rfl,HO9.o,HB9.o⟩
 case stop =>
  rintro D c pre W hD _ hx hK;exact hx.elim
end Go.Proofs.YthmhogdceolkdaaGreat.Cr
namespace Go.Proofs.YthmhogdceolkdaaGreat.Cr
open Tryz
open Go.RowKit
def elV(k f s:Nat)(i:Int):Int:=if i<0\/(s<2/\i<(f:Int)) then -1 else((s*(k+4):Nat):Int)+i
def sxN(N x:Nat):Nat:=if x<N then 0 else(x - N) % 2+1
def jxN(N x:Nat):Nat:=if x<N then x else(x - N) / 2
def nB(k:Nat):Nat:=32*rwS (k+4)
def vX(k f x:Nat):Int:=elV k f (sxN (nB k) x) (ordV (k+4) (sxN (nB k) x) (jxN (nB k) x))
def bufT(k f n:Nat):List Int:=(List.range n).map (vX k f)
def bufL(k f:Nat):List Int:=bufT k f (3*nB k)
theorem bufT_len(k f n:Nat):(bufT k f n).length=n:=by simp [bufT]
theorem bufT_gi(k f n x:Nat)(h:x<n):gi (bufT k f n) x=vX k f x:=by
 rw [gi_eq _ _ (by rw [bufT_len];exact h)];simp [bufT]
theorem nB_le{k:Nat}(h:k<=6144):nB k<=6176:=by unfold nB;have:=rwS_le (d:=k+4) (by omega);omega
theorem nB_pos{k:Nat}:1<=nB k:=by unfold nB;have:=rwS_pos (d:=k+4) (by omega);omega
theorem mxV_bd{d m:Nat}(hm:m<32*rwS d):-1<=mxV d m/\mxV d m<(d:Int):=by
 unfold mxV;have:=rwS_ge d;split<;>omega
theorem ordV_bd{d s k:Nat}(hd:1<=d):-1<=ordV d s k/\ordV d s k<(d:Int):=mxV_bd (mx0_lt (Nat.mod_lt _ (by have:=rwS_pos hd;omega)))
def usC(xs:List Int):Nat:=(xs.filter fun x=>decide (0<=x)).length
theorem usC_snoc(xs:List Int)(x:Int):usC (xs ++ [x])=usC xs+if 0<=x then 1 else 0:=by
 unfold usC;rw [List.filter_append,List.length_append];by_cases h:0<=x
 . simp [h]
 . simp [h]
theorem usC_le(xs:List Int):usC xs<=xs.length:=List.length_filter_le _ _
theorem cell_below{w w':World}{p:Addr}{v:Value}(hc:w.cell? p=some v)(h:Below w.heap.size w w'):w'.cell? p=some v:=(h.cell (World.block_lt_of_cell? w _ hc)).trans hc
theorem ordL_gi(d s j:Nat)(h:j<32*rwS d):gi (ordL d s) j=ordV d s j:=by
 unfold ordL;rw [gi_eq _ _ (by rw [ordT_len];exact h)];simp [ordT]
def szB(k:Nat)(lim:Int):Nat:=if lim<=((3*nB k:Nat):Int) then lim.toNat else 3*nB k
end Go.Proofs.YthmhogdceolkdaaGreat.Cr