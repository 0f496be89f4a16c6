/- Bundle. Conditions: none. -/
import Derived.Test.YthmhogdceolkdaaGreatBqam
import Derived.Recover
set_option linter.unusedVariables false
set_option linter.unusedSimpArgs false
namespace Go.Proofs.YthmhogdceolkdaaGreat.Cr
open Tryz
open Go.RowKit
set_option maxRecDepth 100000
set_option maxHeartbeats 1000000
theorem cell_set_ne(w:World){p q:Addr}(h:p.block≠q.block)(v:Value):(w.setCell q v).cell? p=w.cell? p:=by
 refine World.cell?_of_block ?_;show(w.heap.modify q.block _)[p.block]?=_;rw [Array.getElem?_modify,if_neg (fun e=>h e.symm)]
theorem w64{x:Int}(h:0<=x/\x<=1000000000):wrap64 x=x:=by unfold wrap64;omega
theorem nsub{a b:Nat}(h:b<=a):((a:Int) - (b:Int))=((a - b:Nat):Int):=by omega
theorem w64n{a:Nat}(h:a<=200000):wrap64 (a:Int)=(a:Int):=w64 ⟨by omega,by omega⟩
theorem plan_e1{P N T S Q:Nat}(hP:P<=80000)(htl1:T<=P)(hSN:S<N)(hq:Q=(P - T) / (N - S))(hQ:Q<=13) :
 wrap64 ((wrap64 (wrap64 (P:Int) - T)).tdiv ((N:Int) - S))=(Q:Int):=by
 rw [w64n (a:=P) (Nat.le_trans hP (by decide)),nsub htl1,w64n (a:=P - T) (Nat.le_trans (Nat.sub_le _ _) (Nat.le_trans hP (by decide))),nsub (Nat.le_of_lt hSN),Int.tdiv_eq_ediv_of_nonneg (Int.natCast_nonneg _),<- Int.natCast_ediv,<- hq];exact w64n (Nat.le_trans hQ (by decide))
theorem plan_e3{P1 P2 T F:Nat}(h1:P1<=80000)(h2:P2<=80000)(hfi:T+F=P1+P2) :
 wrap64 (wrap64 (wrap64 (P1:Int)+wrap64 (P2:Int)) - T)=(F:Int):=by
 rw [w64n (a:=P1) (Nat.le_trans h1 (by decide)),w64n (a:=P2) (Nat.le_trans h2 (by decide)),<- Int.natCast_add,w64n (a:=P1+P2) (by omega),nsub (by omega),show P1+P2 - T=F by omega];exact w64n (by omega)
theorem plan_eqs{C N T S Q R F:Nat}(hC13:C<=13)(hN2:N<=6144)(htl1:T<=C*N)(hsl:Q<C)(hSN:S<N)(hq:Q=(C*N - T) / (N - S))(hl:R=C - Q)(hfi:T+F=R*N+Q*S) :
 wrap64 ((wrap64 (wrap64 ((C:Int)*N) - T)).tdiv ((N:Int) - S))=(Q:Int)/\wrap64 ((C:Int) - Q)=(R:Int)/\wrap64 (wrap64 (wrap64 ((R:Int)*N)+wrap64 ((Q:Int)*S)) - T)=(F:Int):=by
 have hQ13:Q<=13:=Nat.le_trans (Nat.le_of_lt hsl) hC13;have hCN:C*N<=80000:=Nat.le_trans (Nat.mul_le_mul hC13 hN2) (by decide);have hQS:Q*S<=80000:=Nat.le_trans (Nat.mul_le_mul hQ13 (Nat.le_trans (Nat.le_of_lt hSN) hN2)) (by decide);have hR13:R<=13:=by rw [hl];exact Nat.le_trans (Nat.sub_le _ _) hC13
 have hRN:R*N<=80000:=Nat.le_trans (Nat.mul_le_mul hR13 hN2) (by decide);rw [<- Int.natCast_mul,<- Int.natCast_mul,<- Int.natCast_mul];refine⟨plan_e1 hCN htl1 hSN hq hQ13,?_,plan_e3 hRN hQS hfi⟩;rw [nsub (Nat.le_of_lt hsl),<- hl];exact w64n (Nat.le_trans hR13 (by decide))
theorem plan_many(b:Nat)(w:World)(h1:¬ b<=6144)(h2:b<=79560):Calls prog 166 #[.int .i64 b] w (PlPost b w):=by
 have h6:6144<b:=by omega
 have hC2:=bC_two h1;have hC13:=bC_le h2;have hCe:((b:Int)+6144 - 25) / 6120=(bC b:Int):=by unfold bC;rw [if_neg h1];omega
 have hTe:tl b=b+bC b*24:=by unfold tl ck;rw [if_neg h1]
 have hav:=@av_le b;have havd:av b=(tl b+bC b - 1) / bC b:=rfl;have havb:=av_big h1;have hN1:=@lo_ge b;have hN2:=@lo_le b;have hSb:=sh_lt h1;have eN:SZ (ix (av b))=lo b:=rfl;have eS:SZ (ix (av b) - 1)=sh b:=by unfold sh;rw [if_neg h1];rfl
 have hlt:=ix_lt hav;have hpos:=ix_pos (show 40<av b by omega);have HLY:=aq (show LY b=[(b:Int),(bC b:Int),(lo b:Int),(sh b:Int),(los b:Int),(shs b:Int),(fi b:Int)] from rfl);have htl1:=@tl_le b;have hq:=aq (show shs b=(bC b*lo b - tl b) / (lo b - sh b) by unfold shs;rw [if_neg h1]);have hsl:=shs_lt (show 1<=b by omega);have hlos:los b=bC b - shs b:=rfl;have hfi:=fi_eq (show 1<=b by omega);have hfl:=fi_lt (show 1<=b by omega) h2;generalize bC b=C at *;generalize tl b=T at *;generalize av b=V at *;generalize lo b=N at *;generalize sh b=S at *;generalize shs b=Q at *;generalize los b=R at *;generalize fi b=F at *;have HEN:=aq eN;have HES:=aq eS;have HTE:=aq hTe;have HLOS:=aq hlos;have HFI:=aq hfi;have hVe:((T:Int)+C - 1).tdiv C=V:=by
  rw [Int.tdiv_eq_ediv_of_nonneg (by omega),havd];push_cast;rw [show ((T+C - 1:Nat):Int)=(T:Int)+C - 1 by omega]
 have hVe':((T:Int)+C - 1) / C=V:=by rw [<- hVe,Int.tdiv_eq_ediv_of_nonneg (by omega)]
 have hTl:T<=80000:=by omega
 clear eN eS hTe hlos hfi havd;have hd:decide ((b:Int)<=79560)=true:=by simp;omega
 go_enter func166,ntmps166;go_wp2_with (first
  | (go_at_call 182;refine(must_ok _ _).mono ?_;rintro e w' ⟨rfl,rfl⟩))
 have hR0:Blk ((w.alloc (.cells (ints8 [0,0,0,0,0,0,0]).toArray 175)).alloc (.cells (ints8 [(b:Int),(C:Int),0,0,0,0,0]).toArray 175)) w.heap.size 175 (ints8 [0,0,0,0,0,0,0]):=(Blk.new w _ 175 rfl).alloc _;have hL0:Blk ((w.alloc (.cells (ints8 [0,0,0,0,0,0,0]).toArray 175)).alloc (.cells (ints8 [(b:Int),(C:Int),0,0,0,0,0]).toArray 175)) (w.heap.size+1) 175 (ints8 [(b:Int),(C:Int),0,0,0,0,0]):=Blk.new _ _ 175 (by simp);have hB0:Below w.heap.size w ((w.alloc (.cells (ints8 [0,0,0,0,0,0,0]).toArray 175)).alloc (.cells (ints8 [(b:Int),(C:Int),0,0,0,0,0]).toArray 175)):=((Below.refl _ _).alloc (Nat.le_refl _) _).alloc (by simp) _;simp only [ints8,List.map_cons,List.map_nil]at hR0 hL0 hB0;generalize hW:(w.alloc (.cells #[.int .i64 0,.int .i64 0,.int .i64 0,.int .i64 0,.int .i64 0,.int .i64 0,.int .i64 0] 175)).alloc (.cells #[.int .i64 b,.int .i64 C,.int .i64 0,.int .i64 0,.int .i64 0,.int .i64 0,.int .i64 0] 175)=W at *;obtain⟨RB,hRB⟩:∃ RB,RB=w.heap.size:=⟨_,rfl⟩
 obtain⟨LB,hLB⟩:∃ LB,LB=w.heap.size+1:=⟨_,rfl⟩
 rw [<- hLB]at hL0 ⊢;rw [<- hRB]at hR0 ⊢;have HRB:=aq hRB;have HLB:=aq hLB;have HW:=aq hW;clear hRB hLB hW;obtain⟨⟨c0,c1,c2,c3,c4,c5,c6⟩,-⟩:=Blk.seven hL0;go_region_held3 (fun W=>W.cell? ⟨LB,0,none⟩=some (.int .i64 b)/\W.cell? ⟨LB,1,none⟩=some (.int .i64 C)/\W.cell? ⟨LB,2,none⟩=some (.int .i64 0)/\W.cell? ⟨LB,3,none⟩=some (.int .i64 0)/\W.cell? ⟨LB,4,none⟩=some (.int .i64 0)/\W.cell? ⟨LB,5,none⟩=some (.int .i64 0)/\W.cell? ⟨LB,6,none⟩=some (.int .i64 0))
  (first | exact⟨c0,c1,c2,c3,c4,c5,c6⟩ | exact(Blk.seven hL1).1)
  (first | (go_at_call 185;refine(check_lay _ _ _ _ _ _ _ _).mono ?_;rintro e w1 ⟨he,hB1⟩;rw [if_pos (show(1:Int)<(C:Int) by omega)]at he;subst he;have hL1:=(Blk.drew hL0).below hB1))
 clear c0 c1 c2 c3 c4 c5 c6;have hR1:=Blk.below (Blk.drew hR0) hB1;have HB1:=aq (hB0.trans (((Below.refl _ W).drew.trans hB1).mono hB0.size));clear hB0 hB1 hL0 hR0;have hw1:IntKind.i64.wrap ((C:Int)*24)=C*24:=by rw [IntKind.wrap_i64];omega
 have hw0:IntKind.i64.wrap ((b:Int)+C*24)=T:=by rw [IntKind.wrap_i64,HTE.o];omega
 rw [hw1,hw0];clear hw0 hw1;have hne:LB≠RB:=by rw [HLB.o,HRB.o];omega
 have hne':RB≠LB:=hne.symm;have hl1:ix V - 1<188:=by omega
 have hi1:((ix V:Int) - 1)=((ix V - 1:Nat):Int):=by omega
 have HI1:=aq hi1;clear hi1;go_wp2_with (first
  | (go_at_call 226;refine(sizes_any _).mono ?_;rintro e w2 ⟨A,c,rfl,hO,hB2⟩;have hRd:=Own.rd hO;have hc:=Rd.cell hRd hlt;rw [gi_szL _ _ hlt,HEN.o]at hc;have hc1:=Rd.cell hRd hl1;rw [gi_szL _ _ hl1,HES.o]at hc1;have hix:=fun W=>Rdv.ix hRd el34 hlt .i64 W;have hix1:=fun W=>Rdv.ixI hRd el34 hl1 .i64 ((ix V:Int) - 1) HI1.o W;have hcs:∀ v,(w2.setCell ⟨LB,2,none⟩ v).cell? (adr A (ix V - 1))=some (.int .i64 S):=(fun v=>(cell_set_ne w2 (p:=adr A (ix V - 1)) (q:=⟨LB,2,none⟩) (show blk A≠LB by have h10:=Rdv.le hRd;have h8:=(Ownv.blk_ge hO (by omega)).1;have h9:=hL1.lt;omega) v).trans hc1);have hL2:=hL1.below hB2;have hR2:=hR1.below hB2;obtain⟨⟨c0,c1,c2,c3,c4,c5,c6⟩,f0,f1,f2,f3,f4,f5,f6⟩:=Blk.seven hL2;obtain⟨⟨d0,d1,d2,d3,d4,d5,d6⟩,g0,g1,g2,g3,g4,g5,g6⟩:=Blk.seven hR2;have HB2:=aq (HB1.o.trans (hB2.mono HB1.o.size));clear hB2)
  | (go_at_call 227;refine(bsearch_any A c V _ hav hRd).mono ?_;rintro e w3 ⟨⟨fnd,rfl⟩,rfl⟩))
 obtain⟨E1,E2,E3⟩:=plan_eqs hC13 hN2 htl1 hsl (by omega) hq.o HLOS.o HFI.o;rw [E1,E2,E3];clear E1 E2 E3;have hF:Blk ((((((((((((w2.setCell ⟨LB,2,none⟩ (.int .i64 (N:Int))).setCell ⟨LB,3,none⟩ (.int .i64 (S:Int))).setCell ⟨LB,5,none⟩ (.int .i64 (Q:Int))).setCell ⟨LB,4,none⟩ (.int .i64 (R:Int))).setCell ⟨LB,6,none⟩ (.int .i64 (F:Int))).setCell ⟨RB,0,none⟩ (.int .i64 (b:Int))).setCell ⟨RB,1,none⟩ (.int .i64 (C:Int))).setCell ⟨RB,2,none⟩ (.int .i64 (N:Int))).setCell ⟨RB,3,none⟩ (.int .i64 (S:Int))).setCell ⟨RB,4,none⟩ (.int .i64 (R:Int))).setCell ⟨RB,5,none⟩ (.int .i64 (Q:Int))).setCell ⟨RB,6,none⟩ (.int .i64 (F:Int))) RB 175 (ints8 [(b:Int),C,N,S,R,Q,F]):=((((((((((((hR2.other hne _ _).other hne _ _).other hne _ _).other hne _ _).other hne _ _).set 0 _).set 1 _).set 2 _).set 3 _).set 4 _).set 5 _).set 6 _)
 have hl1':w.heap.size<=LB:=by rw [HLB.o];omega
 have hr1:w.heap.size<=RB:=by rw [HRB.o];omega
 have hBe:=((((((((((((HB2.o.setCell (p:=⟨LB,2,none⟩) hl1' (.int .i64 (N:Int))).setCell (p:=⟨LB,3,none⟩) hl1' (.int .i64 (S:Int))).setCell (p:=⟨LB,5,none⟩) hl1' (.int .i64 (Q:Int))).setCell (p:=⟨LB,4,none⟩) hl1' (.int .i64 (R:Int))).setCell (p:=⟨LB,6,none⟩) hl1' (.int .i64 (F:Int))).setCell (p:=⟨RB,0,none⟩) hr1 (.int .i64 (b:Int))).setCell (p:=⟨RB,1,none⟩) hr1 (.int .i64 (C:Int))).setCell (p:=⟨RB,2,none⟩) hr1 (.int .i64 (N:Int))).setCell (p:=⟨RB,3,none⟩) hr1 (.int .i64 (S:Int))).setCell (p:=⟨RB,4,none⟩) hr1 (.int .i64 (R:Int))).setCell (p:=⟨RB,5,none⟩) hr1 (.int .i64 (Q:Int))).setCell (p:=⟨RB,6,none⟩) hr1 (.int .i64 (F:Int)))
 have HF:=aq hF;have HBE:=aq hBe;clear hF hBe;generalize ((((((((((((w2.setCell ⟨LB,2,none⟩ (.int .i64 (N:Int))).setCell ⟨LB,3,none⟩ (.int .i64 (S:Int))).setCell ⟨LB,5,none⟩ (.int .i64 (Q:Int))).setCell ⟨LB,4,none⟩ (.int .i64 (R:Int))).setCell ⟨LB,6,none⟩ (.int .i64 (F:Int))).setCell ⟨RB,0,none⟩ (.int .i64 (b:Int))).setCell ⟨RB,1,none⟩ (.int .i64 (C:Int))).setCell ⟨RB,2,none⟩ (.int .i64 (N:Int))).setCell ⟨RB,3,none⟩ (.int .i64 (S:Int))).setCell ⟨RB,4,none⟩ (.int .i64 (R:Int))).setCell ⟨RB,5,none⟩ (.int .i64 (Q:Int))).setCell ⟨RB,6,none⟩ (.int .i64 (F:Int)))=Wf at *;refine bodyPost_ret (v:=.agg (ints8 [(b:Int),C,N,S,R,Q,F]).toArray) ?_ rfl ⟨by rw [HLY.o],HBE.o⟩;rw [results_c rfl];have l1:=res99 HF.o rfl;simp [asAddr,l1,Sem.run_pure]
theorem plan_ok(b:Nat)(w:World)(h1:1<=b)(h2:b<=79560):Calls prog 166 #[.int .i64 b] w (PlPost b w):=by
 by_cases h:b<=6144
 . exact plan_one b w h1 h
 . exact plan_many b w h h2
theorem plan_bad(b:Int)(w:World)(h:b<1\/79560<b):Calls prog 166 #[.int .i64 b] w fun e w'=>e= .panicked (pan 2)/\Below w.heap.size w w':=by
 rcases h with h | h
 . go_enter func166,ntmps166
   go_wp2_with (go_at_call 182;refine(must_bad _ _).mono ?_;rintro e w' ⟨rfl,rfl⟩);simp only [bodyPost];exact⟨trivial,trivial,(Below.refl _ _).alloc (Nat.le_refl _) _⟩
 . have hd:decide (b<=79560)=false:=by simp;omega
   go_enter func166,ntmps166;go_wp2_with (go_at_call 182;refine(must_bad _ _).mono ?_;rintro e w' ⟨rfl,rfl⟩);simp only [bodyPost];exact⟨trivial,trivial,(Below.refl _ _).alloc (Nat.le_refl _) _⟩
theorem caught_idle(p:Addr)(c:Value)(w:World) :
 CallsD prog 164 #[.pointer (some p),c] .returning w fun e u' w'=>e= .returned (.tuple #[])/\u'= .returning/\w'=w:=by
 refine callsD_of_wpS func164 rfl fun c₀ cs hu=>?_;simp only [ntmps164,List.size_toArray,List.length_cons,List.length_nil,Nat.reduceAdd,Nat.reduceSub,Array.replicate_succ,Array.replicate_zero,List.push_toArray,List.append_toArray,List.nil_append,List.cons_append];apply wpS_seq;apply wpS_region;simp [wpOpsS,go_sem,recoverD,hu,Exit.thenS];refine wpS_of_wp ?_;go_wp2;cases c₀;simp_all [bodyPostS,results,results164]
theorem caught_pan63(p:Addr)(caps:Array Value)(e:Int)(w:World)(R:World->Prop)(hcl:Calls prog 165 caps w fun en w'=>en= .returned (.tuple #[])/\R w')(hp:∀ W,R W->(∃ x,W.cell? p=some (.int .i64 x))/\W.frozen? p=false) :
 CallsD prog 164 #[.pointer (some p),.func (.func 165) #[] caps] (.panicking (pan e)) w fun en u' w'=>en= .returned (.tuple #[])/\u'= .panicking [{v:=.iface 30 (.int .i64 e),recovered:=true}]/\∃ W,R W/\w'=W.setCell p (.int .i64 e):=by
 have hta:∀ W:World,(Instr.typeAssert (.iface 30 (.int .i64 e)) 20 30 true).run prog W= .ok (.tuple #[.int .i64 e,.bool true]) W:=fun W=>by kernel_rfl
 have HC:=aq hcl;have HP:=aq hp;clear hcl hp;refine callsD_of_wpS func164 rfl fun c₀ cs hu=>?_;simp only [ntmps164,List.size_toArray,List.length_cons,List.length_nil,Nat.reduceAdd,Nat.reduceSub,Array.replicate_succ,Array.replicate_zero,List.push_toArray,List.append_toArray,List.nil_append,List.cons_append];apply wpS_seq;apply wpS_region;simp [wpOpsS,go_sem,recoverD,hu,pan,Exit.thenS];refine wpS_of_wp ?_;go_wp2_with (go_at_call 165;refine HC.o.mono ?_;rintro en W ⟨rfl,hRW⟩;obtain⟨⟨x,hpc⟩,hpf⟩:=HP.o W hRW);cases c₀;have HRW:=aq hRW;have he:∃ W',R W'/\W.setCell p (.int .i64 e)=W'.setCell p (.int .i64 e):=⟨W,HRW.o,rfl⟩
 have HE:=aq he;clear HP HC hRW he hpc hpf;simp only [bodyPostS];simp_all [results,results164];exact HE.o
theorem caught_pan65(p:Addr)(caps:Array Value)(e:Int)(w:World)(R:World->Prop)(hcl:Calls prog 311 caps w fun en w'=>en= .returned (.tuple #[])/\R w')(hp:∀ W,R W->(∃ x,W.cell? p=some (.int .i64 x))/\W.frozen? p=false) :
 CallsD prog 164 #[.pointer (some p),.func (.func 311) #[] caps] (.panicking (pan e)) w fun en u' w'=>en= .returned (.tuple #[])/\u'= .panicking [{v:=.iface 30 (.int .i64 e),recovered:=true}]/\∃ W,R W/\w'=W.setCell p (.int .i64 e):=by
 have hta:∀ W:World,(Instr.typeAssert (.iface 30 (.int .i64 e)) 20 30 true).run prog W= .ok (.tuple #[.int .i64 e,.bool true]) W:=fun W=>by kernel_rfl
 have HC:=aq hcl;have HP:=aq hp;clear hcl hp;refine callsD_of_wpS func164 rfl fun c₀ cs hu=>?_;simp only [ntmps164,List.size_toArray,List.length_cons,List.length_nil,Nat.reduceAdd,Nat.reduceSub,Array.replicate_succ,Array.replicate_zero,List.push_toArray,List.append_toArray,List.nil_append,List.cons_append];apply wpS_seq;apply wpS_region;simp [wpOpsS,go_sem,recoverD,hu,pan,Exit.thenS];refine wpS_of_wp ?_;go_wp2_with (go_at_call 311;refine HC.o.mono ?_;rintro en W ⟨rfl,hRW⟩;obtain⟨⟨x,hpc⟩,hpf⟩:=HP.o W hRW);cases c₀;have HRW:=aq hRW;have he:∃ W',R W'/\W.setCell p (.int .i64 e)=W'.setCell p (.int .i64 e):=⟨W,HRW.o,rfl⟩
 have HE:=aq he;clear HP HC hRW he hpc hpf;simp only [bodyPostS];simp_all [results,results164];exact HE.o
theorem caught_pan76(p:Addr)(caps:Array Value)(e:Int)(w:World)(R:World->Prop)(hcl:Calls prog 181 caps w fun en w'=>en= .returned (.tuple #[])/\R w')(hp:∀ W,R W->(∃ x,W.cell? p=some (.int .i64 x))/\W.frozen? p=false) :
 CallsD prog 164 #[.pointer (some p),.func (.func 181) #[] caps] (.panicking (pan e)) w fun en u' w'=>en= .returned (.tuple #[])/\u'= .panicking [{v:=.iface 30 (.int .i64 e),recovered:=true}]/\∃ W,R W/\w'=W.setCell p (.int .i64 e):=by
 have hta:∀ W:World,(Instr.typeAssert (.iface 30 (.int .i64 e)) 20 30 true).run prog W= .ok (.tuple #[.int .i64 e,.bool true]) W:=fun W=>by kernel_rfl
 have HC:=aq hcl;have HP:=aq hp;clear hcl hp;refine callsD_of_wpS func164 rfl fun c₀ cs hu=>?_;simp only [ntmps164,List.size_toArray,List.length_cons,List.length_nil,Nat.reduceAdd,Nat.reduceSub,Array.replicate_succ,Array.replicate_zero,List.push_toArray,List.append_toArray,List.nil_append,List.cons_append];apply wpS_seq;apply wpS_region;simp [wpOpsS,go_sem,recoverD,hu,pan,Exit.thenS];refine wpS_of_wp ?_;go_wp2_with (go_at_call 181;refine HC.o.mono ?_;rintro en W ⟨rfl,hRW⟩;obtain⟨⟨x,hpc⟩,hpf⟩:=HP.o W hRW);cases c₀;have HRW:=aq hRW;have he:∃ W',R W'/\W.setCell p (.int .i64 e)=W'.setCell p (.int .i64 e):=⟨W,HRW.o,rfl⟩
 have HE:=aq he;clear HP HC hRW he hpc hpf;simp only [bodyPostS];simp_all [results,results164];exact HE.o
theorem grown_trans{w w1 w2:World}{row:Option Nat}(h1:w.grownBy w1 row)(h2:w1.grownBy w2 row):w.grownBy w2 row :=
 ⟨h2.os.trans h1.os,h2.tape.trans h1.tape,h2.output.trans h1.output,Nat.le_trans h1.size h2.size,fun k hk hne=>(h2.block k (Nat.lt_of_lt_of_le hk h1.size) hne).trans (h1.block k hk hne)⟩
def zero7:List Int:=[0,0,0,0,0,0,0]
theorem planc_any(p:Nat)(xs:List Int)(w:World)(hx:xs.length=7)(h:Blk w p 122 (ints8 xs)):Calls prog 165 #[.pointer (some ⟨p,0,none⟩)] w fun e w'=>e= .returned (.tuple #[])/\(Blk w' p 122 (ints8 zero7)/\w.grownBy w' (some p)):=by
 obtain⟨x0,x1,x2,x3,x4,x5,x6,rfl⟩:∃ x0 x1 x2 x3 x4 x5 x6,xs=[x0,x1,x2,x3,x4,x5,x6]:=by
  match xs,hx with
  | [x0,x1,x2,x3,x4,x5,x6],_=>exact⟨x0,x1,x2,x3,x4,x5,x6,rfl⟩
 obtain⟨⟨d0,d1,d2,d3,d4,d5,d6⟩,g0,g1,g2,g3,g4,g5,g6⟩:=Blk.seven h;go_enter func165,ntmps165;go_wp2;have hF:Blk (((((((w.setCell ⟨p,0,none⟩ (.int .i64 0)).setCell ⟨p,1,none⟩ (.int .i64 0)).setCell ⟨p,2,none⟩ (.int .i64 0)).setCell ⟨p,3,none⟩ (.int .i64 0)).setCell ⟨p,4,none⟩ (.int .i64 0)).setCell ⟨p,5,none⟩ (.int .i64 0)).setCell ⟨p,6,none⟩ (.int .i64 0)) p 122 (ints8 zero7):=((((((h.set 0 _).set 1 _).set 2 _).set 3 _).set 4 _).set 5 _).set 6 _;have hG:w.grownBy (((((((w.setCell ⟨p,0,none⟩ (.int .i64 0)).setCell ⟨p,1,none⟩ (.int .i64 0)).setCell ⟨p,2,none⟩ (.int .i64 0)).setCell ⟨p,3,none⟩ (.int .i64 0)).setCell ⟨p,4,none⟩ (.int .i64 0)).setCell ⟨p,5,none⟩ (.int .i64 0)).setCell ⟨p,6,none⟩ (.int .i64 0)) (some p) :=
  grown_trans (grownBy_set _ _ _ _) (grown_trans (grownBy_set _ _ _ _) (grown_trans (grownBy_set _ _ _ _) (grown_trans (grownBy_set _ _ _ _) (grown_trans (grownBy_set _ _ _ _) (grown_trans (grownBy_set _ _ _ _) (grownBy_set _ _ _ _))))))
 go_end0;exact⟨rfl,hF,hG⟩
theorem lv24{W:World}{b:Nat}{x:Int}(h:W.cell? ⟨b,0,none⟩=some (.int .i64 x)):(loadVar 30 ⟨b,0,none⟩).run prog W= .ok (.int .i64 x) W:=by
 simp [go_sem,h]
theorem plan_top(b:Nat)(w:World)(h1:1<=b)(h2:b<=79560):Calls prog 109 #[.int .i64 b] w fun e w'=>e= .returned (.tuple #[.agg (ints8 (LY b)).toArray,.int .i64 0])/\Below w.heap.size w w':=by
 have hmf:∀ (fn:Fn) (first cap:Array Value) (w:World),(Instr.makeFunc fn first cap).run prog w= .ok (.func fn first cap) w:=fun _ _ _ _=>rfl;go_enter_defers func109,ntmps109;have hR0:Blk ((w.alloc (.cells (ints8 zero7).toArray 122)).alloc (.cells #[.int .i64 0] 30)) w.heap.size 122 (ints8 zero7):=(Blk.new w _ 122 rfl).alloc _;have hE0:Blk ((w.alloc (.cells (ints8 zero7).toArray 122)).alloc (.cells #[.int .i64 0] 30)) (w.heap.size+1) 30 [.int .i64 0]:=Blk.new _ [.int .i64 0] 30 (by simp);have hB0:Below w.heap.size w ((w.alloc (.cells (ints8 zero7).toArray 122)).alloc (.cells #[.int .i64 0] 30)):=((Below.refl _ _).alloc (Nat.le_refl _) _).alloc (by simp) _;simp only [ints8,zero7,List.map_cons,List.map_nil]at hR0 hE0 hB0;go_wp2_with fail;generalize (w.alloc (.cells #[.int .i64 0,.int .i64 0,.int .i64 0,.int .i64 0,.int .i64 0,.int .i64 0,.int .i64 0] 122)).alloc (.cells #[.int .i64 0] 30)=W at *;refine(plan_ok b W h1 h2).mono ?_;rintro e w1 ⟨rfl,hB1⟩;have hR1:=hR0.below hB1;have hE1:=hE0.below hB1;have HB1:=aq (hB0.trans (hB1.mono hB0.size));clear hR0 hE0 hB0 hB1;obtain⟨RB,hRB⟩:∃ RB,RB=w.heap.size:=⟨_,rfl⟩
 obtain⟨EB,hEB⟩:∃ EB,EB=w.heap.size+1:=⟨_,rfl⟩
 rw [<- hEB]at hE1 ⊢;rw [<- hRB]at hR1 ⊢;have hne:RB≠EB:=by omega
 have hne':EB≠RB:=by omega
 have HRB:=aq hRB;have HEB:=aq hEB;clear hRB hEB;obtain⟨⟨d0,d1,d2,d3,d4,d5,d6⟩,g0,g1,g2,g3,g4,g5,g6⟩:=Blk.seven hR1;have e0:=hE1.cell (j:=0) rfl;have e1:=hE1.frozen 0;have hfld:∀ W,(Instr.field 175 (.agg (ints8 (LY b)).toArray) 0).run prog W= .ok (.agg (ints8 (LY b)).toArray) W:=fun _=>by kernel_rfl
 have HLY:=aq (show LY b=[(b:Int),(bC b:Int),(lo b:Int),(sh b:Int),(los b:Int),(shs b:Int),(fi b:Int)] from rfl);unfold LY at hfld ⊢;simp only [ints8,List.map_cons,List.map_nil]at hfld ⊢;generalize (bC b:Int)=x1 at *;generalize (lo b:Int)=x2 at *;generalize (sh b:Int)=x3 at *;generalize (los b:Int)=x4 at *;generalize (shs b:Int)=x5 at *;generalize (fi b:Int)=x6 at *;go_wp2;have hF:Blk ((((((((w1.setCell ⟨RB,0,none⟩ (.int .i64 (b:Int))).setCell ⟨RB,1,none⟩ (.int .i64 x1)).setCell ⟨RB,2,none⟩ (.int .i64 x2)).setCell ⟨RB,3,none⟩ (.int .i64 x3)).setCell ⟨RB,4,none⟩ (.int .i64 x4)).setCell ⟨RB,5,none⟩ (.int .i64 x5)).setCell ⟨RB,6,none⟩ (.int .i64 x6)).setCell ⟨EB,0,none⟩ (.int .i64 0)) RB 122 (ints8 [(b:Int),x1,x2,x3,x4,x5,x6]):=((((((((hR1.set 0 _).set 1 _).set 2 _).set 3 _).set 4 _).set 5 _).set 6 _).other hne' _ _)
 have hE:Blk ((((((((w1.setCell ⟨RB,0,none⟩ (.int .i64 (b:Int))).setCell ⟨RB,1,none⟩ (.int .i64 x1)).setCell ⟨RB,2,none⟩ (.int .i64 x2)).setCell ⟨RB,3,none⟩ (.int .i64 x3)).setCell ⟨RB,4,none⟩ (.int .i64 x4)).setCell ⟨RB,5,none⟩ (.int .i64 x5)).setCell ⟨RB,6,none⟩ (.int .i64 x6)).setCell ⟨EB,0,none⟩ (.int .i64 0)) EB 30 [.int .i64 0]:=((((((((hE1.other hne _ _).other hne _ _).other hne _ _).other hne _ _).other hne _ _).other hne _ _).other hne _ _).set 0 _)
 have hr1:w.heap.size<=RB:=by rw [HRB.o];omega
 have hl1:w.heap.size<=EB:=by rw [HEB.o];omega
 have hBe:=((((((((HB1.o.setCell (p:=⟨RB,0,none⟩) hr1 (.int .i64 (b:Int))).setCell (p:=⟨RB,1,none⟩) hr1 (.int .i64 x1)).setCell (p:=⟨RB,2,none⟩) hr1 (.int .i64 x2)).setCell (p:=⟨RB,3,none⟩) hr1 (.int .i64 x3)).setCell (p:=⟨RB,4,none⟩) hr1 (.int .i64 x4)).setCell (p:=⟨RB,5,none⟩) hr1 (.int .i64 x5)).setCell (p:=⟨RB,6,none⟩) hr1 (.int .i64 x6)).setCell (p:=⟨EB,0,none⟩) hl1 (.int .i64 0))
 have HF:=aq hF;have HE:=aq hE;have HBE:=aq hBe;clear hF hBe hE;generalize ((((((((w1.setCell ⟨RB,0,none⟩ (.int .i64 (b:Int))).setCell ⟨RB,1,none⟩ (.int .i64 x1)).setCell ⟨RB,2,none⟩ (.int .i64 x2)).setCell ⟨RB,3,none⟩ (.int .i64 x3)).setCell ⟨RB,4,none⟩ (.int .i64 x4)).setCell ⟨RB,5,none⟩ (.int .i64 x5)).setCell ⟨RB,6,none⟩ (.int .i64 x6)).setCell ⟨EB,0,none⟩ (.int .i64 0))=Wf at *;refine leaves_cons (f:=164) (args:=#[.pointer (some ⟨EB,0,none⟩),.func (.func 165) #[] #[.pointer (some ⟨RB,0,none⟩)]]) (by simp) (by simp [go_sem]) ?_;refine(caught_idle ⟨EB,0,none⟩ _ _).mono ?_;rintro e u' w'' ⟨rfl,rfl,rfl⟩;have l1:=res23 HF.o rfl;have l2:=lv24 (HE.o.cell (j:=0) rfl);simp [Leaves,settle,results,results109,asAddr,l1,l2,Sem.run_bind,Result.andThen];exact⟨by rw [HLY.o],HBE.o⟩
theorem plan_top_bad(b:Int)(w:World)(h:b<1\/79560<b):Calls prog 109 #[.int .i64 b] w fun e w'=>e= .returned (.tuple #[.agg (ints8 zero7).toArray,.int .i64 2])/\Below w.heap.size w w':=by
 have hmf:∀ (fn:Fn) (first cap:Array Value) (w:World),(Instr.makeFunc fn first cap).run prog w= .ok (.func fn first cap) w:=fun _ _ _ _=>rfl;have HH:=aq h;clear h;go_enter_defers func109,ntmps109;have hR0:Blk ((w.alloc (.cells (ints8 zero7).toArray 122)).alloc (.cells #[.int .i64 0] 30)) w.heap.size 122 (ints8 zero7):=(Blk.new w _ 122 rfl).alloc _;have hE0:Blk ((w.alloc (.cells (ints8 zero7).toArray 122)).alloc (.cells #[.int .i64 0] 30)) (w.heap.size+1) 30 [.int .i64 0]:=Blk.new _ [.int .i64 0] 30 (by simp);have hB0:Below w.heap.size w ((w.alloc (.cells (ints8 zero7).toArray 122)).alloc (.cells #[.int .i64 0] 30)):=((Below.refl _ _).alloc (Nat.le_refl _) _).alloc (by simp) _;simp only [ints8,zero7,List.map_cons,List.map_nil]at hR0 hE0 hB0;go_wp2_with fail;generalize (w.alloc (.cells #[.int .i64 0,.int .i64 0,.int .i64 0,.int .i64 0,.int .i64 0,.int .i64 0,.int .i64 0] 122)).alloc (.cells #[.int .i64 0] 30)=W at *;refine(plan_bad b W HH.o).mono ?_;rintro e w1 ⟨rfl,hB1⟩;have hR1:=hR0.below hB1;have hE1:=hE0.below hB1;have HB1:=aq (hB0.trans (hB1.mono hB0.size));clear hR0 hE0 hB0 hB1;obtain⟨RB,hRB⟩:∃ RB,RB=w.heap.size:=⟨_,rfl⟩
 obtain⟨EB,hEB⟩:∃ EB,EB=w.heap.size+1:=⟨_,rfl⟩
 rw [<- hEB]at hE1 ⊢;rw [<- hRB]at hR1 ⊢;have hne:RB≠EB:=by omega
 have hne':EB≠RB:=by omega
 have hr1:w.heap.size<=RB:=by omega
 have hl1:w.heap.size<=EB:=by omega
 clear hRB hEB;refine leaves_cons (f:=164) (args:=#[.pointer (some ⟨EB,0,none⟩),.func (.func 165) #[] #[.pointer (some ⟨RB,0,none⟩)]]) (by simp) (by simp [go_sem]) ?_;refine(caught_pan63 ⟨EB,0,none⟩ _ 2 _ (fun W=>Blk W RB 122 (ints8 zero7)/\w1.grownBy W (some RB)) (planc_any RB zero7 w1 rfl hR1) (fun W hW=>?_)).mono ?_
 . have hE2:=hE1.grown hW.2 (by intro he;exact hne' (Option.some.inj he))
   exact⟨⟨_,hE2.cell (j:=0) rfl⟩,hE2.frozen 0⟩
 rintro e u' w'' ⟨rfl,rfl,W2,hW2,rfl⟩;have hE2:=hE1.grown hW2.2 (by intro he;exact hne' (Option.some.inj he));have l1:=res23 (hW2.1.other (g:=EB) hne' 0 (.int .i64 2)) rfl;have l2:=lv24 ((hE2.set 0 (.int .i64 2)).cell (j:=0) (v:=.int .i64 2) rfl);have hBe:=(HB1.o.grown hW2.2 HB1.o.size (fun k hk=>by cases hk;exact hr1)).setCell (p:=⟨EB,0,none⟩) hl1 (.int .i64 2);have HBE:=aq hBe;clear hBe hW2 hE2 hE1 hR1;simp [Leaves,settle,results,results109,asAddr,l1,l2,Sem.run_bind,Result.andThen];exact HBE.o
theorem results_ct{fn:Func}{p q:Tmp}{ty:TypeId}(h:fn.results=#[.cell p ty,.tmp q])(tmps:Array Value)(P:Program)(w:World) :
 (results fn tmps).run P w=((asAddr (tmps.getD p undef)).run P w).andThen fun a w₁=>((loadVar ty a).run P w₁).andThen fun v w₂=>.ok (.tuple #[v,tmps.getD q undef]) w₂:=by
 simp only [results,h];simp [Sem.run_bind,Result.andThen]
theorem sz_if(b j:Nat):(sz b j:Int)=if (j:Int)<(shs b:Int) then(sh b:Int) else(lo b:Int):=by
 unfold sz;by_cases h:j<shs b
 . rw [if_pos h,if_pos (by omega)]
 . rw [if_neg h,if_neg (by omega)]
theorem inv2_any(b:Int)(w:World):Calls prog 252 #[.int .u8 b] w fun e w'=>e= .returned (.bool (decide (1<b)))/\w=w':=by
 go_enter func252,ntmps252;go_wp2;go_wp2;go_ret;exact⟨rfl,rfl⟩
theorem idx2_any(A:Option Addr)(n c:Nat)(xs:List Int)(w:World)(h:Rd .u8 w A n c xs) :
 Calls prog 279 #[.slice A n c,.func (.func 252) #[] #[]] w (IdxPost xs w):=by
 have hbd:=h.bd.1;go_enter func279,ntmps279;go_wp2;go_loop [8] (fun i=>IdxInv n xs i) (fun i=>n - (intOf i).toNat)
 case atStart=>exact⟨0,by omega,rfl,by intro q hq;omega⟩
 case round =>
  obtain⟨j,hj,rfl,hv⟩:=hrel;by_cases hlt:j<n
  . have hc:=Rd.cell h hlt
    have hix:=fun W=>Rdv.ix h el53 hlt .i64 W;have HV:=aq hv;clear hv;by_cases h1:gi xs j<=1
    . have h1':decide (1<gi xs j)=false:=by simp;omega
      go_wp2_with (go_at_call 252;refine(inv2_any _ _).mono ?_;rintro e w' ⟨rfl,rfl⟩);go_round
      case rel=>exact⟨j+1,by omega,by go_num,fun q hq=>lt_succ_cases HV.o h1 q hq⟩
      case measure=>simp [intOf];omega
    . have h1':decide (1<gi xs j)=true:=by simp;omega
      have hf:=aq (validB_f (by rw [h.len];exact hlt) (by omega:1<gi xs j));go_wp2_with (go_at_call 252;refine(inv2_any _ _).mono ?_;rintro e w' ⟨rfl,rfl⟩);go_ret;exact⟨_,rfl,by rw [hf.o];simp,rfl⟩
  . have hf:=aq (validB_t (xs:=xs) (by rw [h.len];intro q hq;exact hv q (by omega)))
    go_wp2;go_ret;exact⟨_,rfl,by rw [hf.o];simp,rfl⟩
theorem contains2_any(A:Option Addr)(n c:Nat)(xs:List Int)(w:World)(h:Rd .u8 w A n c xs) :
 Calls prog 218 #[.slice A n c,.func (.func 252) #[] #[]] w fun e w'=>e= .returned (.bool (!ValidB xs))/\w=w':=by
 go_enter func218,ntmps218;go_wp2_with (go_at_call 279;refine(idx2_any A n c xs w h).mono ?_;rintro e w' ⟨r,rfl,hr,rfl⟩);go_ret;refine⟨ret_bool ?_,rfl⟩;cases hv:ValidB xs<;>simp_all
theorem binary_any(A:Option Addr)(n c:Nat)(xs:List Int)(w:World)(h:Rd .u8 w A n c xs) :
 Calls prog 183 #[.slice A n c] w fun e w'=>e= .returned (.bool (ValidB xs))/\w=w':=by
 go_enter func183,ntmps183;go_wp2_with (go_at_call 218;refine(contains2_any A n c xs w h).mono ?_;rintro e w' ⟨rfl,rfl⟩);go_ret;exact⟨ret_bool (by simp),rfl⟩
def No1(xs:List Int):Bool:=xs.all fun x=>x != 1
theorem no1_f{xs:List Int}{j:Nat}(hj:j<xs.length)(h:gi xs j=1):No1 xs=false:=by
 unfold No1;rw [List.all_eq_false];exact⟨gi xs j,gi_mem xs j hj,by simp [h]⟩
theorem no1_t{xs:List Int}(h:∀ j,j<xs.length->gi xs j≠1):No1 xs=true:=by
 unfold No1;rw [all_gi];intro j hj;exact bne_t (h j hj)
def Idx1Post(xs:List Int)(w:World)(e:Ending)(w':World):Prop:=∃ r:Int,e= .returned (.int .i64 r)/\(0<=r↔No1 xs=false)/\w=w'
theorem index1_any(A:Option Addr)(n c:Nat)(xs:List Int)(w:World)(h:Rd .u8 w A n c xs) :
 Calls prog 253 #[.slice A n c,.int .u8 1] w (Idx1Post xs w):=by
 have hbd:=h.bd.1;go_enter func253,ntmps253;go_wp2;go_loop [8] (fun i=>∃ j:Nat,j<=n/\i= .int .i64 j/\∀ q,q<j->gi xs q≠1) (fun i=>n - (intOf i).toNat)
 case atStart=>exact⟨0,by omega,rfl,by intro q hq;omega⟩
 case round =>
  obtain⟨j,hj,rfl,hv⟩:=hrel;by_cases hlt:j<n
  . have hc:=Rd.cell h hlt
    have hix:=fun W=>Rdv.ix h el53 hlt .i64 W;have HV:=aq hv;clear hv;by_cases h1:gi xs j=1
    . have h1':((1:Int) == gi xs j)=true:=beq_t h1.symm
      have hf:=aq (no1_f (by rw [h.len];exact hlt) h1);clear h1;go_wp2;go_ret;exact⟨_,rfl,by rw [hf.o];simp,rfl⟩
    . have h1':((1:Int) == gi xs j)=false:=beq_f (fun e=>h1 e.symm)
      have H1:=aq h1;clear h1;go_wp2;go_round
      case rel=>exact⟨j+1,by omega,by go_num,fun q hq=>lt_succ_cases HV.o H1.o q hq⟩
      case measure=>simp [intOf];omega
  . have hf:=aq (no1_t (xs:=xs) (by rw [h.len];intro q hq;exact hv q (by omega)))
    go_wp2;go_ret;exact⟨_,rfl,by rw [hf.o];simp,rfl⟩
theorem has1_any(A:Option Addr)(n c:Nat)(xs:List Int)(w:World)(h:Rd .u8 w A n c xs) :
 Calls prog 184 #[.slice A n c,.int .u8 1] w fun e w'=>e= .returned (.bool (!No1 xs))/\w=w':=by
 go_enter func184,ntmps184;go_wp2_with (go_at_call 253;refine(index1_any A n c xs w h).mono ?_;rintro e w' ⟨r,rfl,hr,rfl⟩);go_ret;refine⟨ret_bool ?_,rfl⟩;cases hv:No1 xs<;>simp_all
def segB(b:Nat)(d:List Int):List Int:=if b<=6144 then d else d ++ crcSum 2 d
def ScPost(b RB m:Nat)(A:Option Addr)(n c:Nat)(ys:List Int)(W:World)(e:Ending)(w':World):Prop:=∃ A' n' c',e= .returned (.slice A' n' c')/\Own .u8 5 w' W.heap.size A' n' c' (segB b (ys.take m))/\Blk w' RB 53 [.slice (cut A c m) (n - m) (c - m)]/\W.grownBy w' (some RB)
theorem Rdv.slm{w:World}{A:Option Addr}{n c:Nat}{vs:List Value}{P:Program}(h:Rdv w A n c vs){t e:TypeId}{z:Value}{bytes:Nat}(E:El P t e z bytes)(kh km:IntKind){m:Nat}(hm:m<=c)(W:World) :
 (Instr.sliceAt t (.slice A n c) none (some (.int kh (m:Int))) (some (.int km (m:Int)))).run P W= .ok (.slice A m m) W:=by
 have e1:P.underlying t=some (.slice (P.elem t)):=by rw [E.u];simp [Program.elem,E.u]
 have e2:P.elem t=e:=by simp [Program.elem,E.u]
 rw [run_sliceAt_slice W t _ _ _ _ e1,run_slice_hm W t A n c e1 kh km m m (by omega) (by omega) (by omega),e2,E.s];simp only [Result.andThen_ok,Int.toNat_natCast,sliced,Nat.zero_mul,Nat.sub_zero];congr 2;split
 . rfl
 . cases A<;>simp [Addr.add]
theorem Rdv.capped{w:World}{A:Option Addr}{n c:Nat}{vs:List Value}(h:Rdv w A n c vs){m:Nat}(hm:m<=n):Rdv w A m m (vs.take m):=by
 have h1:=h.upto hm;have h2:=h.le;have h3:=h.cm;exact⟨h1.len,Nat.le_refl _,by omega,fun hA=>by have:=h.nil hA;omega,fun hc=>h.spot (by omega),fun hc=>h.lt (by omega),h1.at_⟩
theorem Rd.capped{w:World}{k:IntKind}{A:Option Addr}{n c:Nat}{xs:List Int}(h:Rd k w A n c xs){m:Nat}(hm:m<=n):Rd k w A m m (xs.take m):=by
 have:=Rdv.capped h hm;unfold Rd;rwa [List.map_take]
theorem own_ne_blk{w:World}{B:Nat}{t e:TypeId}{cs:List Value}{base:Nat}{A:Option Addr}{n c:Nat}{vs:List Value}(hB:Blk w B t cs)(hO:Ownv e w base A n c vs)(ht:t≠e)(hA:A≠none):blk A≠B:=by
 intro h;obtain⟨hl,h2⟩:=hO.cases;rcases h2 with⟨rfl,rfl,rfl⟩ | ⟨g,cur,rfl,hb,hh,_⟩
 . exact hA rfl
 . have e1:g=B:=h
   subst e1;have h1:w.heap[g]?=some (.cells cs.toArray t (0,0)):=hB;rw [h1]at hh;injection hh with hh
   injection hh with _ h9
   exact ht h9
theorem own_set_blk{w:World}{B:Nat}{t e:TypeId}{cs:List Value}{base:Nat}{A:Option Addr}{n c:Nat}{vs:List Value}(hB:Blk w B t cs)(hO:Ownv e w base A n c vs)(ht:t≠e)(j:Nat)(v:Value):Ownv e (w.setCell ⟨B,j,none⟩ v) base A n c vs :=
 hO.grown (grownBy_set w B j v) (fun hA he=>own_ne_blk hB hO ht hA (Option.some.inj he))
theorem grownBy_below{w w1 w2:World}{row:Option Nat}(h1:Below w.heap.size w w1)(h2:w1.grownBy w2 row):w.grownBy w2 row :=
 ⟨h2.os.trans h1.os,h2.tape.trans h1.tape,h2.output.trans h1.output,Nat.le_trans h1.size h2.size,fun k hk hne=>(h2.block k (Nat.lt_of_lt_of_le hk h1.size) hne).trans (h1.block k hk)⟩
theorem grownBy_then{w w1 w2:World}{row:Option Nat}(h1:w.grownBy w1 row)(h2:Below w1.heap.size w1 w2):w.grownBy w2 row :=
 ⟨h2.os.trans h1.os,h2.tape.trans h1.tape,h2.output.trans h1.output,Nat.le_trans h1.size h2.size,fun k hk hne=>(h2.block k (Nat.lt_of_lt_of_le hk h1.size)).trans (h1.block k hk hne)⟩
theorem splitc_any(b i LB RB m:Nat)(A:Option Addr)(n c:Nat)(ys:List Int)(W:World)(h1:1<=b)(h2:b<=79560)(hi:i<bC b)(hm:m+ck b=sz b i)
 (hL:Blk W LB 175 (ints8 (LY b))) (hR:Blk W RB 53 [.slice A n c]) (hy:Rd .u8 W A n c ys) (hn:m<=n) (hn2:n<=100000) (hv:ValidB ys=true) :
 Calls prog 313 #[.int .i64 i,.pointer (some ⟨LB,0,none⟩),.pointer (some ⟨RB,0,none⟩)] W (ScPost b RB m A n c ys W):=by
 have hsz:=sz_if b i;have hck:((ck b:Nat):Int)=if 1<(bC b:Int) then 24 else 0:=by
  unfold ck bC;split
  . rfl
  . rw [if_pos (by omega)];rfl
 have hck2:ck b=0\/ck b=24:=by unfold ck;split<;>simp
 have HCK:=aq (show ck b=0↔b<=6144 by unfold ck;split<;>simp_all);have hszu:=(sz_ge (i:=i) h1).2;have HSZ:=aq hsz;have HCK1:=aq hck;clear hsz hck;have hB:=bC_le h2;generalize sz b i=Z at *;generalize hkk:ck b=k at *;unfold LY at hL;generalize (lo b:Int)=N at *;generalize (sh b:Int)=S at *;generalize (los b:Int)=R at *;generalize (shs b:Int)=Q at *;generalize (fi b:Int)=F at *;obtain⟨⟨c0,c1,c2,c3,c4,c5,c6⟩,-⟩:=Blk.seven hL;go_enter func313,ntmps313;go_wp2_with fail;go_region_held3 (fun W'=>W'.cell? ⟨LB,0,none⟩=some (.int .i64 b)/\W'.cell? ⟨LB,1,none⟩=some (.int .i64 (bC b:Int))/\W'.cell? ⟨LB,2,none⟩=some (.int .i64 N)/\W'.cell? ⟨LB,3,none⟩=some (.int .i64 S)/\W'.cell? ⟨LB,4,none⟩=some (.int .i64 R)/\W'.cell? ⟨LB,5,none⟩=some (.int .i64 Q)/\W'.cell? ⟨LB,6,none⟩=some (.int .i64 F))
  (first | exact⟨c0,c1,c2,c3,c4,c5,c6⟩ | exact(Blk.seven (Blk.below (Blk.below (Blk.drew hL) hBa) hBb)).1 | exact(Blk.seven (Blk.below (Blk.below (Blk.drew hL) hBb) hBa)).1 | exact(Blk.seven (Blk.below (Blk.drew hL) hBa)).1 | exact(Blk.seven (Blk.below (Blk.drew hL) hBb)).1)
  (first
    | (go_at_call 111;refine(size_any _ _ _ _ _ _ _ _ _).mono ?_;rintro e wa ⟨he,hBa⟩;rw [<- HSZ.o]at he;subst he)
    | (go_at_call 185;refine(check_lay _ _ _ _ _ _ _ _).mono ?_;rintro e wb ⟨he,hBb⟩;rw [<- HCK1.o]at he;subst he))
 have hBl:Below W.heap.size W wb:=((Below.refl _ W).drew.trans hBa).trans (hBb.mono hBa.size);have hL2:=hL.below hBl;have hR2:=hR.below hBl;have hy2:=Rdv.below hy hBl;have HBL:=aq hBl;have hRne:LB≠RB:=by
  intro e;have h3:W.heap[LB]?=_:=hL;have h4:W.heap[RB]?=_:=hR;rw [e,h4]at h3;injection h3 with h3
  injection h3 with _ h9
  exact absurd h9 (by decide)
 have hRne':RB≠LB:=hRne.symm;have hrl:=hR.lt;clear hBl hBa hBb c0 c1 c2 c3 c4 c5 c6;have hw0:IntKind.i64.wrap ((Z:Int) - k)=m:=by rw [IntKind.wrap_i64];omega
 rw [hw0];clear hw0;have hcc:=Rdv.le hy;have r0:=hR2.cell (j:=0) rfl;have s1:=fun W=>Rdv.slm hy2 el53 .i64 .i64 (m:=m) (by omega) W;have s2:=fun W=>Rdv.sll hy2 el53 .i64 hn W;have hcl:=aq (clone_any A m m (ys.take m) wb (Rd.capped hy2 hn) (by omega));have hvt:=aq (validB_take m hv);go_wp2_with (go_at_call 190;refine hcl.o.mono ?_;rintro e w3 ⟨A3,c3',rfl,hO3,hB3⟩;have hR3:=hR2.below hB3;have r3:=hR3.cell (j:=0) rfl;have rf3:=hR3.frozen 0;have hL3:=(hL2.below hB3).other hRne' 0 (.slice (cut A c m) (n - m) (c - m));obtain⟨⟨c0,c1,c2,c3,c4,c5,c6⟩,-⟩:=Blk.seven hL3;have HB3:=aq (HBL.o.trans (hB3.mono HBL.o.size));have HR3:=aq (hR3.set 0 (.slice (cut A c m) (n - m) (c - m)));have HO3:=aq hO3;have HZ3:=aq hB3.size;clear hO3 hB3 hcl);have HO4:=aq (own_set_blk hR3 HO3.o (by decide) 0 (.slice (cut A c m) (n - m) (c - m)));have HG4:=aq (grownBy_below HB3.o (grownBy_set w3 RB 0 (.slice (cut A c m) (n - m) (c - m))));clear r0 s1 s2 hR2 hL2 hy2 hL hR hR3 r3 rf3 HB3 HO3;generalize w3.setCell ⟨RB,0,none⟩ (.slice (cut A c m) (n - m) (c - m))=W4 at *;refine(check_lay _ _ _ _ _ _ _ _).mono ?_;rintro e w5 ⟨he,hB5⟩;rw [<- HCK1.o]at he;subst he;have HG5:=aq (grownBy_then HG4.o hB5);have HO5:=aq (Ownv.below HO4.o hB5);have HR5:=aq (HR3.o.below hB5);clear hB5 HG4 HO4 HR3 hL3 c0 c1 c2 c3 c4 c5 c6;rcases hck2 with rfl | rfl
 . have hb:=HCK.o.1 rfl
   go_wp2;go_ret;refine⟨A3,m,c3',rfl,?_,HR5.o,HG5.o⟩;unfold segB;rw [if_pos hb];exact Ownv.mono HO5.o HBL.o.size
 . have hb:¬ b<=6144:=fun h9=>by have:=HCK.o.2 h9;cases this
   have hat:=aq (attach_any 2 A3 m c3' (ys.take m) w5 (Own.rd HO5.o) (by omega));have e1:cErr 2 (ys.take m)=0:=by unfold cErr;rw [if_neg (by decide),if_pos hvt.o]
   have e2:aRes 2 (ys.take m)=ys.take m ++ crcSum 2 (ys.take m):=by unfold aRes;rw [if_neg (by decide),if_pos hvt.o]
   rw [e1,e2]at hat;clear e1 e2;go_wp2_with (first
    | (go_at_call 273;refine hat.o.mono ?_;rintro e w6 ⟨A6,n6,c6,rfl,hO6,hB6⟩;have HO6:=aq hO6;have HB6:=aq hB6;clear hO6 hB6)
    | (go_at_call 182;refine(must_ok _ _).mono ?_;rintro e w' ⟨rfl,rfl⟩))
   go_ret;refine⟨A6,n6,c6,rfl,?_,HR5.o.below HB6.o,grownBy_then HG5.o HB6.o⟩;unfold segB;rw [if_neg hb];exact Ownv.mono HO6.o HG5.o.size
end Go.Proofs.YthmhogdceolkdaaGreat.Cr