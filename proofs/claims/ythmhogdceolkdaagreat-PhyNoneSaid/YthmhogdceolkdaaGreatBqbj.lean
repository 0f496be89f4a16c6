/- Bundle. Conditions: none. -/
import Derived.Test.YthmhogdceolkdaaGreatBqbi
import Derived.Test.YthmhogdceolkdaaGreatBqaz
set_option linter.unusedVariables false
set_option linter.unusedSimpArgs false
namespace Go.Proofs.YthmhogdceolkdaaGreat
open Tryz
open Go.RowKit
attribute [local go_sem] Oper.semAt_some
set_option maxRecDepth 100000
set_option maxHeartbeats 4000000
def c5(a b c d e:Int):List Value:=[.int .i64 a,.int .i64 b,.int .i64 c,.int .i64 d,.int .i64 e]
def c8(a b c d e f g:Int)(h:Bool):List Value:=[.int .i64 a,.int .i64 b,.int .i64 c,.int .i64 d,.int .i64 e,.int .i64 f,.int .i64 g,.bool h]
def c14(a b c d e f g:Int)(h:Bool)(i j k l m n:Int):List Value:=[.int .i64 a,.int .i64 b,.int .i64 c,.int .i64 d,.int .i64 e,.int .i64 f,.int .i64 g,.bool h,.int .i64 i,.int .i64 j,.int .i64 k,.int .i64 l,.int .i64 m,.int .u32 n]
def okG(B c k:Int):Bool:=decide (6<=B/\B<=100) && (decide (1<=c/\c<=3) && decide (0<=k/\k<=503))
def ckG(B c k:Int):Int:=if okG B c k=true then 0 else 2
theorem gcheck_any(B c k:Int)(w:World):Calls prog 51 #[.agg #[.int .i64 B,.int .i64 c,.int .i64 k]] w fun e w'=>e= .returned (.int .i64 (ckG B c k))/\Below w.heap.size w w':=by
 have HC:=aq (Blk.new w [.int .i64 B,.int .i64 c,.int .i64 k] 23 rfl);have HB:=aq (bal (Below.refl w.heap.size w) (.cells #[.int .i64 B,.int .i64 c,.int .i64 k] 23));go_enter func51,ntmps51;go_wp2_with fail;obtain⟨CB,hCB⟩:∃ CB,CB=w.heap.size:=⟨_,rfl⟩
 rw [<- hCB]at HC ⊢;generalize w.alloc (.cells #[.int .i64 B,.int .i64 c,.int .i64 k] 23)=w1 at *;clear hCB;have HS:=aq HC.o.drew;obtain⟨d1,hd1⟩:∃ d,d=decide (6<=B/\B<=100):=⟨_,rfl⟩
 obtain⟨d2,hd2⟩:∃ d,d=decide (1<=c/\c<=3):=⟨_,rfl⟩
 obtain⟨d3,hd3⟩:∃ d,d=decide (0<=k/\k<=503):=⟨_,rfl⟩
 have HOK:Hid (okG B c k=(d1 && (d2 && d3))):=aq (by unfold okG;rw [hd1,hd2,hd3]);have HD1:=aq (fun W=>btw_any B 6 100 W);have HD2:=aq (fun W=>btw_any c 1 3 W);have HD3:=aq (fun W=>btw_any k 0 503 W);rw [<- hd1]at HD1;rw [<- hd2]at HD2;rw [<- hd3]at HD3;clear hd1 hd2 hd3
 have HALL:=aq (gall_any (some ⟨w1.drew.heap.size,0,none⟩) 3 3 [d1,d2,d3] (w1.drew.alloc (.cells #[.bool d1,.bool d2,.bool d3] 4)) (by
  have:=(Ownv.lit (base:=0) w1.drew #[.bool d1,.bool d2,.bool d3] 4 rfl (Nat.zero_le _) (by show 3<=maxLen;unfold maxLen;omega)).rd
  simpa using this))
 have hOKF:(Value.bool (!d1 || (!d2 || !d3)))= .bool (!okG B c k):=by rw [HOK.o];cases d1<;>cases d2<;>cases d3<;>rfl
 have HOKF:=aq hOKF;clear hOKF;go_cut [14] from 3 to 14 (fun v wx=>v= .bool (!okG B c k)/\Below w1.heap.size w1 wx)
 case first =>
  refine Q_start (fun W9=>Blk W9 CB 23 [.int .i64 B,.int .i64 c,.int .i64 k]) 9 12 ?_;have HBd:Hid (Below w1.heap.size w1 w1.drew):=aq ((Below.refl _ w1).drew);generalize w1.drew=wd at *;refine Q_W 0 3 1 (.pointer (some ⟨CB,0,none⟩)) rfl HS.o ?_;simp only [z0,z1,z2];refine Q_T 1 4 3 (.int .i64 B) [2] rfl HS.o (.inl ⟨by rfl,fun W hS=>by have s0:=Blk.cell hS (j:=0) (v:=.int .i64 B) rfl;go_simp⟩) ?_;simp only [z0,z1,z2];refine Q_W 3 6 11 (.pointer (some ⟨CB,1,none⟩)) rfl HS.o ?_;simp only [z0,z1,z2];refine Q_T 4 7 27 (.int .i64 c) [5] rfl HS.o (.inl ⟨by rfl,fun W hS=>by have s0:=Blk.cell hS (j:=1) (v:=.int .i64 c) rfl;go_simp⟩) ?_;simp only [z0,z1,z2];refine Q_W 6 9 91 (.pointer (some ⟨CB,2,none⟩)) rfl HS.o ?_;simp only [z0,z1,z2];refine Q_T 7 10 219 (.int .i64 k) [8] rfl HS.o (.inl ⟨by rfl,fun W hS=>by have s0:=Blk.cell hS (j:=2) (v:=.int .i64 k) rfl;go_simp⟩) ?_;simp only [z0,z1,z2];refine Q_1S 2 223 rfl (fun K hK=>?_);go_simp;refine(HD1.o _).mono ?_;rintro e wx ⟨rfl,hwx⟩;rw [<- hwx];clear hwx;refine hK _ _ HS.o ?_;clear hK K;refine Q_1S 5 255 rfl (fun K hK=>?_);go_simp;refine(HD2.o _).mono ?_;rintro e wx ⟨rfl,hwx⟩;rw [<- hwx];clear hwx;refine hK _ _ HS.o ?_;clear hK K;refine Q_1S 8 511 rfl (fun K hK=>?_);go_simp;refine(HD3.o _).mono ?_;rintro e wx ⟨rfl,hwx⟩;rw [<- hwx];clear hwx;refine hK _ _ HS.o ?_;clear hK K;refine Q_1 9 1023 rfl (fun K hK=>?_);go_simp;refine hK _ _ ?_;clear hK K;refine Q_1 10 2047 rfl (fun K hK=>?_);go_simp;refine HALL.o.mono ?_;rintro e wx ⟨rfl,hwx⟩;rw [<- hwx];clear hwx;refine hK _ _ ?_;clear hK K;refine Q_1 11 4095 rfl (fun K hK=>?_);go_simp;refine hK _ _ ?_;clear hK K;refine Q_end ?_;go_wp2_with fail;go_meet;exact⟨HOKF.o,HBd.o.alloc HBd.o.size _⟩
 case rest =>
  obtain⟨rfl,hB⟩:=hcut;have HB2:=aq (HB.o.trans (hB.mono HB.o.size));clear hB;cases hok:okG B c k with
  | true =>
    have hE:ckG B c k=0:=by unfold ckG;rw [hok];rfl
    go_wp2;go_ret;exact⟨by rw [hE];rfl,HB2.o⟩
  | false =>
    have hE:ckG B c k=2:=by unfold ckG;rw [hok];rfl
    go_wp2;go_ret;exact⟨by rw [hE];rfl,HB2.o⟩
theorem infoSh:(prog.info? 63).map (·.size)=some 3:=by kernel_rfl
theorem gsize_any(B c k:Int)(w:World)(hB:0<=B/\B<=100):Calls prog 82 #[.agg #[.int .i64 B,.int .i64 c,.int .i64 k]] w fun e w'=>e= .returned (.int .i64 (168*B))/\Below w.heap.size w w':=by
 have hC:=Blk.new w [.int .i64 B,.int .i64 c,.int .i64 k] 63 rfl;have HB:=aq (bal (Below.refl w.heap.size w) (.cells #[.int .i64 B,.int .i64 c,.int .i64 k] 63));have HW:=aq (fun W=>width_any B c k W hB);obtain⟨h1,h2⟩:=hB;go_enter func82,ntmps82;go_wp2_with (refine ldrow (cs:=[.int .i64 B,.int .i64 c,.int .i64 k]) rfl 63 (.tmp 1) rfl rfl hC _ underlying63 rfl (by rw [infoSh];rfl) ?_);refine(HW.o _).mono ?_;rintro e w1 ⟨rfl,hB1⟩;have HB1:=aq (HB.o.trans (hB1.mono HB.o.size));have e1:14*(12*B)=168*B:=by omega
 clear hB1 hC;go_wp2;go_ret;exact⟨by first | rfl | (simp;omega),HB1.o⟩
theorem infoRw:(prog.info? 223).map (·.size)=some 8:=by kernel_rfl
theorem rows_any(w:World):Calls prog 160 #[] w fun e w'=>e= .returned (.agg #[.int .i64 0,.int .i64 0,.int .i64 4,.int .i64 3,.int .i64 7,.int .i64 0,.int .i64 11,.int .i64 3])/\Below w.heap.size w w':=by
 have hC:=Blk.new w [.int .i64 0,.int .i64 0,.int .i64 4,.int .i64 3,.int .i64 7,.int .i64 0,.int .i64 11,.int .i64 3] 223 rfl;have HB:=aq (bal (Below.refl w.heap.size w) (.cells #[.int .i64 0,.int .i64 0,.int .i64 4,.int .i64 3,.int .i64 7,.int .i64 0,.int .i64 11,.int .i64 3] 223));go_enter func160,ntmps160;go_wp2;have l1:(loadVar 223 ⟨w.heap.size,0,none⟩).run prog (w.alloc (.cells #[.int .i64 0,.int .i64 0,.int .i64 4,.int .i64 3,.int .i64 7,.int .i64 0,.int .i64 11,.int .i64 3] 223))= .ok (.agg #[.int .i64 0,.int .i64 0,.int .i64 4,.int .i64 3,.int .i64 7,.int .i64 0,.int .i64 11,.int .i64 3]) _:=run_loadVar_row (P:=prog) _ _ 223 223 _ (0,0) _ hC underlying223 rfl (by rw [infoRw];rfl);refine bodyPost_ret (v:=.agg #[.int .i64 0,.int .i64 0,.int .i64 4,.int .i64 3,.int .i64 7,.int .i64 0,.int .i64 11,.int .i64 3]) ?_ rfl ⟨rfl,HB.o⟩;rw [results_c rfl];simp [asAddr,l1,Sem.run_pure]
def rwS(p:Nat):Nat:=[0,4,7,11].getD p 0
def rwO(p:Nat):Nat:=[0,3,0,3].getD p 0
def rfP(k:Int)(q m p:Nat):Bool:=rwS p == q && decide (((m:Int) - k - rwO p).tmod 6=0)
def rfG(k:Int)(q m:Nat):Bool:=rfP k q m 0 || rfP k q m 1 || rfP k q m 2 || rfP k q m 3
def kdG(c k:Int)(q m:Nat):Int:=if rfG k q m=true then 1 else if (q:Int)<c then 2 else 3
theorem rfG_t{k:Int}{q m p:Nat}(h:rfP k q m p=true)(hp:p<4):rfG k q m=true:=by
 unfold rfG;rcases (by omega:p=0\/p=1\/p=2\/p=3) with rfl | rfl | rfl | rfl<;>simp [h]
theorem rfG_f{k:Int}{q m:Nat}(h:∀ p,p<4->rfP k q m p=false):rfG k q m=false:=by
 unfold rfG;rw [h 0 (by omega),h 1 (by omega),h 2 (by omega),h 3 (by omega)];rfl
def RW8:Value:=.agg #[.int .i64 0,.int .i64 0,.int .i64 4,.int .i64 3,.int .i64 7,.int .i64 0,.int .i64 11,.int .i64 3]
theorem rw_ix0(W:World):(Instr.index 223 RW8 (.int .i64 0)).run prog W= .ok (.agg #[.int .i64 0,.int .i64 0]) W:=by kernel_rfl
theorem rw_ix1(W:World):(Instr.index 223 RW8 (.int .i64 1)).run prog W= .ok (.agg #[.int .i64 4,.int .i64 3]) W:=by kernel_rfl
theorem rw_ix2(W:World):(Instr.index 223 RW8 (.int .i64 2)).run prog W= .ok (.agg #[.int .i64 7,.int .i64 0]) W:=by kernel_rfl
theorem rw_ix3(W:World):(Instr.index 223 RW8 (.int .i64 3)).run prog W= .ok (.agg #[.int .i64 11,.int .i64 3]) W:=by kernel_rfl
theorem kind_any(B i:Nat)(c k:Int)(w:World)(hB:6<=B/\B<=100)(hk:0<=k/\k<=503)(hi:i<168*B):Calls prog 102 #[.agg #[.int .i64 (B:Int),.int .i64 c,.int .i64 k],.int .i64 (i:Int)] w fun e w'=>e= .returned (.int .i64 (kdG c k (i / (12*B)) (i % (12*B))))/\Below w.heap.size w w':=by
 have HS0:=aq (Blk.new w [.int .i64 (B:Int),.int .i64 c,.int .i64 k] 63 rfl);have HB0:=aq (bal (Below.refl w.heap.size w) (.cells #[.int .i64 (B:Int),.int .i64 c,.int .i64 k] 63));have HW:=aq (fun W=>width_any (B:Int) c k W (by omega));obtain⟨q,hqd⟩:∃ q:Nat,q=i / (12*B):=⟨_,rfl⟩
 obtain⟨m,hmd⟩:∃ m:Nat,m=i % (12*B):=⟨_,rfl⟩
 have hq:(i:Int).tdiv (12*(B:Int))=(q:Int):=by rw [hqd,Int.tdiv_eq_ediv_of_nonneg (by omega)];push_cast;rfl
 have hm:(i:Int).tmod (12*(B:Int))=(m:Int):=by rw [hmd,Int.tmod_eq_emod_of_nonneg (by omega)];push_cast;rfl
 have hqb:q<14:=by rw [hqd];exact Nat.div_lt_of_lt_mul (by omega)
 have hmb:m<12*B:=by rw [hmd];exact Nat.mod_lt _ (by omega)
 have wq:IntKind.i64.wrap (q:Int)=q:=IntWalk.i64_in _ (by omega);rw [<- hqd,<- hmd];clear hqd hmd;have hz:(12*(B:Int) == 0)=false:=beq_f (by omega);have hz2:¬ 12*(B:Int)=0:=by omega
 go_enter func102,ntmps102;go_wp2_with fail;obtain⟨SB,hSB⟩:∃ SB,SB=w.heap.size:=⟨_,rfl⟩
 rw [<- hSB]at HS0 ⊢;clear hSB;generalize w.alloc (.cells #[.int .i64 (B:Int),.int .i64 c,.int .i64 k] 63)=w1 at *;have HS:=aq HS0.o.drew;have HB1:Hid (Below w.heap.size w w1.drew):=aq HB0.o.drew;go_cut [5,6] from 9 to 16 (fun v5 v6 wx=>v5= .int .i64 (q:Int)/\v6= .int .i64 (m:Int)/\Blk wx SB 63 [.int .i64 (B:Int),.int .i64 c,.int .i64 k]/\Below w.heap.size w wx)
 case first =>
  refine Q_start (fun W9=>Blk W9 SB 63 [.int .i64 (B:Int),.int .i64 c,.int .i64 k]) 6 10 ?_;refine Q_W 0 9 1 (.int .i64 (i:Int)) rfl HS.o ?_;simp only [z0,z1,z2];refine Q_W 4 13 17 (.int .i64 (i:Int)) rfl HS.o ?_;simp only [z0,z1,z2];refine Q_T 1 10 19 (.agg #[.int .i64 (B:Int),.int .i64 c,.int .i64 k]) [2] rfl HS.o (yieldsIf_load_mid rfl 63 (.tmp 2) rfl SB (0) rfl [.int .i64 (B:Int),.int .i64 c,.int .i64 k] _ (fun W hS=>fun q v hv=>by rw [Nat.zero_add];exact Blk.cell hS hv) underlying63 rfl (by rw [infoSh];rfl)) ?_;simp only [z0,z1,z2];refine Q_T 5 14 51 (.agg #[.int .i64 (B:Int),.int .i64 c,.int .i64 k]) [] rfl HS.o (yieldsIf_load_mid rfl 63 (.tmp 2) rfl SB (0) rfl [.int .i64 (B:Int),.int .i64 c,.int .i64 k] _ (fun W hS=>fun q v hv=>by rw [Nat.zero_add];exact Blk.cell hS hv) underlying63 rfl (by rw [infoSh];rfl)) ?_;simp only [z0,z1,z2];refine Q_1S 2 55 rfl (fun K hK=>?_);go_simp;refine(HW.o _).mono ?_;rintro e w2 ⟨rfl,hB2⟩;have HS2:=aq (HS.o.below hB2);have HB2:=aq (HB1.o.trans (hB2.mono HB1.o.size));clear hB2;refine hK _ _ HS2.o ?_;clear hK K;refine Q_W 3 12 63 (.int .i64 (q:Int)) rfl HS2.o ?_ (hy:=(.inl ⟨by rfl,fun _ _=>by go_simp⟩));simp only [z0,z1,z2];refine Q_1 6 127 rfl (fun K hK=>?_);go_simp;refine(HW.o _).mono ?_;rintro e w3 ⟨rfl,hB3⟩;have HS3:=aq (HS2.o.below hB3);have HB3:=aq (HB2.o.trans (hB3.mono HB2.o.size));clear hB3;refine hK _ _ ?_;clear hK K;refine Q_X 7 16 255 (.int .i64 (m:Int)) rfl ?_;simp only [z0,z1,z2];refine Q_1 8 511 rfl (fun K hK=>?_);go_simp;refine hK _ _ ?_;clear hK K;refine Q_1 9 1023 rfl (fun K hK=>?_);go_simp;refine hK _ _ ?_;clear hK K;refine Q_end ?_;go_wp2_with fail;go_meet;exact⟨rfl,rfl,HS3.o,HB3.o⟩
 case rest =>
  obtain⟨rfl,rfl,hS,hB⟩:=hcut;have HSr:=aq hS;have HBr:=aq hB;clear hS hB;have HR:=aq (fun W=>rows_any W);go_wp2_with fail;refine(HR.o _).mono ?_;rintro e w4 ⟨rfl,hB4⟩;have HS4:=aq (HSr.o.below hB4);have HB4:=aq (HBr.o.trans (hB4.mono HBr.o.size));clear hB4;go_wp2_with fail;go_loopw [18] (fun v wr=>∃ j:Nat,j<=4/\v= .int .i64 (j:Int)/\(∀ p,p<j->rfP k q m p=false)/\Blk wr SB 63 [.int .i64 (B:Int),.int .i64 c,.int .i64 k]/\Below w.heap.size w wr) (fun i _=>4 - (intOf i).toNat)
  case atStart=>exact⟨0,by omega,rfl,(by intro p hp;omega),HS4.o,HB4.o⟩
  case round =>
   obtain⟨j,hj,rfl,hv,hS5,hB5⟩:=hrel;have HS5:=aq hS5;have HB5:=aq hB5;have HV:=aq hv;clear hS5 hB5 hv;by_cases hlt:j<4
   . rcases (by omega:j=0\/j=1\/j=2\/j=3) with rfl | rfl | rfl | rfl
     . have c2:=Blk.cell (HS5.o.alloc (.cells #[.int .i64 0,.int .i64 0] 222)) (j:=2) (v:=.int .i64 k) rfl
       have HS6:=aq (HS5.o.alloc (.cells #[.int .i64 0,.int .i64 0] 222));have HB6:=aq (bal HB5.o (.cells #[.int .i64 0,.int .i64 0] 222));have ix:∀ W,_:=fun W=>rw_ix0 W;unfold RW8 at ix;have w1:IntKind.i64.wrap ((m:Int) - k)=(m:Int) - k:=IntWalk.i64_in _ (by omega);have w2:IntKind.i64.wrap ((m:Int) - k)=(m:Int) - k:=IntWalk.i64_in _ (by omega);by_cases hqj:q=0
       . subst hqj
         by_cases ht:((m:Int) - k).tmod 6=0
         . have ht2:((m:Int) - k - (rwO 0:Nat)).tmod 6=0:=by simpa [rwO] using ht
           have HE:Hid (kdG c k 0 m=1):=aq (by unfold kdG;rw [rfG_t (p:=0) (by unfold rfP;exact decide_eq_true ht2) (by omega)];rfl);go_wp2;go_ret;exact⟨by rw [HE.o];rfl,HB6.o⟩
         . have ht2:¬ ((m:Int) - k - (rwO 0:Nat)).tmod 6=0:=by simpa [rwO] using ht
           have HE:Hid (rfP k 0 m 0=false):=aq (by unfold rfP;exact decide_eq_false ht2);go_wp2;go_roundw
           case rel=>exact⟨0+1,by omega,by go_num,(fun p hp=>by
            rcases Nat.lt_succ_iff_lt_or_eq.1 hp with h1 | rfl
            . exact HV.o p h1
            . exact HE.o),HS6.o,HB6.o⟩
           case measure=>simp [intOf]
       . have hqj2:¬ (0:Int)=(q:Int):=by omega
         have HE:Hid (rfP k q m 0=false):=aq (by unfold rfP;rw [show (rwS 0 == q)=false from beq_false_of_ne (fun e=>hqj e.symm)];rfl);go_wp2;go_roundw
         case rel=>exact⟨0+1,by omega,by go_num,(fun p hp=>by
          rcases Nat.lt_succ_iff_lt_or_eq.1 hp with h1 | rfl
          . exact HV.o p h1
          . exact HE.o),HS6.o,HB6.o⟩
         case measure=>simp [intOf]
     . have c2:=Blk.cell (HS5.o.alloc (.cells #[.int .i64 4,.int .i64 3] 222)) (j:=2) (v:=.int .i64 k) rfl
       have HS6:=aq (HS5.o.alloc (.cells #[.int .i64 4,.int .i64 3] 222));have HB6:=aq (bal HB5.o (.cells #[.int .i64 4,.int .i64 3] 222));have ix:∀ W,_:=fun W=>rw_ix1 W;unfold RW8 at ix;have w1:IntKind.i64.wrap ((m:Int) - k)=(m:Int) - k:=IntWalk.i64_in _ (by omega);have w2:IntKind.i64.wrap ((m:Int) - k - 3)=(m:Int) - k - 3:=IntWalk.i64_in _ (by omega);by_cases hqj:q=4
       . subst hqj
         by_cases ht:((m:Int) - k - 3).tmod 6=0
         . have ht2:((m:Int) - k - (rwO 1:Nat)).tmod 6=0:=by simpa [rwO] using ht
           have HE:Hid (kdG c k 4 m=1):=aq (by unfold kdG;rw [rfG_t (p:=1) (by unfold rfP;exact decide_eq_true ht2) (by omega)];rfl);go_wp2;go_ret;exact⟨by rw [HE.o];rfl,HB6.o⟩
         . have ht2:¬ ((m:Int) - k - (rwO 1:Nat)).tmod 6=0:=by simpa [rwO] using ht
           have HE:Hid (rfP k 4 m 1=false):=aq (by unfold rfP;exact decide_eq_false ht2);go_wp2;go_roundw
           case rel=>exact⟨1+1,by omega,by go_num,(fun p hp=>by
            rcases Nat.lt_succ_iff_lt_or_eq.1 hp with h1 | rfl
            . exact HV.o p h1
            . exact HE.o),HS6.o,HB6.o⟩
           case measure=>simp [intOf]
       . have hqj2:¬ (4:Int)=(q:Int):=by omega
         have HE:Hid (rfP k q m 1=false):=aq (by unfold rfP;rw [show (rwS 1 == q)=false from beq_false_of_ne (fun e=>hqj e.symm)];rfl);go_wp2;go_roundw
         case rel=>exact⟨1+1,by omega,by go_num,(fun p hp=>by
          rcases Nat.lt_succ_iff_lt_or_eq.1 hp with h1 | rfl
          . exact HV.o p h1
          . exact HE.o),HS6.o,HB6.o⟩
         case measure=>simp [intOf]
     . have c2:=Blk.cell (HS5.o.alloc (.cells #[.int .i64 7,.int .i64 0] 222)) (j:=2) (v:=.int .i64 k) rfl
       have HS6:=aq (HS5.o.alloc (.cells #[.int .i64 7,.int .i64 0] 222));have HB6:=aq (bal HB5.o (.cells #[.int .i64 7,.int .i64 0] 222));have ix:∀ W,_:=fun W=>rw_ix2 W;unfold RW8 at ix;have w1:IntKind.i64.wrap ((m:Int) - k)=(m:Int) - k:=IntWalk.i64_in _ (by omega);have w2:IntKind.i64.wrap ((m:Int) - k)=(m:Int) - k:=IntWalk.i64_in _ (by omega);by_cases hqj:q=7
       . subst hqj
         by_cases ht:((m:Int) - k).tmod 6=0
         . have ht2:((m:Int) - k - (rwO 2:Nat)).tmod 6=0:=by simpa [rwO] using ht
           have HE:Hid (kdG c k 7 m=1):=aq (by unfold kdG;rw [rfG_t (p:=2) (by unfold rfP;exact decide_eq_true ht2) (by omega)];rfl);go_wp2;go_ret;exact⟨by rw [HE.o];rfl,HB6.o⟩
         . have ht2:¬ ((m:Int) - k - (rwO 2:Nat)).tmod 6=0:=by simpa [rwO] using ht
           have HE:Hid (rfP k 7 m 2=false):=aq (by unfold rfP;exact decide_eq_false ht2);go_wp2;go_roundw
           case rel=>exact⟨2+1,by omega,by go_num,(fun p hp=>by
            rcases Nat.lt_succ_iff_lt_or_eq.1 hp with h1 | rfl
            . exact HV.o p h1
            . exact HE.o),HS6.o,HB6.o⟩
           case measure=>simp [intOf]
       . have hqj2:¬ (7:Int)=(q:Int):=by omega
         have HE:Hid (rfP k q m 2=false):=aq (by unfold rfP;rw [show (rwS 2 == q)=false from beq_false_of_ne (fun e=>hqj e.symm)];rfl);go_wp2;go_roundw
         case rel=>exact⟨2+1,by omega,by go_num,(fun p hp=>by
          rcases Nat.lt_succ_iff_lt_or_eq.1 hp with h1 | rfl
          . exact HV.o p h1
          . exact HE.o),HS6.o,HB6.o⟩
         case measure=>simp [intOf]
     . have c2:=Blk.cell (HS5.o.alloc (.cells #[.int .i64 11,.int .i64 3] 222)) (j:=2) (v:=.int .i64 k) rfl
       have HS6:=aq (HS5.o.alloc (.cells #[.int .i64 11,.int .i64 3] 222));have HB6:=aq (bal HB5.o (.cells #[.int .i64 11,.int .i64 3] 222));have ix:∀ W,_:=fun W=>rw_ix3 W;unfold RW8 at ix;have w1:IntKind.i64.wrap ((m:Int) - k)=(m:Int) - k:=IntWalk.i64_in _ (by omega);have w2:IntKind.i64.wrap ((m:Int) - k - 3)=(m:Int) - k - 3:=IntWalk.i64_in _ (by omega);by_cases hqj:q=11
       . subst hqj
         by_cases ht:((m:Int) - k - 3).tmod 6=0
         . have ht2:((m:Int) - k - (rwO 3:Nat)).tmod 6=0:=by simpa [rwO] using ht
           have HE:Hid (kdG c k 11 m=1):=aq (by unfold kdG;rw [rfG_t (p:=3) (by unfold rfP;exact decide_eq_true ht2) (by omega)];rfl);go_wp2;go_ret;exact⟨by rw [HE.o];rfl,HB6.o⟩
         . have ht2:¬ ((m:Int) - k - (rwO 3:Nat)).tmod 6=0:=by simpa [rwO] using ht
           have HE:Hid (rfP k 11 m 3=false):=aq (by unfold rfP;exact decide_eq_false ht2);go_wp2;go_roundw
           case rel=>exact⟨3+1,by omega,by go_num,(fun p hp=>by
            rcases Nat.lt_succ_iff_lt_or_eq.1 hp with h1 | rfl
            . exact HV.o p h1
            . exact HE.o),HS6.o,HB6.o⟩
           case measure=>simp [intOf]
       . have hqj2:¬ (11:Int)=(q:Int):=by omega
         have HE:Hid (rfP k q m 3=false):=aq (by unfold rfP;rw [show (rwS 3 == q)=false from beq_false_of_ne (fun e=>hqj e.symm)];rfl);go_wp2;go_roundw
         case rel=>exact⟨3+1,by omega,by go_num,(fun p hp=>by
          rcases Nat.lt_succ_iff_lt_or_eq.1 hp with h1 | rfl
          . exact HV.o p h1
          . exact HE.o),HS6.o,HB6.o⟩
         case measure=>simp [intOf]
   . have c1:=Blk.cell HS5.o (j:=1) (v:=.int .i64 c) rfl
     have HF:=aq (rfG_f (k:=k) (q:=q) (m:=m) (fun p hp=>HV.o p (by omega)));have hk1:kdG c k q m=if (q:Int)<c then 2 else 3:=by unfold kdG;rw [HF.o];rfl
     by_cases hqc:(q:Int)<c
     . rw [if_pos hqc]at hk1
       go_wp2;go_ret;exact⟨by first | rfl | (rw [hk1];rfl),HB5.o⟩
     . rw [if_neg hqc]at hk1
       go_wp2;go_ret;exact⟨by first | rfl | (rw [hk1];rfl),HB5.o⟩
def dsG(B:Nat)(c k f b:Int)(i:Nat):Bool:=decide (f<=((i % (12*B) / 12:Nat):Int)) && decide (((i % (12*B) / 12:Nat):Int)<f+b) && decide (kdG c k (i / (12*B)) (i % (12*B))=3)
def rsG(B:Nat)(c k:Int)(i:Nat):Bool:=decide (kdG c k (i / (12*B)) (i % (12*B))=1)
def slG(P:Nat->Bool)(n:Nat):List Int:=((List.range n).filter P).map Int.ofNat
theorem slG_succ(P:Nat->Bool)(n:Nat):slG P (n+1)=slG P n ++ (if P n then [(n:Int)] else []):=by
 unfold slG;rw [List.range_succ,List.filter_append,List.map_append];cases h:P n<;>simp [h]
theorem slG_le(P:Nat->Bool)(n:Nat):(slG P n).length<=n:=by
 unfold slG;rw [List.length_map];exact Nat.le_trans (List.length_filter_le _ _) (by simp)
theorem sel_any(B:Nat)(c k:Int)(cf:Nat)(cp:Array Value)(P:Nat->Bool)(w:World)(hB:6<=B/\B<=100)(eg:∀ args W,(callFunc cf args).run prog W= .ok (.enter cf args) W)
 (hf:∀ (i:Nat) W,i<168*B->Below w.heap.size w W->Calls prog cf (#[.int .i64 (i:Int)] ++ cp) W fun e w'=>e= .returned (.tuple #[.int .i64 (i:Int),.bool (P i)])/\Below W.heap.size W w') :
 Calls prog 99 #[.agg #[.int .i64 (B:Int),.int .i64 c,.int .i64 k],.func (.func cf) #[] cp] w fun e w'=>∃ A' c',e= .returned (.slice A' (slG P (168*B)).length c')/\Own .i64 3 w' w.heap.size A' (slG P (168*B)).length c' (slG P (168*B))/\Below w.heap.size w w':=by
 have HS:=aq (Blk.new w [.int .i64 (B:Int),.int .i64 c,.int .i64 k] 63 rfl);have HB:=aq (bal (Below.refl w.heap.size w) (.cells #[.int .i64 (B:Int),.int .i64 c,.int .i64 k] 63));have HW:=aq (fun W=>gsize_any (B:Int) c k W (by omega));have HF:=aq hf;clear hf;obtain⟨N,hN⟩:∃ N,N=168*B:=⟨_,rfl⟩
 have hNe:168*(B:Int)=(N:Int):=by omega
 rw [<- hN]at HF ⊢;rw [hNe]at HW;go_enter func99,ntmps99;go_wp2_with (refine ldrow (cs:=[.int .i64 (B:Int),.int .i64 c,.int .i64 k]) rfl 63 (.tmp 2) rfl rfl HS.o _ underlying63 rfl (by rw [infoSh];rfl) ?_);refine(HW.o _).mono ?_;rintro e w1 ⟨rfl,hB1⟩;have HB1:=aq (HB.o.trans (hB1.mono HB.o.size));have hNb:N<=16800:=by omega
 clear hB1 hN hNe;dsimp only;go_wp2_with fail;go_loopw [10,4] (fun i l wr=>∃ (j:Nat) (A':Option Addr) (c':Nat),j<=N/\i= .int .i64 (j:Int)/\l= .slice A' (slG P j).length c'/\Own .i64 3 wr w.heap.size A' (slG P j).length c' (slG P j)/\Below w.heap.size w wr) (fun i _ _=>N - (intOf i).toNat)
 case atStart=>exact⟨0,none,0,by omega,rfl,rfl,Own.nilv .i64 3 _ _,HB1.o⟩
 case round =>
  obtain⟨j,A',c',hj,rfl,rfl,hO,hB⟩:=hrel;have HO:=aq hO;have HBr:=aq hB;have HL:=aq (slG_le P j);clear hO hB;by_cases hlt:j<N
  . have HC:=aq (HF.o j wr hlt HBr.o)
    obtain⟨p,hp⟩:∃ p,p=P j:=⟨_,rfl⟩
    rw [<- hp]at HC;have HP:=aq hp;clear hp;go_wp2_with fail;refine HC.o.mono ?_;rintro e w2 ⟨rfl,hB2⟩;have HB2:=aq (HBr.o.trans (hB2.mono HBr.o.size));have HO2:=aq (Ownv.below HO.o hB2);clear hB2 HC;dsimp only;cases p with
    | false =>
      have HQ:Hid (slG P (j+1)=slG P j):=aq (by rw [slG_succ,<- HP.o];simp);go_wp2;go_roundw
      case rel=>exact⟨j+1,A',c',by omega,by go_num,by rw [HQ.o],by rw [HQ.o];exact HO2.o,HB2.o⟩
      case measure=>simp [intOf];omega
    | true =>
      have HQ:Hid (slG P (j+1)=slG P j ++ [(j:Int)]):=aq (by rw [slG_succ,<- HP.o];simp);have HQL:Hid ((slG P (j+1)).length=(slG P j).length+1):=aq (by rw [HQ.o];simp)
      go_wp2_with (at_builtin
                   refine list_of rfl fun K hK=>wp_app1 (base:=w.heap.size) _ _ 51 rfl el22 rfl (.int .i64 (j:Int)) rfl rfl HO2.o (by have:=HL.o;omega) (by have:=HL.o;omega) HB2.o.size ?_;intro A4 c4 w4 h1 h2;have HO4:=aq h1;have HG4:=aq h2;clear h1 h2;refine hK _ _ ?_
                   clear hK K)
      go_roundw
      case rel=>exact⟨j+1,A4,c4,by omega,by go_num,by rw [HQL.o],Own.of_eq HO4.o HQL.o.symm (by rw [HQ.o,List.map_append];rfl),HB2.o.grown HG4.o HB2.o.size (fun k hk=>Ownv.ob' HO2.o hk)⟩
      case measure=>simp [intOf];omega
  . obtain rfl:j=N:=by omega
    go_wp2;go_ret;exact⟨A',c',rfl,HO.o,HBr.o⟩
theorem dat1_any(B i:Nat)(c k f b:Int)(PS PF PB:Nat)(w:World)(hB:6<=B/\B<=100)(hk:0<=k/\k<=503)(hi:i<168*B)(hf:0<=f/\f<=100)(hb:0<=b/\b<=100)
 (h1:Blk w PS 63 [.int .i64 (B:Int),.int .i64 c,.int .i64 k]) (h2:Blk w PF 3 [.int .i64 f]) (h3:Blk w PB 3 [.int .i64 b]) :
 Calls prog 100 (#[.int .i64 (i:Int)] ++ #[.pointer (some ⟨PS,0,none⟩),.pointer (some ⟨PF,0,none⟩),.pointer (some ⟨PB,0,none⟩)]) w fun e w'=>e= .returned (.tuple #[.int .i64 (i:Int),.bool (dsG B c k f b i)])/\Below w.heap.size w w':=by
 have H1:=aq h1;have HB0:=aq (Below.refl w.heap.size w);have HW:=aq (fun W=>width_any (B:Int) c k W (by omega));have HK:=aq (fun W=>kind_any B i c k W hB hk hi);obtain⟨m,hmd⟩:∃ m:Nat,m=i % (12*B):=⟨_,rfl⟩
 obtain⟨d,hdd⟩:∃ d:Nat,d=m / 12:=⟨_,rfl⟩
 have hm:(i:Int).tmod (12*(B:Int))=(m:Int):=by rw [hmd,Int.tmod_eq_emod_of_nonneg (by omega)];push_cast;rfl
 have hmb:m<12*B:=by rw [hmd];exact Nat.mod_lt _ (by omega)
 have hd:(m:Int).tdiv 12=(d:Int):=by rw [hdd,Int.tdiv_eq_ediv_of_nonneg (by omega)];push_cast;rfl
 have hd2:(m:Int) / 12=(d:Int):=by rw [hdd];push_cast;rfl
 have hdb:d<=100:=by omega
 have wd:IntKind.i64.wrap (d:Int)=d:=IntWalk.i64_in _ (by omega);have wf:IntKind.i64.wrap (f+b)=f+b:=IntWalk.i64_in _ (by omega);have hz:(12*(B:Int) == 0)=false:=beq_f (by omega);have hz2:¬ 12*(B:Int)=0:=by omega
 obtain⟨kd,hkd⟩:∃ kd,kd=kdG c k (i / (12*B)) m:=⟨_,rfl⟩
 have HD:Hid (dsG B c k f b i=(decide (f<=(d:Int)) && decide ((d:Int)<f+b) && decide (kd=3))):=aq (by unfold dsG;rw [hkd,hdd,hmd]);rw [<- hmd,<- hkd]at HK;clear hmd hdd hkd;go_enter func100,ntmps100;go_wp2_with (refine ldrow (cs:=[.int .i64 (B:Int),.int .i64 c,.int .i64 k]) rfl 63 (.tmp 1) rfl rfl H1.o _ underlying63 rfl (by rw [infoSh];rfl) ?_);refine(HW.o _).mono ?_;rintro e w1 ⟨rfl,hB1⟩;have HS1:=aq (H1.o.below hB1);have c2:=(h2.below hB1).cell (j:=0) (v:=.int .i64 f) rfl;have c3:=(h3.below hB1).cell (j:=0) (v:=.int .i64 b) rfl;have HB1:=aq hB1;clear hB1 h1 h2 h3;dsimp only;by_cases q1:f<=(d:Int)
 . by_cases q2:(d:Int)<f+b
   . rw [decide_eq_true q1,decide_eq_true q2]at HD
     have s0:=HS1.o.cell (j:=0) (v:=.int .i64 (B:Int)) rfl;have s1:=HS1.o.cell (j:=1) (v:=.int .i64 c) rfl;have s2:=HS1.o.cell (j:=2) (v:=.int .i64 k) rfl;go_wp2_with fail;refine(HK.o _).mono ?_;rintro e w2 ⟨rfl,hB2⟩;have HB2:=aq (HB1.o.trans (hB2.mono HB1.o.size));clear hB2;dsimp only;by_cases q3:kd=3
     . subst q3
       go_wp2;exact bodyPost_ret (results_tmp2 rfl _ _ _) rfl ⟨by rw [HD.o];rfl,HB2.o⟩
     . rw [decide_eq_false q3]at HD
       have q4:(kd == 3)=false:=beq_f q3;go_wp2;exact bodyPost_ret (results_tmp2 rfl _ _ _) rfl ⟨by rw [HD.o];rfl,HB2.o⟩
   . rw [decide_eq_true q1,decide_eq_false q2]at HD
     go_wp2;exact bodyPost_ret (results_tmp2 rfl _ _ _) rfl ⟨by rw [HD.o];rfl,HB1.o⟩
 . rw [decide_eq_false q1]at HD
   go_wp2;exact bodyPost_ret (results_tmp2 rfl _ _ _) rfl ⟨by rw [HD.o];rfl,HB1.o⟩
theorem ref1_any(B i:Nat)(c k:Int)(PS:Nat)(w:World)(hB:6<=B/\B<=100)(hk:0<=k/\k<=503)(hi:i<168*B)
 (h1:Blk w PS 63 [.int .i64 (B:Int),.int .i64 c,.int .i64 k]) :
 Calls prog 152 (#[.int .i64 (i:Int)] ++ #[.pointer (some ⟨PS,0,none⟩)]) w fun e w'=>e= .returned (.tuple #[.int .i64 (i:Int),.bool (rsG B c k i)])/\Below w.heap.size w w':=by
 have H1:=aq h1;have HK:=aq (fun W=>kind_any B i c k W hB hk hi);obtain⟨kd,hkd⟩:∃ kd,kd=kdG c k (i / (12*B)) (i % (12*B)):=⟨_,rfl⟩
 have HD:Hid (rsG B c k i=decide (kd=1)):=aq (by unfold rsG;rw [hkd]);rw [<- hkd]at HK;clear hkd;go_enter func152,ntmps152;go_wp2_with (refine ldrow (cs:=[.int .i64 (B:Int),.int .i64 c,.int .i64 k]) rfl 63 (.tmp 1) rfl rfl H1.o _ underlying63 rfl (by rw [infoSh];rfl) ?_);refine(HK.o _).mono ?_;rintro e w2 ⟨rfl,hB2⟩;have HB2:=aq hB2;clear hB2;dsimp only;by_cases q3:kd=1
 . subst q3
   go_wp2;exact bodyPost_ret (results_tmp2 rfl _ _ _) rfl ⟨by rw [HD.o];rfl,HB2.o⟩
 . rw [decide_eq_false q3]at HD
   have q4:(kd == 1)=false:=beq_f q3;go_wp2;exact bodyPost_ret (results_tmp2 rfl _ _ _) rfl ⟨by rw [HD.o];rfl,HB2.o⟩
end Go.Proofs.YthmhogdceolkdaaGreat