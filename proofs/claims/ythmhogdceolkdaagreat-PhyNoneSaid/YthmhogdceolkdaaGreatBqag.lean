/- Bundle. Conditions: none. -/
import Derived.Test.YthmhogdceolkdaaGreatBqaf
set_option linter.unusedVariables false
set_option linter.unusedSimpArgs false
namespace Go.Proofs.YthmhogdceolkdaaGreat.Tu
open Tryz
open Go.RowKit
set_option maxRecDepth 100000
set_option maxHeartbeats 1000000
theorem valid_len{n:Nat}(h:validK (n:Int)=true):40<=n/\n<=6144:=by have:=valid_bd h;omega
def mixB(bs:List Bool):List Bool:=(List.range bs.length).map fun i=>bs.getD (piN bs.length i) false
theorem mixB_len(bs:List Bool):(mixB bs).length=bs.length:=by simp [mixB]
theorem mixR_ib(bs:List Bool)(hv:validK (bs.length:Int)=true):mixR (bs.map ib)=(mixB bs).map ib:=by
 unfold mixR mixB;rw [List.length_map,if_pos hv,List.map_map];have h0:=(valid_len hv).1;refine List.map_congr_left fun i hi=>?_;have hp:piN bs.length i<bs.length:=Nat.mod_lt _ (by omega);simp only [Function.comp];rw [gi_ib _ _ hp,List.getD_eq_getElem?_getD,List.getElem?_eq_getElem hp];rfl
theorem idx58(a0 a1 a2 a3 a4 a5 a6 b0 b1 b2 b3 b4 b5 b6:Value)(W:World):(Instr.index 363 (.agg #[a0,a1,a2,a3,a4,a5,a6,b0,b1,b2,b3,b4,b5,b6]) (.int .i64 0)).run prog W= .ok (.agg #[a0,a1,a2,a3,a4,a5,a6]) W:=by kernel_rfl
theorem idx58'(a0 a1 a2 a3 a4 a5 a6 b0 b1 b2 b3 b4 b5 b6:Value)(W:World):(Instr.index 363 (.agg #[a0,a1,a2,a3,a4,a5,a6,b0,b1,b2,b3,b4,b5,b6]) (.int .i64 1)).run prog W= .ok (.agg #[b0,b1,b2,b3,b4,b5,b6]) W:=by kernel_rfl
def segF(bi p1 p2:List Int)(j:Nat):List Int:=if j=0 then bi else if j=1 then p1 else p2
def segW(bi p1 p2:List Int)(s m:St3):Nat->List Int
 | 0=>[]
 | j+1=>segW bi p1 p2 s m j ++ segF bi p1 p2 j ++ endL (tlI s) j ++ endL (tlI m) j
def wordI(bs:List Bool):List Int:=(wordB bs (mixB bs)).map ib
theorem segW_word(bs ms:List Bool):segW (bs.map ib) ((parL s0 bs).map ib) ((parL s0 ms).map ib) (fin bs) (fin ms) 3=(wordB bs ms).map ib:=by
 simp only [segW,segF,wordB,List.map_append,List.nil_append,List.map_cons,List.map_nil,List.append_assoc];rfl
theorem enc_badlen(A:Option Addr)(n c:Nat)(w:World)(hv:validK (n:Int)=false)(hn:(n:Int)<=9223372036854775807) :
 Calls prog 276 #[.slice A n c] w fun e w'=>e= .returned (.tuple #[.slice none 0 0,.int .i64 2])/\Below w.heap.size w w':=by
 go_enter func276,ntmps276;go_wp2_with fail;refine wp_scope_fwd 0 rfl ?_;go_wp2_with fail;refine(valid_any _ _).mono ?_;rintro e w1 ⟨rfl,hB1⟩;rw [hv];go_wp2;go_step3;refine⟨rfl,?_⟩;go_wp2;simp only [Exit.jump];go_ret2;exact⟨rfl,((Below.refl _ w).alloc (Nat.le_refl _) _).trans (hB1.mono (by simp))⟩
theorem enc_badbit(A:Option Addr)(n c:Nat)(xs:List Int)(w:World)(h:Rd .u8 w A n c xs)(hv:validK (n:Int)=true)(hb:ValidB xs=false) :
 Calls prog 276 #[.slice A n c] w fun e w'=>e= .returned (.tuple #[.slice none 0 0,.int .i64 3])/\Below w.heap.size w w':=by
 have hbd:=h.bd.1;have H1:=aq (Rdv.alloc h (.cells (enc0 ++ enc0).toArray 363));have hO:Ownv 363 (w.alloc (.cells (enc0 ++ enc0).toArray 363)) w.heap.size (some ⟨w.heap.size,0,none⟩) 14 14 (enc0 ++ enc0):=Ownv.lit w (enc0 ++ enc0).toArray 363 rfl (Nat.le_refl _) (by show 14<=maxLen;unfold maxLen;omega);have HO:=aq hO;clear h hO;go_enter func276,ntmps276;go_wp2_with fail;refine wp_scope_fwd 0 rfl ?_;go_wp2_with fail;refine(valid_any _ _).mono ?_;rintro e w1 ⟨rfl,hB1⟩;rw [hv];go_wp2_with fail;refine(encoded_bad A n c xs _ (Rdv.below H1.o hB1) hb).mono ?_;rintro e w2 ⟨rfl,hB2⟩;have hO2:=(HO.o.below hB1).below hB2;have d0:=hO2.rd.at_ 0 _ rfl;have f0:=Ownv.frozen hO2 (by omega) 0;have d1:=hO2.rd.at_ 1 _ rfl;have f1:=Ownv.frozen hO2 (by omega) 1;have d2:=hO2.rd.at_ 2 _ rfl;have f2:=Ownv.frozen hO2 (by omega) 2;have d3:=hO2.rd.at_ 3 _ rfl;have f3:=Ownv.frozen hO2 (by omega) 3;have d4:=hO2.rd.at_ 4 _ rfl;have f4:=Ownv.frozen hO2 (by omega) 4;have d5:=hO2.rd.at_ 5 _ rfl;have f5:=Ownv.frozen hO2 (by omega) 5;have d6:=hO2.rd.at_ 6 _ rfl;have f6:=Ownv.frozen hO2 (by omega) 6;simp only [adr_some,Nat.zero_add]at d0 f0 d1 f1 d2 f2 d3 f3 d4 f4 d5 f5 d6 f6;have HO2:=aq hO2;have HB1:=aq hB1;have HB2:=aq hB2;clear hO2 hB1 hB2;unfold enc0;go_wp2;go_step3;refine⟨rfl,?_⟩;go_wp2;simp only [Exit.jump];go_ret2;have hp:=(Ownv.putC_ enc0 0 HO2.o (by show 0+7<=14;omega)).2;have b0:=(((Below.refl _ w).alloc (Nat.le_refl _) (.cells (enc0 ++ enc0).toArray 363)).trans (HB1.o.mono (by simp))).trans (HB2.o.mono (by have:=HB1.o.size;simp at this;omega));exact⟨rfl,b0.grown hp b0.size (fun k hk=>by have:=Option.some.inj hk;omega)⟩
structure EncCtx (w wL:World) (n:Nat) (O:Option Addr) (PA:Nat->Option Addr) (PC:Nat->Nat) (F:Nat->List Int) (CV:List Value):Prop where
 parts:Rdv wL O 3 3 [.slice (PA 0) n (PC 0),.slice (PA 1) n (PC 1),.slice (PA 2) n (PC 2)]
 rd:∀ j,j<3->Rd .u8 wL (PA j) n (PC j) (F j)
 codes:Ownv 363 wL w.heap.size (some ⟨w.heap.size,0,none⟩) 14 14 CV
 bel:Below w.heap.size w wL
def OutInv(w wL:World)(n:Nat)(W:Nat->List Int)(i o:Value)(wr:World):Prop :=
 ∃ (j:Nat) (A:Option Addr) (c:Nat),j<=3/\i= .int .i64 j/\o= .slice A (j*(n+4)) c/\Own .u8 5 wr wL.heap.size A (j*(n+4)) c (W j)/\Below wL.heap.size wL wr
def innL(P E1 E2:List Int)(k:Nat):List Int:=P ++ (if 0<k then E1 else []) ++ (if 1<k then E2 else [])
def InnInv(wL:World)(L:Nat)(I:Nat->List Int)(i o:Value)(wr:World):Prop :=
 ∃ (k:Nat) (A:Option Addr) (c:Nat),k<=2/\i= .int .i64 k/\o= .slice A (L+2*k) c/\Own .u8 5 wr wL.heap.size A (L+2*k) c (I k)/\Below wL.heap.size wL wr
theorem enc_any(A:Option Addr)(n c:Nat)(bs:List Bool)(w:World)(h:Rd .u8 w A n c (bs.map ib))(hv:validK (n:Int)=true) :
 Calls prog 276 #[.slice A n c] w fun e w'=>∃ A' c',e= .returned (.tuple #[.slice A' (3*(n+4)) c',.int .i64 0])/\Own .u8 5 w' w.heap.size A' (3*(n+4)) c' (wordI bs)/\Below w.heap.size w w':=by
 have hbd:=h.bd.1;obtain⟨n0,n1⟩:=valid_len hv;have hlen:bs.length=n:=by have:=h.len;simpa using this
 have hvl:validK (bs.length:Int)=true:=by rw [hlen];exact hv
 have HMIX:=aq (mixR_ib bs hvl);have HML:=aq (mixB_len bs);have HLEN:=aq hlen;have H1:=aq (Rdv.alloc h (.cells (enc0 ++ enc0).toArray 363));have hO:Ownv 363 (w.alloc (.cells (enc0 ++ enc0).toArray 363)) w.heap.size (some ⟨w.heap.size,0,none⟩) 14 14 (enc0 ++ enc0):=Ownv.lit w (enc0 ++ enc0).toArray 363 rfl (Nat.le_refl _) (by show 14<=maxLen;unfold maxLen;omega);have HO:=aq hO;have hpe:permE (n:Int)=0:=by unfold permE;rw [if_pos hv]
 have HPE:=aq hpe;have HBA:Hid (A≠none->blk A<w.heap.size):=aq (fun hA=>by
  obtain⟨b,o,rfl,hb⟩:=Rdv.ptr h (by have:=h.le;omega);exact hb)
 clear h hO hpe hlen hvl;go_enter func276,ntmps276;go_wp2_with fail;go_step3;go_wp2_with fail;refine(valid_any _ _).mono ?_;rintro e w1 ⟨rfl,hB1⟩;rw [hv];have hR1:=Rdv.below H1.o hB1;have HR1:=aq hR1;go_wp2_with fail;refine(encoded_any A n c bs _ hR1 (by omega)).mono ?_;rintro e w2 ⟨A1,c1,rfl,hP1,hB2⟩;have hO2:=(HO.o.below hB1).below hB2;have d0:=hO2.rd.at_ 0 _ rfl;have f0:=Ownv.frozen hO2 (by omega) 0;have d1:=hO2.rd.at_ 1 _ rfl;have f1:=Ownv.frozen hO2 (by omega) 1;have d2:=hO2.rd.at_ 2 _ rfl;have f2:=Ownv.frozen hO2 (by omega) 2;have d3:=hO2.rd.at_ 3 _ rfl;have f3:=Ownv.frozen hO2 (by omega) 3;have d4:=hO2.rd.at_ 4 _ rfl;have f4:=Ownv.frozen hO2 (by omega) 4;have d5:=hO2.rd.at_ 5 _ rfl;have f5:=Ownv.frozen hO2 (by omega) 5;have d6:=hO2.rd.at_ 6 _ rfl;have f6:=Ownv.frozen hO2 (by omega) 6;simp only [adr_some,Nat.zero_add]at d0 f0 d1 f1 d2 f2 d3 f3 d4 f4 d5 f5 d6 f6;have HO2:=aq hO2;have hsz1:w.heap.size+1<=w1.heap.size:=by have:=hB1.size;simpa using this
 have HB1:=aq hB1;have HB2:=aq hB2;have HP1:=aq hP1;clear hO2 hB1 hB2 hR1 hP1;unfold encV encL;generalize hs:fin bs=s at *;go_wp2_with fail;have hp2:=Ownv.putC_ (encL s A1 n c1) 0 HO2.o (by show 0+7<=14;omega);have hsz2:w1.heap.size<=w2.heap.size:=HB2.o.size;have b0:=((((Below.refl _ w).alloc (Nat.le_refl _) (.cells (enc0 ++ enc0).toArray 363)).trans (HB1.o.mono (by simp))).trans (HB2.o.mono (by omega))).grown hp2.2 (by omega) (fun k hk=>by have:=Option.some.inj hk;omega);have hR2:Rd .u8 _ A n c (bs.map ib):=Rdv.grown (Rdv.below HR1.o HB2.o) hp2.2 (fun hA he=>by have h8:=HBA.o hA;have:=Option.some.inj he;omega);have hQ1:Own .u8 5 _ w.heap.size A1 n c1 ((parL s0 bs).map ib):=Ownv.grown (Ownv.mono HP1.o (by omega)) hp2.2 (fun hA he=>by have h8:=(Ownv.blk_of HP1.o hA).1;have:=Option.some.inj he;omega);have hO3:=hp2.1;change Calls prog 315 _ (putC w2 w.heap.size 0 (encL s A1 n c1)) _;clear d0 f0 d1 f1 d2 f2 d3 f3 d4 f4 d5 f5 d6 f6 hp2;generalize putC w2 w.heap.size 0 (encL s A1 n c1)=w3 at *;have HBA1:Hid (A1≠none->w.heap.size<blk A1):=aq (fun hA=>by have h8:=(Ownv.blk_of HP1.o hA).1;omega);have HR3:=aq hR2;have HQ1:=aq hQ1;have HO3:=aq hO3;have HB3:=aq b0;clear hR2 hQ1 hO3 b0 HO2 HB1 HB2 HP1 HR1;have hm:=mix_any A n c (bs.map ib) w3 HR3.o;rw [HPE.o,HMIX.o]at hm;refine hm.mono ?_;rintro e w4 ⟨A2,l2,rfl,hM,hB4⟩;obtain rfl:n=l2:=by
  have h9:=(Own.rd hM).len;rw [List.length_map,HML.o,HLEN.o]at h9;exact h9
 have HB4:=aq hB4;have HM:=aq hM;clear hm hM hB4;go_wp2_with fail;refine(encoded_any A2 n n (mixB bs) _ (Own.rd HM.o) (by omega)).mono ?_;rintro e w5 ⟨A3,c3,rfl,hP3,hB5⟩;have hO4:=(HO3.o.below HB4.o).below hB5;have d6:=hO4.rd.at_ 6 _ rfl;have d7:=hO4.rd.at_ 7 _ rfl;have f7:=Ownv.frozen hO4 (by omega) 7;have d8:=hO4.rd.at_ 8 _ rfl;have f8:=Ownv.frozen hO4 (by omega) 8;have d9:=hO4.rd.at_ 9 _ rfl;have f9:=Ownv.frozen hO4 (by omega) 9;have d10:=hO4.rd.at_ 10 _ rfl;have f10:=Ownv.frozen hO4 (by omega) 10;have d11:=hO4.rd.at_ 11 _ rfl;have f11:=Ownv.frozen hO4 (by omega) 11;have d12:=hO4.rd.at_ 12 _ rfl;have f12:=Ownv.frozen hO4 (by omega) 12;have d13:=hO4.rd.at_ 13 _ rfl;have f13:=Ownv.frozen hO4 (by omega) 13;simp only [adr_some,Nat.zero_add]at d6 d7 f7 d8 f8 d9 f9 d10 f10 d11 f11 d12 f12 d13 f13;have HO4:=aq hO4;have HB5:=aq hB5;have HP3:=aq hP3;clear hO4 hB5 hP3;unfold encV encL;generalize hms:fin (mixB bs)=m at *;go_wp2_with fail;have hp5:=Ownv.putC_ (encL m A3 n c3) 7 HO4.o (by show 7+7<=14;omega);have hsz3:w.heap.size<=w3.heap.size:=HB3.o.size;have hsz4:w3.heap.size<=w4.heap.size:=HB4.o.size;have hsz5:w4.heap.size<=w5.heap.size:=HB5.o.size;have hsz6:(putC w5 w.heap.size 7 (encL m A3 n c3)).heap.size=w5.heap.size:=by simp [putC,encL]
 have hwb:w.heap.size<w3.heap.size:=(Ownv.blk_ge HO3.o (by omega)).2;have hctx:EncCtx w ((putC w5 w.heap.size 7 (encL m A3 n c3)).alloc (.cells #[.slice A n c,.slice A1 n c1,.slice A3 n c3] 53)) n (some ⟨w5.heap.size,0,none⟩) (fun j=>if j=0 then A else if j=1 then A1 else A3) (fun j=>if j=0 then c else if j=1 then c1 else c3) (segF (bs.map ib) ((parL s0 bs).map ib) ((parL s0 (mixB bs)).map ib)) (encL s A1 n c1 ++ encL m A3 n c3):=by
  refine⟨?_,fun j hj=>?_,Ownv.alloc hp5.1 _,?_⟩
  . exact(Ownv.lit (base:=0) (putC w5 w.heap.size 7 (encL m A3 n c3)) #[.slice A n c,.slice A1 n c1,.slice A3 n c3] 53 (by rw [hsz6]) (Nat.zero_le _) (by show 3<=maxLen;unfold maxLen;omega)).rd
  . refine Rdv.alloc ?_ _
    rcases (by omega:j=0\/j=1\/j=2) with rfl | rfl | rfl
    . exact Rdv.grown (Rdv.below (Rdv.below HR3.o HB4.o) HB5.o) hp5.2 (fun hA he=>by have h8:=HBA.o hA;have h9:blk A=w.heap.size:=Option.some.inj he;omega)
    . exact Ownv.rd (Ownv.grown (Ownv.below (Ownv.below HQ1.o HB4.o) HB5.o) hp5.2 (fun hA he=>by have h8:=HBA1.o hA;have h9:blk A1=w.heap.size:=Option.some.inj he;omega))
    . exact Ownv.rd (Ownv.grown HP3.o hp5.2 (fun hA he=>by have h8:=(Ownv.blk_of HP3.o hA).1;have h9:blk A3=w.heap.size:=Option.some.inj he;omega))
  . have q1:=(HB3.o.trans (HB4.o.mono hsz3)).trans (HB5.o.mono (Nat.le_trans hsz3 hsz4))
    have q2:=q1.grown hp5.2 q1.size (fun k hk=>by have:=Option.some.inj hk;omega);exact q2.alloc q2.size _
 obtain⟨wL,hwL⟩:∃ W,W=(putC w5 w.heap.size 7 (encL m A3 n c3)).alloc (.cells #[.slice A n c,.slice A1 n c1,.slice A3 n c3] 53):=⟨_,rfl⟩
 rw [<- hwL]at hctx;have HCTX:=aq hctx;have HWL:=aq hwL;generalize hPA:(fun j:Nat=>if j=0 then A else if j=1 then A1 else A3)=PA at *;generalize hPC:(fun j:Nat=>if j=0 then c else if j=1 then c1 else c3)=PC at *;have HPA:=aq hPA;have HPC:=aq hPC;clear hctx hwL hp5 hPA hPC hsz1 hsz2 hsz3 hsz4 hsz6 d6 d7 f7 d8 f8 d9 f9 d10 f10 d11 f11 d12 f12 d13 f13;have hpa:PA 0=A/\PA 1=A1/\PA 2=A3:=by rw [<- HPA.o];exact⟨rfl,rfl,rfl⟩
 have hpc:PC 0=c/\PC 1=c1/\PC 2=c3:=by rw [<- HPC.o];exact⟨rfl,rfl,rfl⟩
 have HPA2:=aq hpa;have HPC2:=aq hpc;clear hpa hpc;generalize hW:segW (bs.map ib) ((parL s0 bs).map ib) ((parL s0 (mixB bs)).map ib) s m=Wd at *;generalize hF:segF (bs.map ib) ((parL s0 bs).map ib) ((parL s0 (mixB bs)).map ib)=F at *;have hW0:Wd 0=[]:=by rw [<- hW];rfl
 have hWs:∀ j,Wd (j+1)=Wd j ++ F j ++ endL (tlI s) j ++ endL (tlI m) j:=fun j=>by rw [<- hW,<- hF];rfl
 have HW:=aq hW;have HW0:=aq hW0;have HWS:=aq hWs;have hss:w.heap.size<wL.heap.size:=(Ownv.blk_ge HCTX.o.codes (by omega)).2;clear hW hW0 hWs hF;go_loopw [44,2] (fun i o wr=>OutInv w wL n Wd i o wr) (fun i _ _=>3 - (intOf i).toNat)
 case atStart =>
  change OutInv w wL n Wd _ _ ((putC w5 w.heap.size 7 (encL m A3 n c3)).alloc (.cells #[.slice A n c,.slice A1 n c1,.slice A3 n c3] 53));rw [<- HWL.o];exact⟨0,none,0,by omega,rfl,by simp,by rw [HW0.o];simpa using Own.nilv _ _ _ _,Below.refl _ _⟩
 case round =>
  obtain⟨j,Aw,cw,hj,rfl,rfl,hOw,hB⟩:=hrel;by_cases hlt:j<3
  . have hparts:=HCTX.o.parts.below hB
    have hix:=fun W=>Rdv.ix hparts el62 hlt .i64 W;have hpj:[Value.slice (PA 0) n (PC 0),.slice (PA 1) n (PC 1),.slice (PA 2) n (PC 2)][j]?=some (.slice (PA j) n (PC j)):=by
     rcases (by omega:j=0\/j=1\/j=2) with rfl | rfl | rfl<;>rfl
    have hcell:=hparts.at_ j _ hpj;rw [adr_some,Nat.zero_add]at hcell;have hrd:=Rdv.below (HCTX.o.rd j hlt) hB;have hnj:j*(n+4)<=18444:=by
     have:j*(n+4)<=3*6148:=Nat.mul_le_mul (by omega) (by omega);omega
    generalize hnn:j*(n+4)=nj at *;have hst:=fun W hp hx hy=>aq (stream2_any (some ⟨wr.heap.size,0,none⟩) Aw (PA j) nj cw n (PC j) (Wd j) (F j) W hp hx hy (by omega) (by omega));have HNN:=aq hnn;have E5:Hid ((j+1)*(n+4)=nj+n+2*2):=aq (by rw [Nat.succ_mul,hnn];omega);have HPJ:=aq hpj;have HRD:=aq hrd;have HOW:=aq hOw;have HB:=aq hB;have HPT:=aq hparts;clear hpj hrd hOw hB hnn hparts;have hp0:Rdv (wr.alloc (.cells #[.slice Aw nj cw,.slice (PA j) n (PC j)] 53)) (some ⟨wr.heap.size,0,none⟩) 2 2 [.slice Aw nj cw,.slice (PA j) n (PC j)] :=
     (Ownv.lit (base:=0) wr #[.slice Aw nj cw,.slice (PA j) n (PC j)] 53 rfl (Nat.zero_le _) (by show 2<=maxLen;unfold maxLen;omega)).rd
    have HP0:=aq hp0;clear hp0;have HAL:=aq ((Below.refl wL.heap.size wr).alloc HB.o.size (.cells #[.slice Aw nj cw,.slice (PA j) n (PC j)] 53));go_wp2_with (go_at_call 316;refine(hst _ HP0.o (Ownv.rd (Ownv.alloc HOW.o _)) (Rdv.alloc HRD.o _)).out.mono ?_;rintro e w6 ⟨A6,c6,rfl,hO6,hB6⟩;have hB6':=HAL.o.trans (hB6.mono (by have:=HB.o.size;simp;omega));have hC:=HCTX.o.codes.below (HB.o.trans hB6');have d0:=hC.rd.at_ 0 _ rfl;have d1:=hC.rd.at_ 1 _ rfl;have d2:=hC.rd.at_ 2 _ rfl;have d3:=hC.rd.at_ 3 _ rfl;have d4:=hC.rd.at_ 4 _ rfl;have d5:=hC.rd.at_ 5 _ rfl;have d6:=hC.rd.at_ 6 _ rfl;have d7:=hC.rd.at_ 7 _ rfl;have d8:=hC.rd.at_ 8 _ rfl;have d9:=hC.rd.at_ 9 _ rfl;have d10:=hC.rd.at_ 10 _ rfl;have d11:=hC.rd.at_ 11 _ rfl;have d12:=hC.rd.at_ 12 _ rfl;have d13:=hC.rd.at_ 13 _ rfl;simp only [adr_some,Nat.zero_add]at d0 d1 d2 d3 d4 d5 d6 d7 d8 d9 d10 d11 d12 d13;have HO6:=aq hO6;have HB6:=aq (HB.o.trans hB6');have hsz7:wL.heap.size<=w6.heap.size:=(HB.o.trans hB6').size;clear hO6 hB6 hB6' hC);have ix0:=fun W=>idx58 (.int .u8 (tlI s 0)) (.int .u8 (tlI s 1)) (.int .u8 (tlI s 2)) (.int .u8 (tlI s 3)) (.int .u8 (tlI s 4)) (.int .u8 (tlI s 5)) (.slice A1 n c1) (.int .u8 (tlI m 0)) (.int .u8 (tlI m 1)) (.int .u8 (tlI m 2)) (.int .u8 (tlI m 3)) (.int .u8 (tlI m 4)) (.int .u8 (tlI m 5)) (.slice A3 n c3) W;have ix1:=fun W=>idx58' (.int .u8 (tlI s 0)) (.int .u8 (tlI s 1)) (.int .u8 (tlI s 2)) (.int .u8 (tlI s 3)) (.int .u8 (tlI s 4)) (.int .u8 (tlI s 5)) (.slice A1 n c1) (.int .u8 (tlI m 0)) (.int .u8 (tlI m 1)) (.int .u8 (tlI m 2)) (.int .u8 (tlI m 3)) (.int .u8 (tlI m 4)) (.int .u8 (tlI m 5)) (.slice A3 n c3) W;go_loopw [54,2] (fun i o wq=>InnInv wL (nj+n) (innL (Wd j ++ F j) (endL (tlI s) j) (endL (tlI m) j)) i o wq) (fun i _ _=>2 - (intOf i).toNat)
    case atStart=>exact⟨0,A6,c6,by omega,rfl,rfl,Own.of_eq (Ownv.mono HO6.o (by have:=HB.o.size;simp;omega)) rfl (by simp [innL]),HB6.o⟩
    case round =>
     obtain⟨k,Ac,cc,hk,rfl,rfl,hOc,hBc⟩:=hrel;have HOc:=aq hOc;have HBc:=aq hBc;clear hOc hBc d0 d1 d2 d3 d4 d5 d6 d7 d8 d9 d10 d11 d12 d13;rcases (by omega:k=0\/k=1\/k=2) with rfl | rfl | rfl
     all_goals try simp only [Int.ofNat_zero,Int.ofNat_one,Int.cast_ofNat_Int]
     . have he:=fun W=>aq (ending_any31 (tlI s) j hlt W)
       unfold tailV at he;go_wp2_with (first
        | (go_at_call 317;refine(he _).out.mono ?_;rintro e w8 ⟨A8,rfl,hO8,hB8⟩)
        | (at_builtin;refine list_of rfl fun K hK=>wp_app _ _ 53 rfl el22 rfl rfl (Ownv.below (Ownv.alloc HOc.o _) hB8) (Ownv.rd hO8) (oneCell_ints .u8 _) (by omega) (by unfold maxLen;omega) (Nat.le_trans (HBc.o.alloc HBc.o.size _).size hB8.size) ?_;intro A9 c9 w9 hO9 hg9;refine hK _ _ ?_;clear hK K))
       have hB9:=(HBc.o.alloc HBc.o.size (.cells #[.int .u8 (tlI s 0),.int .u8 (tlI s 1),.int .u8 (tlI s 2),.int .u8 (tlI s 3),.int .u8 (tlI s 4),.int .u8 (tlI s 5),.slice A1 n c1] 362)).trans (hB8.mono (HBc.o.alloc HBc.o.size (.cells #[.int .u8 (tlI s 0),.int .u8 (tlI s 1),.int .u8 (tlI s 2),.int .u8 (tlI s 3),.int .u8 (tlI s 4),.int .u8 (tlI s 5),.slice A1 n c1] 362)).size);go_roundw
       case rel=>exact⟨1,A9,c9,by omega,rfl,rfl,Own.of_eq hO9 rfl (by simp [innL]),hB9.grown hg9 hB9.size (fun k hk=>Ownv.ob' HOc.o hk)⟩
       case measure=>simp [intOf]
     . have he:=fun W=>aq (ending_any31 (tlI m) j hlt W)
       unfold tailV at he;go_wp2_with (first
        | (go_at_call 317;refine(he _).out.mono ?_;rintro e w8 ⟨A8,rfl,hO8,hB8⟩)
        | (at_builtin;refine list_of rfl fun K hK=>wp_app _ _ 53 rfl el22 rfl rfl (Ownv.below (Ownv.alloc HOc.o _) hB8) (Ownv.rd hO8) (oneCell_ints .u8 _) (by omega) (by unfold maxLen;omega) (Nat.le_trans (HBc.o.alloc HBc.o.size _).size hB8.size) ?_;intro A9 c9 w9 hO9 hg9;refine hK _ _ ?_;clear hK K))
       have hB9:=(HBc.o.alloc HBc.o.size (.cells #[.int .u8 (tlI m 0),.int .u8 (tlI m 1),.int .u8 (tlI m 2),.int .u8 (tlI m 3),.int .u8 (tlI m 4),.int .u8 (tlI m 5),.slice A3 n c3] 362)).trans (hB8.mono (HBc.o.alloc HBc.o.size (.cells #[.int .u8 (tlI m 0),.int .u8 (tlI m 1),.int .u8 (tlI m 2),.int .u8 (tlI m 3),.int .u8 (tlI m 4),.int .u8 (tlI m 5),.slice A3 n c3] 362)).size);go_roundw
       case rel=>exact⟨2,A9,c9,by omega,rfl,rfl,Own.of_eq hO9 rfl (by simp [innL]),hB9.grown hg9 hB9.size (fun k hk=>Ownv.ob' HOc.o hk)⟩
       case measure=>simp [intOf]
     . go_wp2
       go_roundw
       case rel=>exact⟨j+1,Ac,cc,by omega,by go_num,by rw [E5.o],by rw [HWS.o j];exact Own.of_eq HOc.o E5.o.symm (by simp [innL]),HBc.o⟩
       case measure=>simp [intOf];omega
  . obtain rfl:j=3:=by omega
    have HOF:=aq hOw;have HB:=aq hB;clear hOw hB;go_wp2;rw [Exit.noGoto_ret];go_ret2;refine⟨Aw,cw,rfl,?_,HCTX.o.bel.trans (HB.o.mono HCTX.o.bel.size)⟩;rw [show wordI bs=Wd 3 from by rw [<- HW.o,<- hs,<- hms];exact(segW_word bs (mixB bs)).symm];exact Ownv.mono HOF.o HCTX.o.bel.size
def toB(xs:List Int):List Bool:=xs.map fun x=>decide (x=1)
theorem toB_ib(xs:List Int)(h0:∀ x ∈ xs,0<=x)(hv:ValidB xs=true):(toB xs).map ib=xs:=by
 unfold toB;rw [List.map_map];have h1:∀ x ∈ xs,(ib ∘ fun x=>decide (x=1)) x=x:=by
  intro x hx;have h2:=List.all_eq_true.1 hv x hx;have h3:=h0 x hx;simp only [decide_eq_true_eq]at h2;simp only [Function.comp,ib];by_cases e:x=1
  . simp [e]
  . rw [if_neg (by simpa using e)];omega
 rw [List.map_congr_left h1,List.map_id']
end Go.Proofs.YthmhogdceolkdaaGreat.Tu