/- Bundle. Conditions: none. -/
import Derived.Test.YthmhogdceolkdaaGreatBqbm
import Derived.Test.YthmhogdceolkdaaGreatBqaz
import Derived.Test.YthmhogdceolkdaaGreatBqar
set_option linter.unusedVariables false
set_option linter.unusedSimpArgs false
namespace Go.Proofs.YthmhogdceolkdaaGreat.Cr
open Tryz
open Go.RowKit Go.Shelf
attribute [local go_sem] Oper.semAt_some
set_option maxRecDepth 100000
set_option maxHeartbeats 8000000
theorem ownB_ne{A B:Option Addr}{n c:Nat}(h:A≠none->blk A≠blk B):some (blk B)≠(Value.slice A n c).ownBlock:=by
 cases A with
 | none=>simp [Value.ownBlock]
 | some a =>
   intro e;exact h (by simp) (Option.some.inj e).symm
def itL(a b:List Int)(k:Nat):List Int:=(List.range k).flatMap fun q=>[gi a q,gi b q]
theorem itL_succ(a b:List Int)(k:Nat):itL a b (k+1)=itL a b k ++ [gi a k,gi b k]:=by unfold itL;rw [List.range_succ,List.flatMap_append];rfl
theorem itL_len(a b:List Int):∀ k,(itL a b k).length=2*k
 | 0=>rfl
 | k+1=>by rw [itL_succ,List.length_append,itL_len a b k];simp;omega
def dmL(k:Nat)(ps:List (Int × Int))(j:Nat):List Int:=(List.range j).flatMap fun q=>itL (sfL k (pi ps q).1) (sfL k (pi ps q).2) k
theorem dmL_succ(k:Nat)(ps:List (Int × Int))(j:Nat):dmL k ps (j+1)=dmL k ps j ++ itL (sfL k (pi ps j).1) (sfL k (pi ps j).2) k:=by unfold dmL;rw [List.range_succ,List.flatMap_append];simp
theorem dmL_len(k:Nat)(ps:List (Int × Int)):∀ j,(dmL k ps j).length=2*k*j
 | 0=>rfl
 | j+1=>by rw [dmL_succ,List.length_append,dmL_len k ps j,itL_len,Nat.mul_succ]
theorem demod_any(m:Int)(k:Nat)(A:Option Addr)(n c:Nat)(ps:List (Int × Int))(w:World)(hm:m=2*(k:Int))(hk:1<=k/\k<=3)(h:R2 w A n c ps)(hok:∀ j,j<n->okP (pi ps j))(hn:n<=100000) :
 Calls prog 144 #[.int .i64 m,.slice A n c] w fun e w'=>∃ A' c',e= .returned (.tuple #[.slice A' (2*k*n) c',.int .i64 0])/\Own .i64 3 w' w.heap.size A' (2*k*n) c' (dmL k ps n)/\Below w.heap.size w w':=by
 have HR0:=aq h;have HOK:=aq hok;have HI:=aq (fun(j:Nat) (hj:j<n)=>fun W=>R2.ix h el2P hj .i64 W);have HC:=aq (fun W (h9:R2 W A n c ps)=>containsP_any A n c ps W h9 hok);have HVM:=aq (fun W=>qvalid_any m W);have hM:okM m=true:=by unfold okM;simp;omega
 rw [hM]at HVM;have hmk:m.tdiv 2=(k:Int):=by rw [hm,Int.tdiv_eq_ediv_of_nonneg (by omega)];omega
 have wk:IntKind.i64.wrap (k:Int)=k:=IntWalk.i64_in _ (by omega);clear hM h hok hm;go_enter func144,ntmps144;go_wp2_with fail;refine(HVM.o _).mono ?_;rintro e w1 ⟨rfl,rfl⟩;dsimp only;go_wp2_with fail;refine(HC.o _ HR0.o).mono ?_;rintro e w2 ⟨rfl,hB2⟩;have HR2:=aq (HR0.o.below hB2);have HB2:=aq hB2;clear hB2 HC HVM;dsimp only;go_wp2_with fail;go_loopw [21,6] (fun iv o wr=>∃ (j:Nat) (A':Option Addr) (c' L:Nat),j<=n/\iv= .int .i64 (j:Int)/\L=2*k*j/\o= .slice A' L c'/\Own .i64 3 wr w1.heap.size A' L c' (dmL k ps j)/\Below w1.heap.size w1 wr) (fun iv _ _=>n - (intOf iv).toNat)
 case atStart=>exact⟨0,none,0,0,Nat.zero_le _,rfl,rfl,rfl,Own.nilv .i64 3 _ _,HB2.o⟩
 case round =>
  obtain⟨j,A',c',L,hj,rfl,hL,rfl,hO,hB⟩:=hrel;have HO:=aq hO;have HB:=aq hB;have HL:=aq hL;clear hO hB hL;by_cases hlt:j<n
  . have hix:=HI.o j hlt
    have HRj:=aq (HR0.o.below HB.o);have hp:=HOK.o j hlt;have hLb:L<=600000:=by rw [HL.o];exact Nat.mul_le_mul (show 2*k<=6 by omega) (show j<=100000 by omega)
    have HDS:=aq (dmL_succ k ps j);have HPI:=aq (show pi ps j=((pi ps j).1,(pi ps j).2) from rfl);go_wp2_with (refine ld2 rfl 93 (.tmp 23) rfl rfl HRj.o hlt _ underlying93 rfl infoPt ?_);obtain⟨hy0,hy1⟩:=hp;clear HPI;generalize (pi ps j).1=y0 at *;generalize (pi ps j).2=y1 at *;obtain⟨XB,hXB⟩:∃ XB,XB=wr.heap.size:=⟨_,rfl⟩
    have hb0:Below wr.heap.size wr (wr.alloc (.cells #[.int .i64 y0,.int .i64 y1] 93)).drew:=((Below.refl _ wr).alloc (Nat.le_refl _) _).drew;have HX0:Hid (Blk (wr.alloc (.cells #[.int .i64 y0,.int .i64 y1] 93)).drew XB 93 [.int .i64 y0,.int .i64 y1]):=aq (Blk.new wr [.int .i64 y0,.int .i64 y1] 93 hXB).drew;have HG0:=aq (HB.o.trans (hb0.mono HB.o.size));have HO0:=aq (Ownv.below HO.o hb0);have HZ0:=aq hb0.size;have HAl:Hid (A'≠none->blk A'<wr.heap.size):=aq (fun hA=>(Ownv.blk_of HO.o hA).2);rw [<- hXB];clear hXB hb0 HRj HO HB hix;refine Q_start (fun W9=>Blk W9 XB 93 [.int .i64 y0,.int .i64 y1]) 9 12 ?_;generalize (wr.alloc (.cells #[.int .i64 y0,.int .i64 y1] 93)).drew=w4 at *;refine Q_W 0 25 1 (.int .i64 m) rfl HX0.o ?_;simp only [z0,z1,z2];refine Q_W 1 26 3 (.int .i64 (k:Int)) rfl HX0.o ?_;simp only [z0,z1,z2];refine Q_W 2 27 7 (.pointer (some ⟨XB,0,none⟩)) rfl HX0.o ?_;simp only [z0,z1,z2];refine Q_T 3 28 15 (.int .i64 y0) [4] rfl HX0.o (.inl ⟨by rfl,fun W hS=>by have s0:=Blk.cell hS (j:=0) (v:=.int .i64 y0) rfl;go_simp⟩) ?_;simp only [z0,z1,z2];refine Q_W 5 30 47 (.int .i64 m) rfl HX0.o ?_;simp only [z0,z1,z2];refine Q_W 6 31 111 (.int .i64 (k:Int)) rfl HX0.o ?_;simp only [z0,z1,z2];refine Q_W 7 32 239 (.pointer (some ⟨XB,1,none⟩)) rfl HX0.o ?_;simp only [z0,z1,z2];refine Q_T 8 33 495 (.int .i64 y1) [] rfl HX0.o (.inl ⟨by rfl,fun W hS=>by have s0:=Blk.cell hS (j:=1) (v:=.int .i64 y1) rfl;go_simp⟩) ?_;simp only [z0,z1,z2];refine Q_1S 4 511 rfl (fun K hK=>?_);go_simp;refine(softs_any k y0 _ hk hy0).mono ?_;rintro e w5 ⟨Aa,rfl,hOa,hwx⟩;have HX5:=aq (HX0.o.below hwx);have HW5:=aq hwx;have HG5:=aq (HG0.o.trans (hwx.mono HG0.o.size));have HA5:=aq hOa;clear hwx hOa;refine hK _ _ HX5.o ?_;clear hK K;refine Q_1 9 1023 rfl (fun K hK=>?_);go_simp;refine(softs_any k y1 _ hk hy1).mono ?_;rintro e w6 ⟨Ab,rfl,hOb,hwx⟩;have HG6:=aq (HG5.o.trans (hwx.mono HG5.o.size));have HA6:=aq (Ownv.below HA5.o hwx);have HAb:=aq hOb;have HW6:=aq (HW5.o.trans (hwx.mono HW5.o.size));have HZ45:=aq HW5.o.size;clear hwx hOb;refine hK _ _ ?_;clear hK K;refine Q_1 10 2047 rfl (fun K hK=>?_);go_simp;refine hK _ _ ?_;clear hK K;refine Q_1 11 4095 rfl (fun K hK=>?_);go_simp;refine hK _ _ ?_;clear hK K;refine Q_end ?_;go_wp2_with fail;obtain⟨la,hla⟩:∃ la,la=sfL k y0:=⟨_,rfl⟩
    obtain⟨lb,hlb⟩:∃ lb,lb=sfL k y1:=⟨_,rfl⟩
    rw [<- hla]at HA6 HDS;rw [<- hlb]at HAb HDS;clear hla hlb;have HO6:=aq (Ownv.below HO0.o HW6.o);have HLT:Hid (blk Aa<w6.heap.size/\blk Ab<w6.heap.size):=aq ⟨(Ownv.blk_ge HA6.o (by omega)).2,(Ownv.blk_ge HAb.o (by omega)).2⟩
    have HN0:Hid (A'≠none->blk A'≠blk Aa/\blk A'≠blk Ab):=aq (fun hA=>by
     have h1:=HAl.o hA;have h2:=(Ownv.blk_ge HA6.o (by omega)).1;have h3:=(Ownv.blk_ge HAb.o (by omega)).1;have h4:=HZ0.o;have h5:=HZ45.o
     omega)
    generalize dmL k ps j=D at *;go_loopw [37,6] (fun kv o wq=>∃ (q:Nat) (A4:Option Addr) (c4 n4:Nat),q<=k/\kv= .int .i64 (q:Int)/\n4=L+2*q/\o= .slice A4 n4 c4/\Own .i64 3 wq w1.heap.size A4 n4 c4 (D ++ itL la lb q)/\Rd .i64 wq Aa k k la/\Rd .i64 wq Ab k k lb/\Below w1.heap.size w1 wq/\(A4≠none->blk A4≠blk Aa/\blk A4≠blk Ab)/\w6.heap.size<=wq.heap.size) (fun kv _ _=>k - (intOf kv).toNat)
    case atStart=>exact⟨0,A',c',L,Nat.zero_le _,rfl,rfl,rfl,by show Own .i64 3 _ _ _ _ _ (D ++ []);rw [List.append_nil];exact HO6.o,HA6.o.rd,HAb.o.rd,HG6.o,HN0.o,Nat.le_refl _⟩
    case round =>
     obtain⟨q,A4,c4,n4,hq,rfl,hn4,rfl,hO4,hra,hrb,hB4,hne,hz⟩:=hrel;obtain⟨wx,hwx⟩:∃ x,x=wr:=⟨_,rfl⟩
     subst hwx;by_cases hqk:q<k
     . have HIT:=aq (itL_succ la lb q)
       have HOd:=aq (Ownv.drew hO4);have HR:Hid (Rd .i64 wx.drew Aa k k la/\Rd .i64 wx.drew Ab k k lb):=aq ⟨Rdv.drew hra,Rdv.drew hrb⟩;have HBd:=aq hB4.drew;have HNE:=aq hne;have HSZ:Hid (w6.heap.size<=wx.drew.heap.size):=aq hz;have HN4:=aq hn4;have hnb:n4<=600010:=by omega
       have hia:=fun W=>Rdv.ix hra el22 hqk .i64 W;have hib:=fun W=>Rdv.ix hrb el22 hqk .i64 W;clear hO4 hra hrb hB4 hne hz hn4;obtain⟨l4,hl4⟩:∃ l4,l4=D ++ itL la lb q:=⟨_,rfl⟩
       rw [<- hl4]at HOd;have HL4:=aq hl4.symm;clear hl4;go_wp2_with fail;refine Q_start (fun W9=>Rd .i64 W9 Aa k k la/\Rd .i64 W9 Ab k k lb) 9 12 ?_;generalize wx.drew=wd at *;refine Q_W 0 40 1 (.slice A4 n4 c4) rfl HR.o ?_;simp only [z0,z1,z2];refine Q_W 1 41 3 (.slice Aa k k) rfl HR.o ?_;simp only [z0,z1,z2];refine Q_W 2 42 7 (.int .i64 (q:Int)) rfl HR.o ?_;simp only [z0,z1,z2];refine Q_W 3 43 15 (.pointer (some (adr Aa q))) rfl HR.o ?_;simp only [z0,z1,z2];refine Q_T 4 44 31 (.int .i64 (gi la q)) [] rfl HR.o (.inl ⟨by rfl,fun W hS=>by have s0:=Rd.cell hS.1 hqk;go_simp⟩) ?_;simp only [z0,z1,z2];refine Q_W 5 45 63 (.slice Ab k k) rfl HR.o ?_;simp only [z0,z1,z2];refine Q_W 6 46 127 (.int .i64 (q:Int)) rfl HR.o ?_;simp only [z0,z1,z2];refine Q_W 7 47 255 (.pointer (some (adr Ab q))) rfl HR.o ?_;simp only [z0,z1,z2];refine Q_T 8 48 511 (.int .i64 (gi lb q)) [] rfl HR.o (.inl ⟨by rfl,fun W hS=>by have s0:=Rd.cell hS.2 hqk;go_simp⟩) ?_;simp only [z0,z1,z2];refine Q_1 9 1023 rfl (fun K hK=>?_);go_simp;refine hK _ _ ?_;clear hK K;refine Q_1 10 2047 rfl (fun K hK=>?_);refine wp_appF (w:=wd.alloc (.cells #[.int .i64 (gi la q),.int .i64 (gi lb q)] 3)) (base:=w1.heap.size) _ _ 51 rfl el22 rfl rfl (Ownv.alloc HOd.o _) (two_lit wd _ _ _) (by simp [Value.oneCell']) (by omega) (by unfold maxLen;omega) (by omega) (by have:=HBd.o.size;simp;omega) ?_;intro A6 c6 w8 h1 h2 h3;have HO8:Hid (Own .i64 3 w8 w1.heap.size A6 (n4+2) c6 (l4 ++ [gi la q,gi lb q])):=aq (Own.of_eq h1 rfl (by rw [List.map_append];rfl));have hg8:=grownBy_of_alloc h2;have HRa:=aq (Rdv.grown HR.o.1 hg8 (fun _=>ownB_ne (fun h=>(HNE.o h).1)));have HRb:=aq (Rdv.grown HR.o.2 hg8 (fun _=>ownB_ne (fun h=>(HNE.o h).2)));have HB8:=aq (HBd.o.grown hg8 HBd.o.size (fun kk hk=>Ownv.ob' HOd.o hk))
       have HNE8:Hid (A6≠none->blk A6≠blk Aa/\blk A6≠blk Ab):=aq (fun hA=>by
        rcases h3 with rfl | h3
        . exact HNE.o hA
        . have:=HLT.o;have:=HSZ.o;simp at h3;omega)
       have HSZ8:=aq (Nat.le_trans HSZ.o hg8.size);clear h1 h2 h3 hg8;refine hK _ _ ?_;clear hK K;refine Q_1 11 4095 rfl (fun K hK=>?_);go_simp;refine hK _ _ ?_;clear hK K;refine Q_end ?_;go_wp2;go_roundw
       case rel=>exact⟨q+1,A6,c6,n4+2,by omega,by go_num,by have:=HN4.o;omega,rfl,by rw [HIT.o,<- List.append_assoc,HL4.o];exact HO8.o,HRa.o,HRb.o,HB8.o,HNE8.o,HSZ8.o⟩
       case measure=>simp [intOf];omega
     . obtain rfl:q=k:=by omega
       have HOf:=aq hO4;have HBf:=aq hB4;have HNf:=aq hn4;clear hO4 hra hrb hB4 hne hz hn4;go_wp2;go_roundw
       case rel=>exact⟨j+1,A4,c4,n4,by omega,by go_num,by rw [HNf.o,HL.o,Nat.mul_succ],rfl,by rw [HDS.o];exact HOf.o,HBf.o⟩
       case measure=>simp [intOf];omega
  . obtain rfl:j=n:=by omega
    have hLe:=HL.o;subst hLe;go_wp2;exact bodyPost_ret (results_tmp2 rfl _ _ _) rfl ⟨A',c',rfl,HO.o,HB.o⟩
theorem rdv_lhm{P:Program}{w:World}{A:Option Addr}{n c:Nat}{vs:List Value}(h:Rdv w A n c vs){t e:TypeId}{z:Value}{bytes:Nat}(E:El P t e z bytes)(kl kh km:IntKind){l m:Nat}(hl:l<=m)(hm:m<=c)(W:World) :
 (Instr.sliceAt t (.slice A n c) (some (.int kl (l:Int))) (some (.int kh (m:Int))) (some (.int km (m:Int)))).run P W= .ok (.slice (cut A m l) (m - l) (m - l)) W:=by
 have e1:P.underlying t=some (.slice (P.elem t)):=by rw [E.u];simp [Program.elem,E.u]
 have e2:P.elem t=e:=by simp [Program.elem,E.u]
 rw [run_sliceAt_slice W t _ _ _ _ e1,run_slice_lhm W t A n c e1 kl kh km l m m (by omega) (by omega) (by omega) (by omega),e2,E.s];simp only [Result.andThen_ok,Int.toNat_natCast,sliced,Nat.mul_one,cut]
section
variable {F : Fence} {n : Nat} {P : Program} {ops : Array Oper} {Q : Exit -> Act -> World -> Prop} {md : Region.Mode} {S : World -> Prop} {p : Nat}
theorem PI_oneO(i:Nat)(l':Array Bool){fuel:Nat}{listed:Array Bool}{a:Act}{w:World}(hl:listed.setIfInBounds i true=l')(hr:Region.ready md ops listed=[i])(hp:l'.getD p true=true)
 (h:∀ K:Act->World->Prop,(∀ a' w',wpInP F n P md ops Q S p fuel l' a' w'->K a' w')->wpOpIn F n P ops Q i K a w):wpInP F n P md ops Q S p (fuel+1) listed a w:=by
 subst hl;refine⟨fun h0=>?_,fun j hj=>?_⟩
 . rw [hr]at h0
   cases h0
 . rw [hr]at hj
   have hj':j=i:=by simpa using hj
   subst hj';exact h _ fun _ _ h2=>⟨fun h9=>(by rw [hp]at h9;cases h9),h2⟩
theorem PI_oneY(i d:Nat)(v:Value)(l':Array Bool){oi:Oper}{fuel:Nat}{listed:Array Bool}{ts:Array Value}{ds:List Deferred}{w:World}(hro:F.round=none)(hi:ops[i]?=some oi)(hd:oi.dst=some d)(hl:listed.setIfInBounds i true=l')(hr:Region.ready md ops listed=[i])(hp:l'.getD p true=true)
 (hy:YieldsFor P ops (fun _=>True) oi v ⟨ts,ds⟩) (h:wpInP F n P md ops Q S p fuel l' ⟨ts.setIfInBounds d v,ds⟩ w):wpInP F n P md ops Q S p (fuel+1) listed ⟨ts,ds⟩ w :=
 PI_oneO i l' hl hr hp (fun K hK=>YieldsFor.goes (S:=fun _=>True) hro hi hy trivial (hK _ _ (by rw [hd];exact h)))
end
def encC(A:Option Addr)(M:Nat)(x:Nat):Array Value:=#[.slice (cut A (x*M+M) (x*M)) M M]
def OkC(N:Nat)(pre:List Nat)(x:Nat)(W:World):Prop:=pre.length<N/\x=pre.length
def KpC(SB NB:Nat)(A:Option Addr)(n c M:Nat)(W W':World):Prop:=(Blk W SB 53 [.slice A n c]->Blk W' SB 53 [.slice A n c])/\(Blk W NB 3 [.int .i64 (M:Int)]->Blk W' NB 3 [.int .i64 (M:Int)])
def CkQ(N:Nat)(J Jx:List Nat->World->Prop)(e:Ending)(W':World):Prop :=
 (∃ v,e= .returned v)/\((∃ xs:List Nat,xs.length=N/\J xs W')\/(∃ pre:List Nat,True/\Jx pre W'))
theorem chunk_rd{W:World}{A:Option Addr}{n c:Nat}{bs:List Int}(h:Rd .u8 W A n c bs){q M:Nat}(hq:q+M<=n):Rd .u8 W (cut A (q+M) q) M M ((bs.take (q+M)).drop q):=by
 have h1:Rd .u8 W A (q+M) c (bs.take (q+M)):=Rd.upto h hq;have h2:Rd .u8 W A (q+M) (q+M) (bs.take (q+M)):=Rdv.capn h1;have h3:=Rd.cut_ h2 (l:=q) (m:=q+M) (by omega) (Nat.le_refl _);rw [Nat.add_sub_cancel_left,List.take_take,Nat.min_self]at h3;exact h3
theorem chunk_in(d l M N n c SB NB:Nat)(A:Option Addr)(W:World)(vs:List Value)(hM:1<=M/\M<=6)(hn:n=N*M)(hr:Rdv W A n c vs)(hS:Blk W SB 53 [.slice A n c])(hN:Blk W NB 3 [.int .i64 (M:Int)])(J Jx:List Nat->World->Prop)(hJ:ClB J)(hJx:ClB Jx)
 (hY:∀ pre x W1,J pre W1->OkC N pre x W1->YieldAt Fence.wide (d+1) prog l (encC A M x) W1 fun e W' =>
   (e= .returned (.bool true)/\J (pre ++ [x]) W'/\KpC SB NB A n c M W1 W')\/(e= .returned (.bool false)/\Jx (pre ++ [x]) W'))
 (h0:J [] W):CallsIn Fence.wide (d+2) prog 280 #[.func (.yield l) #[] #[],.pointer (some ⟨SB,0,none⟩),.pointer (some ⟨NB,0,none⟩)] W (CkQ N J Jx):=by
 have HS0:=aq hS;have HN0:=aq hN;have H0:=aq h0;have hbd:=hr.bd;have hle:=hr.le;have HSL:=aq (fun(q:Nat) (hq:q<=n)=>fun W=>Rdv.sll hr el53 .i64 (l:=q) hq W);have HSH:=aq (fun(q:Nat) (hq:q+M<=n)=>fun W=>rdv_lhm hr el53 .i64 .i64 .i64 (l:=q) (m:=q+M) (by omega) (by omega) W);have HNM:=aq hn;have HNX:Hid (∀ j,j<N->j*M+M<=n):=aq (fun j hj=>by rw [hn,<- Nat.succ_mul];exact Nat.mul_le_mul_right M hj);have HNY:Hid (∀ j,j<=N->¬ j<N->j*M=n):=aq (fun j h1 h2=>by rw [hn,show j=N by omega]);clear hS hN h0 hr hn;refine callsIn_of_wp func280 rfl trivial ?_ rfl;simp only [ntmps280,List.size_toArray,List.length_cons,List.length_nil,Nat.reduceAdd,Nat.reduceSub,Array.replicate_succ,Array.replicate_zero,List.push_toArray,List.append_toArray,List.nil_append,List.cons_append];gi_wp2_with fail;gi_loopw [4] (fun iv wr=>∃ (j q:Nat) (pre:List Nat),j<=N/\q=j*M/\iv= .int .i64 (q:Int)/\pre.length=j/\J pre wr/\Blk wr SB 53 [.slice A n c]/\Blk wr NB 3 [.int .i64 (M:Int)]) (fun iv _=>n+M - (intOf iv).toNat)
 case atStart=>exact⟨0,0,[],Nat.zero_le _,(Nat.zero_mul _).symm,rfl,rfl,H0.o,HS0.o,HN0.o⟩
 case round =>
  obtain⟨j,q,pre,hj,hq,rfl,hpl,hJs,hs,hnb⟩:=hrel;have HJ:=aq hJs;have HS1:=aq hs;have HN1:=aq hnb;have HPL:=aq hpl;have HQ:=aq hq;have s0:=hs.cell (j:=0) (v:=.slice A n c) rfl;clear hJs hs hnb hpl hq;by_cases hlt:j<N
  . have hqM:q+M<=n:=by have:=HNX.o j hlt;rw [<- HQ.o]at this;exact this
    have hqn:(q:Int)<(n:Int):=by omega
    obtain⟨rr,hrr⟩:∃ rr,rr=n - q:=⟨_,rfl⟩
    have hsl:=HSL.o q (by omega);have hsh0:=HSH.o q hqM;rw [<- hrr]at hsl;have hsh:∀ W,(Instr.sliceAt 53 (.slice A n c) (some (.int .i64 (q:Int))) (some (.int .i64 ((q:Int)+(M:Int)))) (some (.int .i64 ((q:Int)+(M:Int))))).run prog W= .ok (.slice (cut A (q+M) q) M M) W:=fun W=>by
     have:=hsh0 W;rw [Nat.add_sub_cancel_left]at this;push_cast at this;exact this
    have hmin:¬ rr<M:=by omega
    have HS:Hid (Blk wr.drew NB 3 [.int .i64 (M:Int)]/\Blk wr.drew SB 53 [.slice A n c]):=aq ⟨HN1.o.drew,HS1.o.drew⟩;have HJ2:=aq (hJ pre wr wr.drew HJ.o (Below.refl _ wr).drew);clear hsh0 hrr;gi_wp2_with fail;refine wpIn_nopanic ?_;refine PI_start (fun W9=>Blk W9 NB 3 [.int .i64 (M:Int)]/\Blk W9 SB 53 [.slice A n c]) 6 7 #[false,false,false,false,false,false,false] (by kernel_rfl) (by kernel_rfl) (by kernel_rfl) ?_;generalize wr.drew=wd at *;refine PI_takeT 0 13 (.int .i64 (M:Int)) #[true,false,false,false,false,false,false] [5] rfl rfl rfl (by kernel_rfl) (by kernel_rfl) (by kernel_rfl) (by kernel_rfl) (by kernel_rfl) (by kernel_rfl) (by kernel_rfl) (by decide) (fun _ _ _ h=>h) ⟨Or.inl ⟨by rfl,fun W hS=>by have s0:=Blk.cell hS.1 (j:=0) (v:=.int .i64 (M:Int)) rfl;go_simp⟩,fun _=>rfl⟩ HS.o ?_;simp only [yq0,yq1,yq2];refine PI_takeT 1 14 (.slice A n c) #[true,true,false,false,false,false,false] [5,4,3] rfl rfl rfl (by kernel_rfl) (by kernel_rfl) (by kernel_rfl) (by kernel_rfl) (by kernel_rfl) (by kernel_rfl) (by kernel_rfl) (by decide) (fun _ _ _ h=>h) ⟨Or.inl ⟨by rfl,fun W hS=>by have s0:=Blk.cell hS.2 (j:=0) (v:=.slice A n c) rfl;go_simp⟩,fun _=>rfl⟩ HS.o ?_;simp only [yq0,yq1,yq2];refine PI_takeW 2 15 (.int .i64 (q:Int)) #[true,true,true,false,false,false,false] rfl rfl rfl (by kernel_rfl) (by kernel_rfl) (by kernel_rfl) (by kernel_rfl) (by decide) (fun _ _ _ h=>h) ⟨Or.inl ⟨by rfl,fun W hS=>by go_simp⟩,fun _=>rfl⟩ HS.o ?_;simp only [yq0,yq1,yq2];refine PI_takeW 3 16 (.slice (cut A c q) rr (c - q)) #[true,true,true,true,false,false,false] rfl rfl rfl (by kernel_rfl) (by kernel_rfl) (by kernel_rfl) (by kernel_rfl) (by decide) (fun _ _ _ h=>h) ⟨Or.inl ⟨by rfl,fun W hS=>by go_simp⟩,fun _=>rfl⟩ HS.o ?_;simp only [yq0,yq1,yq2];refine PI_takeW 4 17 (.int .i64 (rr:Int)) #[true,true,true,true,true,false,false] rfl rfl rfl (by kernel_rfl) (by kernel_rfl) (by kernel_rfl) (by kernel_rfl) (by decide) (fun _ _ _ h=>h) ⟨Or.inl ⟨by rfl,fun W hS=>by go_simp⟩,fun _=>rfl⟩ HS.o ?_;simp only [yq0,yq1,yq2];refine PI_takeW 5 18 (.int .i64 (M:Int)) #[true,true,true,true,true,true,false] rfl rfl rfl (by kernel_rfl) (by kernel_rfl) (by kernel_rfl) (by kernel_rfl) (by decide) (fun _ _ _ h=>h) ⟨Or.inl ⟨by rfl,fun W hS=>by go_simp⟩,fun _=>rfl⟩ HS.o ?_;simp only [yq0,yq1,yq2];refine PI_oneY 6 5 (.int .i64 (M:Int)) #[true,true,true,true,true,true,true] rfl rfl rfl rfl (by kernel_rfl) (by kernel_rfl) ⟨Or.inl ⟨by rfl,fun W hS=>by go_simp⟩,fun _=>rfl⟩ ?_;simp only [yq0,yq1,yq2];refine PI_done (by kernel_rfl) ?_ _;refine noPanic_normal ?_;have s1:=HS.o.2.cell (j:=0) (v:=.slice A n c) rfl;have s2:=HS.o.1.cell (j:=0) (v:=.int .i64 (M:Int)) rfl;clear s0;obtain⟨fn,tmps,assign,body,hy,hRD⟩:=hY pre j wd HJ2.o ⟨by rw [HPL.o];exact hlt,HPL.o.symm⟩;unfold encC at hy;rw [<- HQ.o]at hy;have HRD:=aq hRD;clear hRD;gi_wp2_with fail;refine HRD.o.mono ?_;rintro e W7 (⟨rfl,hJ7,hk7⟩ | ⟨rfl,hJx7⟩)
    . have HS7:=aq (hk7.1 HS.o.2)
      have HN7:=aq (hk7.2 HS.o.1);have s7:=HN7.o.cell (j:=0) (v:=.int .i64 (M:Int)) rfl;clear s1 s2 hk7;gi_wp2;go_roundw
      case rel=>exact⟨j+1,q+M,pre ++ [j],by omega,by rw [HQ.o,Nat.succ_mul],by go_num,by rw [List.length_append,HPL.o];rfl,hJ7,HS7.o,HN7.o⟩
      case measure=>simp [intOf];omega
    . gi_wp2
      go_end0;exact⟨⟨_,rfl⟩,.inr ⟨_,trivial,hJx7⟩⟩
  . have hqn:q=n:=by rw [HQ.o];exact HNY.o j hj hlt
    subst hqn;gi_wp2;go_end0;exact⟨⟨_,rfl⟩,.inl ⟨pre,by rw [HPL.o];omega,HJ.o⟩⟩
theorem chunk_any(M n c:Nat)(A:Option Addr)(w:World)(hM:1<=M):Calls prog 220 #[.slice A n c,.int .i64 (M:Int)] w fun e w'=>e= .returned (.func (.func 280) #[] #[.pointer (some ⟨w.heap.size,0,none⟩),.pointer (some ⟨w.heap.size+1,0,none⟩)])/\Blk w' w.heap.size 53 [.slice A n c]/\Blk w' (w.heap.size+1) 3 [.int .i64 (M:Int)]/\Below w.heap.size w w':=by
 have hmf:∀ (fn:Fn) (first cap:Array Value) (w:World),(Instr.makeFunc fn first cap).run prog w= .ok (.func fn first cap) w:=fun _ _ _ _=>rfl;have HX:=aq ((Blk.new w [.slice A n c] 53 rfl).alloc (.cells #[.int .i64 (M:Int)] 3));have HY:Hid (Blk ((w.alloc (.cells #[.slice A n c] 53)).alloc (.cells #[.int .i64 (M:Int)] 3)) (w.heap.size+1) 3 [.int .i64 (M:Int)]):=aq (Blk.new _ [.int .i64 (M:Int)] 3 (by simp));have HB:=aq (bal (bal (Below.refl w.heap.size w) (.cells #[.slice A n c] 53)) (.cells #[.int .i64 (M:Int)] 3));have c1:=HY.o.cell (j:=0) (v:=.int .i64 (M:Int)) rfl;have h1:¬ (M:Int)<1:=by omega
 go_enter func220,ntmps220;go_wp2;go_ret;exact⟨rfl,HX.o,HY.o,HB.o⟩
theorem o2_blk_ne{w:World}{B:Nat}{t e:TypeId}{cs:List Value}{base:Nat}{A:Option Addr}{n c:Nat}{ps:List (Int × Int)}(hB:Blk w B t cs)(hO:O2 e w base A n c ps)(ht:t≠e)(hA:A≠none):blk A≠B:=by
 obtain⟨-,h2⟩:=hO.cases;rcases h2 with⟨rfl,-⟩ | ⟨g,cur,rfl,-,hh,-⟩
 . exact absurd rfl hA
 . intro e1
   have e1:g=B:=e1;subst e1;have h':w.heap[g]?=some (.cells cs.toArray t (0,0)):=hB;rw [h']at hh;cases hh;exact ht rfl
theorem o2_ne{w:World}{B:Nat}{t e:TypeId}{cs:List Value}{base:Nat}{A:Option Addr}{n c:Nat}{ps:List (Int × Int)}(hB:Blk w B t cs)(hO:O2 e w base A n c ps)(ht:t≠e):some B≠(Value.slice A n c).ownBlock:=by
 cases A with
 | none=>simp [Value.ownBlock]
 | some a=>intro h;exact o2_blk_ne hB hO ht (by simp) (Option.some.inj h).symm
theorem o2_cells{w:World}{e:TypeId}{base:Nat}{A:Option Addr}{n c:Nat}{ps:List (Int × Int)}(h:O2 e w base A n c ps):∀ (j:Nat) (o:Obj),(Value.slice A n c).ownBlock=some j->w.heap[j]?=some o->o.isCells=true:=by
 intro j o hj ho;obtain⟨-,h2⟩:=h.cases;rcases h2 with⟨rfl,-⟩ | ⟨g,cur,rfl,-,hh,-⟩
 . cases hj
 . have e1:g=j:=by simpa [Value.ownBlock] using hj
   subst e1;rw [hh]at ho;cases ho;rfl
theorem o2_put{w:World}{e:TypeId}{base:Nat}{A:Option Addr}{n c:Nat}{ps:List (Int × Int)}(h:O2 e w base A n c ps){l:Nat}{o:Obj}(o':Obj)(hl:w.heap[l]?=some o)(ho:o.isCells=false):O2 e (w.putObj l o') base A n c ps:=by
 refine h.grown (grownBy_putObj' w l o') (fun hA he=>?_);obtain⟨-,h2⟩:=h.cases;rcases h2 with⟨rfl,-⟩ | ⟨g,cur,rfl,-,hh,-⟩
 . exact hA rfl
 . have e1:g=l:=Option.some.inj he
   subst e1;rw [hh]at hl;cases hl;cases ho
def mdP(k:Nat)(bs:List Int)(j:Nat):Int × Int:=(16*levI (ptL ((bs.take (j*(2*k)+2*k)).drop (j*(2*k))) 0 k),16*levI (ptL ((bs.take (j*(2*k)+2*k)).drop (j*(2*k))) 1 k))
def mdL(k:Nat)(bs:List Int)(j:Nat):List (Int × Int):=(List.range j).map (mdP k bs)
theorem mdL_succ(k:Nat)(bs:List Int)(j:Nat):mdL k bs (j+1)=mdL k bs j ++ [mdP k bs j]:=by unfold mdL;rw [List.range_succ,List.map_append];rfl
theorem mdL_len(k:Nat)(bs:List Int)(j:Nat):(mdL k bs j).length=j:=by simp [mdL]
structure MdK (w:World) (XB:Nat) (l:List (Int × Int)) (W:World):Prop where
 o:∃ A' c',Blk W XB 64 [.slice A' l.length c']/\O2 93 W w.heap.size A' l.length c' l
 bl:Below w.heap.size w W
section
variable {w W W2 : World} {XB : Nat} {l : List (Int × Int)}
theorem MdK.below(h:MdK w XB l W)(hb:Below W.heap.size W W2):MdK w XB l W2:=by
 obtain⟨A',c',h1,h2⟩:=h.o;exact⟨⟨A',c',h1.below hb,h2.below hb⟩,h.bl.trans (hb.mono h.bl.size)⟩
theorem MdK.clP(h:MdK w XB l W){k:Nat}{o:Obj}(o':Obj)(hk:W.heap[k]?=some o)(ho:o.isCells=false)(hw:w.heap.size<=k):MdK w XB l (W.putObj k o'):=by
 obtain⟨A',c',h1,h2⟩:=h.o;exact⟨⟨A',c',Blk.put h1 o' hk ho,o2_put h2 o' hk ho⟩,h.bl.grown (grownBy_putObj' W k o') h.bl.size (fun q e=>by cases e;exact hw)⟩
theorem MdK.next(h:MdK w XB l W){A A2:Option Addr}{c c2:Nat}{p:Int × Int}(hX:Blk W XB 64 [.slice A l.length c])(hO:O2 93 W w.heap.size A l.length c l)(hd:w.heap.size<=XB)(hO2:O2 93 W2 w.heap.size A2 (l.length+1) c2 (l ++ [p]))(hg:W.grownBy W2 ((Value.slice A l.length c).ownBlock)) :
 KeepsOthers W (W2.setCell ⟨XB,0,none⟩ (.slice A2 (l.length+1) c2))/\(∀ SB NB A0 n0 c0 M,KpC SB NB A0 n0 c0 M W (W2.setCell ⟨XB,0,none⟩ (.slice A2 (l.length+1) c2)))/\MdK w XB (l ++ [p]) (W2.setCell ⟨XB,0,none⟩ (.slice A2 (l.length+1) c2)):=by
 have hx2:Blk W2 XB 64 [.slice A l.length c]:=hX.grown hg (o2_ne hX hO (by decide));have hO3:O2 93 (W2.setCell ⟨XB,0,none⟩ (.slice A2 (l.length+1) c2)) w.heap.size A2 (l.length+1) c2 (l ++ [p]):=hO2.grown (grownBy_set W2 XB 0 _) (fun hA he=>o2_blk_ne hx2 hO2 (by decide) hA (Option.some.inj he));have keep:∀ {b:Nat} {t:TypeId} {v:Value},t≠93->t≠64->Blk W b t [v]->Blk (W2.setCell ⟨XB,0,none⟩ (.slice A2 (l.length+1) c2)) b t [v]:=fun {b t v} ht ht2 hb=>by
  have h1:Blk W2 b t [v]:=hb.grown hg (o2_ne hb hO ht);refine Blk.other h1 (fun e=>?_) 0 _;subst e;have e1:W2.heap[XB]?=some (.cells #[v] t (0,0)):=h1;have e2:W2.heap[XB]?=some (.cells #[.slice A l.length c] 64 (0,0)):=hx2;rw [e1]at e2;cases e2;exact ht2 rfl
 refine⟨(KeepsOthers.of_grownBy hg (o2_cells hO)).trans (KeepsOthers.setCell _ _ _),fun SB NB A0 n0 c0 M=>⟨keep (by decide) (by decide),keep (by decide) (by decide)⟩,⟨⟨A2,c2,?_,?_⟩,?_⟩⟩
 . rw [List.length_append];exact hx2.set 0 _
 . rw [List.length_append];exact hO3
 . exact(h.bl.grown hg h.bl.size (fun k hk=>hO.ob' hk)).setCell (p:=⟨XB,0,none⟩) hd _
end
theorem mod_any(m:Int)(k N:Nat)(A:Option Addr)(n c:Nat)(bs:List Int)(w:World)(hm:m=2*(k:Int))(hk:1<=k/\k<=3)(h:Rd .u8 w A n c bs)(hn:n=N*(2*k))(hNb:N<=1000000)(hbit:∀ x ∈ bs,x=0\/x=1)(hv:ValidB bs=true) :
 Calls prog 151 #[.int .i64 m,.slice A n c] w fun e w'=>∃ A' c',e= .returned (.tuple #[.slice A' N c',.int .i64 0])/\O2 93 w' w.heap.size A' N c' (mdL k bs N)/\Below w.heap.size w w':=by
 obtain⟨M,hMe⟩:∃ M,M=2*k:=⟨_,rfl⟩
 have hmM:m=(M:Int):=by omega
 subst hmM;have HVM:=aq (fun W=>qvalid_any (M:Int) W);have hM:okM (M:Int)=true:=by unfold okM;simp;omega
 rw [hM]at HVM;have hM6:1<=M/\M<=6:=by omega
 have hrem:(n:Int).tmod (M:Int)=0:=by rw [hn,<- hMe,Int.tmod_eq_emod_of_nonneg (by omega)];push_cast;exact Int.mul_emod_left _ _
 have hM0:((M:Int) == 0)=false:=beq_f (by omega);have hM0':¬ (M:Int)=0:=by omega
 have HC:=aq (containsQ_any A n c bs w h);rw [hv,Bool.not_true]at HC;have HR:=aq h;have HCK:=aq (fun W=>chunk_any M n c A W hM6.1);have HNM:Hid (n=N*M):=aq (by rw [hn,hMe]);have HBT:=aq hbit;have HMK:=aq hMe;clear hM hv h hm hn hbit hMe;refine(callsIn_wide (n:=3)).1 ?_;refine callsIn_of_wp_marks func151 rfl trivial ?_;simp only [ntmps151,List.size_toArray,List.length_cons,List.length_nil,Nat.reduceAdd,Nat.reduceSub,Array.replicate_succ,Array.replicate_zero,List.push_toArray,List.append_toArray,List.nil_append,List.cons_append];refine wpIn_wide.2 ?_;go_wp2_with fail;refine(HVM.o _).mono ?_;rintro e w1 ⟨rfl,rfl⟩;dsimp only;go_wp2_with fail;refine HC.o.mono ?_;rintro e w2 ⟨rfl,hw2⟩;subst hw2;dsimp only;go_wp2_with fail;obtain⟨XB,hXB⟩:∃ XB,XB=w1.heap.size:=⟨_,rfl⟩
 have hx0:Blk (w1.alloc (.cells #[.slice none 0 0] 64)) XB 64 [.slice none 0 0]:=Blk.new w1 [.slice none 0 0] 64 hXB;have hb0:=(Below.refl w1.heap.size w1).alloc (Nat.le_refl _) (.cells #[.slice none 0 0] 64);have HXG:Hid (w1.heap.size<=XB):=aq (by omega);refine(HCK.o _).mono ?_;rintro e w6 ⟨rfl,hSB,hNB,hB6⟩;rw [<- hXB];dsimp only;have HK:Hid (MdK w1 XB [] w6):=aq ⟨⟨none,0,hx0.below hB6,O2.nilv _ _ _⟩,hb0.trans (hB6.mono hb0.size)⟩;obtain⟨SB,hSBe⟩:∃ SB,SB=(w1.alloc (.cells #[.slice none 0 0] 64)).heap.size:=⟨_,rfl⟩
 obtain⟨NB,hNBe⟩:∃ NB,NB=(w1.alloc (.cells #[.slice none 0 0] 64)).heap.size+1:=⟨_,rfl⟩
 rw [<- hNBe]at hNB ⊢;rw [<- hSBe]at hSB ⊢;have HSB:=aq hSB;have HNB:=aq hNB;have HF6:Hid (∀ D,w6.heap.size<=D->w1.heap.size<=D):=aq (fun D h=>Nat.le_trans HK.o.bl.size h);clear hXB hx0 hb0 hB6 hSBe hNBe hSB hNB HC HVM HCK;have HSEQ:Hid (SeqW (0+2) 1 280 #[.pointer (some ⟨SB,0,none⟩),.pointer (some ⟨NB,0,none⟩)] (encC A M) (KpC SB NB A n c M) (fun xs=>xs.length=N) (fun _=>True) (OkC N) w6):=aq (fun l J Jx W hB hJ hJx hY h0=>chunk_in 0 l M N n c SB NB A W _ hM6 HNM.o (Rdv.below (Rdv.below HR.o HK.o.bl) hB) (HSB.o.below hB) (HNB.o.below hB) J Jx hJ hJx hY h0);go_wp2_with fail;refine(wpIn_wide (n:=0+3)).1 ?_;refine' rangeW (d:=0) (y:=1) (w0:=w6) (gf:=280) (lb:=#[.pointer (some ⟨SB,0,none⟩),.pointer (some ⟨NB,0,none⟩)]) rfl (enters_of func280 (by kernel_rfl) rfl) HSEQ.o
  (fun pre x W l o o' h hl ho=>h) (fun h1 h2=>⟨fun h=>h2.1 (h1.1 h),fun h=>h2.2 (h1.2 h)⟩) (fun W l o o' hl h1 h2=>⟨fun h=>Blk.put h o' h1 h2,fun h=>Blk.put h o' h1 h2⟩) (Below.refl _ _) (fun _=>rfl)
  (fun pre W=>pre.length<=N/\MdK w1 XB (mdL k bs pre.length) W)
  (fun _ _ _=>False)
  (fun s X Y h hb=>⟨h.1,h.2.below hb⟩) (fun cd s X Y h hb=>h)
  (fun s X l o o' h hl hk ho=>⟨h.1,h.2.clP o' hk ho (HF6.o _ hl)⟩) (fun cd s X l o o' h hl hk ho=>h)
  ⟨Nat.zero_le _,HK.o⟩ _ ?assign ?body ?done ?stop
 case assign =>
  intro l x W K hK;unfold encC;gi_wp2;exact hK
 case stop =>
  rintro D cd pre W hD _ h;exact h.elim
 case done =>
  rintro D xs W hD hxs ⟨-,hI⟩ hK;obtain⟨A7,c7,hX7,hO7⟩:=hI.o;rw [hxs,mdL_len]at hX7;rw [hxs,mdL_len]at hO7;have cX:=hX7.cell (j:=0) (v:=.slice A7 N c7) rfl;have HO9:=aq (o2_put hO7 (.deferred none) hK rfl);have HB9:=aq (hI.bl.grown (grownBy_putObj' W D (.deferred none)) hI.bl.size (fun kk e=>by cases e;exact HF6.o _ hD));clear hX7 hO7 hI;go_wp2;refine⟨by simp,.inl ⟨_,_,rfl,run_takeDeferred hK,?_⟩⟩;exact⟨_,results_tmp2 rfl _ _ _,A7,c7,rfl,HO9.o,HB9.o⟩
 case body =>
  rintro l pre x W ⟨-,hI⟩ ⟨hlt,hxe⟩;subst hxe;obtain⟨g,hg⟩:∃ g,g=pre.length:=⟨_,rfl⟩
  have hl1':∀ x:Nat,(pre ++ [x]).length=g+1:=fun x=>by rw [List.length_append,hg];rfl
  have HPL:=aq hl1';rw [<- hg]at hI hlt ⊢;clear hg hl1';obtain⟨q,hq⟩:∃ q,q=g*M:=⟨_,rfl⟩
  have hqM:q+M<=n:=by rw [hq,HNM.o,<- Nat.succ_mul];exact Nat.mul_le_mul_right M hlt
  have hrg:Rd .u8 W (cut A (q+M) q) M M ((bs.take (q+M)).drop q):=chunk_rd (Rdv.below HR.o hI.bl) hqM;have HML:=aq (mdL_succ k bs g);have HMP:Hid (mdP k bs g=(16*levI (ptL ((bs.take (q+M)).drop q) 0 k),16*levI (ptL ((bs.take (q+M)).drop q) 1 k))):=aq (by rw [hq,HMK.o];rfl);have hbg:∀ x ∈ (bs.take (q+M)).drop q,x=0\/x=1:=fun x hx=>HBT.o x (List.mem_of_mem_take (List.mem_of_mem_drop hx));obtain⟨grp,hgrp⟩:∃ grp,grp=(bs.take (q+M)).drop q:=⟨_,rfl⟩
  rw [<- hgrp]at hrg HMP hbg;rw [<- hq];have HGL:=aq hrg.len
  have HPT:Hid (∀ f:Nat,f<=1->∀ W9,Rd .u8 W9 (cut A (q+M) q) M M grp->Calls prog 222 #[.slice (cut A (q+M) q) M M,.int .i64 (f:Int)] W9 fun e w'=>∃ A' c',e= .returned (.slice A' k c')/\Own .u8 5 w' W9.heap.size A' k c' (ptL grp f k)/\Below W9.heap.size W9 w'):=aq (fun f hf W9 h9=>by
   have:=part_any _ M M grp f W9 h9 (by omega) hf;rw [show ptN M f=k by unfold ptN;have:=HMK.o;omega]at this
   exact this)
  have HLV:Hid (∀ f:Nat,f<=1->∀ A' c' W9,Rd .u8 W9 A' k c' (ptL grp f k)->Calls prog 221 #[.slice A' k c'] W9 fun e w'=>e= .returned (.int .i64 (levI (ptL grp f k)))/\Qt W9 w'):=aq (fun f hf A' c' W9 h9=>(level_any k hk.2 A' c' _ W9 h9 (fun x hx=>by
   obtain⟨z,hz,rfl⟩:=List.mem_map.1 hx;have hz2:f+2*z<grp.length:=by rw [HGL.o];have:=HMK.o;have:=List.mem_range.1 hz;omega
   exact hbg _ (gi_mem grp _ hz2))).2)
  have hlb:∀ f:Nat,f<=1->-7<=levI (ptL grp f k)/\levI (ptL grp f k)<=7:=fun f hf=>by
   have h1:=levI_bd (ptL grp f k) (by rw [ptL_len];exact hk.2) (fun x hx=>by
    obtain⟨z,hz,rfl⟩:=List.mem_map.1 hx;have hz2:f+2*z<grp.length:=by rw [HGL.o];have:=HMK.o;have:=List.mem_range.1 hz;omega
    exact hbg _ (gi_mem grp _ hz2))
   have h2:(2:Int) ^ (ptL grp f k).length<=8:=by
    rw [ptL_len];rcases (by omega:k=1\/k=2\/k=3) with rfl | rfl | rfl<;>decide
   omega
  have hv0:=hlb 0 (by omega);have hv1:=hlb 1 (by omega);have HPT0:=aq (HPT.o 0 (by omega));have HPT1:=aq (HPT.o 1 (by omega));have HLV0:=aq (HLV.o 0 (by omega));have HLV1:=aq (HLV.o 1 (by omega));have HI:=aq (hI.below (Below.refl _ W).drew);have HKO:=aq (KeepsOthers.drew W);have HKP:Hid (KpC SB NB A n c M W W.drew):=aq ⟨fun h=>h.drew,fun h=>h.drew⟩;obtain⟨A7,c7,hX7,hO7⟩:=HI.o.o;have HO:=aq hO7;have HS:Hid (Blk W.drew XB 64 [.slice A7 (mdL k bs g).length c7]/\Rd .u8 W.drew (cut A (q+M) q) M M grp):=aq ⟨hX7,Rdv.drew hrg⟩;have HG:Hid (Below W.drew.heap.size W.drew W.drew):=aq (Below.refl _ _);have hn7:=mdL_len k bs g;clear hX7 hO7 hI hrg hbg hgrp HPT HLV hlb hq;generalize levI (ptL grp 0 k)=v0 at *;generalize levI (ptL grp 1 k)=v1 at *;generalize mdL k bs g=lg at *;have hn7b:lg.length<1000001:=by omega
  clear hn7;have w16a:IntKind.i64.wrap (16*v0)=16*v0:=IntWalk.i64_in _ (by omega);have w16b:IntKind.i64.wrap (16*v1)=16*v1:=IntWalk.i64_in _ (by omega);gi_wp2_with fail;refine Q_startR (fun W9=>Blk W9 XB 64 [.slice A7 lg.length c7]/\Rd .u8 W9 (cut A (q+M) q) M M grp) 11 13 (fun⟨_,_,h⟩=>h) ?_;generalize W.drew=wd at *;refine Q_T 0 26 1 (.slice A7 lg.length c7) [] rfl HS.o (.inl ⟨by rfl,fun W hS=>by have s0:=Blk.cell hS.1 (j:=0) (v:=.slice A7 lg.length c7) rfl;go_simp⟩) ?_;simp only [z0,z1,z2];refine Q_W 1 27 3 (.slice (cut A (q+M) q) M M) rfl HS.o ?_;simp only [z0,z1,z2];refine Q_W 5 31 35 (.slice (cut A (q+M) q) M M) rfl HS.o ?_;simp only [z0,z1,z2];refine Q_1S 2 39 rfl (fun K hK=>?_);go_simp;refine(HPT0.o _ HS.o.2).mono ?_;rintro e w2 ⟨Ap2,cp2,rfl,hOp,hwx⟩;have HS2:Hid (Blk w2 XB 64 [.slice A7 lg.length c7]/\Rd .u8 w2 (cut A (q+M) q) M M grp):=aq ⟨HS.o.1.below hwx,Rdv.below HS.o.2 hwx⟩;have HG2:=aq (HG.o.trans (hwx.mono HG.o.size));have HR2:=aq hOp.rd;clear hwx hOp;refine hK _ _ HS2.o ?_;clear hK K;refine Q_1S 3 47 rfl (fun K hK=>?_);go_simp;refine(HLV0.o _ _ _ HR2.o).mono ?_;rintro e w3 ⟨rfl,hq⟩;have hwx:=hq.below w2.heap.size;have HS3:Hid (Blk w3 XB 64 [.slice A7 lg.length c7]/\Rd .u8 w3 (cut A (q+M) q) M M grp):=aq ⟨HS2.o.1.below hwx,Rdv.below HS2.o.2 hwx⟩;have HG3:=aq (HG2.o.trans (hwx.mono HG2.o.size));clear hwx hq;refine hK _ _ HS3.o ?_;clear hK K;refine Q_W 4 30 63 (.int .i64 (16*v0)) rfl HS3.o ?_;simp only [z0,z1,z2];refine Q_1S 6 127 rfl (fun K hK=>?_);go_simp;refine(HPT1.o _ HS3.o.2).mono ?_;rintro e w6 ⟨Ap6,cp6,rfl,hOp,hwx⟩;have HS6:Hid (Blk w6 XB 64 [.slice A7 lg.length c7]/\Rd .u8 w6 (cut A (q+M) q) M M grp):=aq ⟨HS3.o.1.below hwx,Rdv.below HS3.o.2 hwx⟩;have HG6:=aq (HG3.o.trans (hwx.mono HG3.o.size));have HR6:=aq hOp.rd;clear hwx hOp;refine hK _ _ HS6.o ?_;clear hK K;refine Q_1S 7 255 rfl (fun K hK=>?_);go_simp;refine(HLV1.o _ _ _ HR6.o).mono ?_;rintro e w7 ⟨rfl,hq⟩;have hwx:=hq.below w6.heap.size;have HS7:Hid (Blk w7 XB 64 [.slice A7 lg.length c7]/\Rd .u8 w7 (cut A (q+M) q) M M grp):=aq ⟨HS6.o.1.below hwx,Rdv.below HS6.o.2 hwx⟩;have HG7:=aq (HG6.o.trans (hwx.mono HG6.o.size));clear hwx hq;refine hK _ _ HS7.o ?_;clear hK K;refine Q_W 8 34 511 (.int .i64 (16*v1)) rfl HS7.o ?_;simp only [z0,z1,z2];refine Q_W 9 35 1023 (.agg #[.int .i64 (16*v0),.int .i64 (16*v1)]) rfl HS7.o ?_;simp only [z0,z1,z2];refine Q_1S 10 2047 rfl (fun K hK=>?_);go_simp;refine hK _ _ ?_ ?_
  . exact⟨HS7.o.1.alloc _,Rdv.alloc HS7.o.2 _⟩
  clear hK K;have HX7:=aq HS7.o.1;have HO7:=aq (HO.o.below HG7.o);have HI7:=aq (HI.o.below HG7.o);have HG7b:=aq (HI.o.bl.trans (HG7.o.mono HI.o.bl.size));refine Q_1 11 4095 rfl (fun K hK=>?_);refine wp_app2 (w:=w7) (base:=w1.heap.size) _ _ 64 rfl el2P rfl (16*v0,16*v1) rfl HO7.o (by omega) HG7b.o.size ?_;intro A6 c6 w8 h1 h2;have HN:=aq (MdK.next HI7.o HX7.o HO7.o HXG.o h1 h2);have hx8:=HX7.o.grown h2 (o2_ne HX7.o HO7.o (by decide));have c8:=hx8.cell (j:=0) (v:=.slice A7 lg.length c7) rfl;have f8:=hx8.frozen 0;clear h1 h2;refine hK _ _ ?_;clear hK K;refine Q_1 12 8191 rfl (fun K hK=>?_);go_simp;refine hK _ _ ?_;clear hK K;refine Q_end ?_;gi_wp2;refine⟨HKO.o.trans ((KeepsOthers.of_grownBy (gb_below HG7.o none) (fun j o e=>by cases e)).trans HN.o.1),⟨fun h=>(HN.o.2.1 SB NB A n c M).1 ((HKP.o.1 h).below HG7.o),fun h=>(HN.o.2.1 SB NB A n c M).2 ((HKP.o.2 h).below HG7.o)⟩,?_⟩;show(pre ++ [_]).length<=N/\MdK w1 XB (mdL k bs (pre ++ [_]).length) _;rw [HPL.o,HML.o,HMP.o];exact⟨hlt,HN.o.2.2⟩
end Go.Proofs.YthmhogdceolkdaaGreat.Cr