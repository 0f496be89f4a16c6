/- Bundle. Conditions: none. -/
import Derived.Test.YthmhogdceolkdaaGreatBqas
import Derived.Lib.SliceRun
set_option linter.unusedVariables false
set_option linter.unusedSimpArgs false
namespace Go.Proofs.YthmhogdceolkdaaGreat.Cr
open Tryz
open Go.RowKit
set_option maxRecDepth 100000
def pS(N s j:Nat):Nat:=if s=0 then j else N+2*j+s - 1
theorem pS_lt{N s j:Nat}(hs:s<=2)(hj:j<N):pS N s j<3*N:=by unfold pS;split<;>omega
theorem pS_iff{N s j x:Nat}(hs:s<=2)(hj:j<N)(hx:x<3*N):(sxN N x=s/\jxN N x=j)↔pS N s j=x:=by
 unfold sxN jxN pS;split<;>split<;>omega
theorem jxN_lt{N x:Nat}(hx:x<3*N):jxN N x<N:=by unfold jxN;split<;>omega
theorem sxN_le(N x:Nat):sxN N x<=2:=by unfold sxN;split<;>omega
def fuV(k f s j x:Nat):Int:=if sxN (nB k) x<s\/(sxN (nB k) x=s/\jxN (nB k) x<j) then vX k f x else 0
def fulS(k f s j:Nat):List Int:=(List.range (3*nB k)).map (fuV k f s j)
theorem fulS_len(k f s j:Nat):(fulS k f s j).length=3*nB k:=by simp [fulS]
theorem fulS_gi(k f s j x:Nat)(h:x<3*nB k):gi (fulS k f s j) x=fuV k f s j x:=by
 rw [gi_eq _ _ (by rw [fulS_len];exact h)];simp [fulS]
theorem fulS_set{k f s j:Nat}(hs:s<=2)(hj:j<nB k):(fulS k f s j).set (pS (nB k) s j) (elV k f s (ordV (k+4) s j))=fulS k f s (j+1):=by
 refine ext_gi (by simp [fulS_len]) fun x hx=>?_;have hx':x<3*nB k:=by simpa [fulS_len] using hx
 rw [gi_set _ _ _ _ (by rw [fulS_len];exact pS_lt hs hj),fulS_gi _ _ _ _ _ hx',fulS_gi _ _ _ _ _ hx'];have hi:=pS_iff hs hj hx';by_cases e:pS (nB k) s j=x
 . rw [if_pos e]
   obtain⟨e1,e2⟩:=hi.2 e;unfold fuV;rw [if_pos (.inr ⟨e1,by omega⟩)];unfold vX;rw [e1,e2]
 . rw [if_neg e]
   have h9:¬ (sxN (nB k) x=s/\jxN (nB k) x=j):=fun h=>e (hi.1 h);unfold fuV;by_cases h8:sxN (nB k) x<s\/(sxN (nB k) x=s/\jxN (nB k) x<j)
   . rw [if_pos h8,if_pos (by omega)]
   . rw [if_neg h8,if_neg (by omega)]
theorem fulS_next(k f s:Nat):fulS k f s (nB k)=fulS k f (s+1) 0:=by
 refine ext_gi (by rw [fulS_len,fulS_len]) fun x hx=>?_;rw [fulS_len]at hx;rw [fulS_gi _ _ _ _ _ hx,fulS_gi _ _ _ _ _ hx];have:=jxN_lt hx;unfold fuV;by_cases h8:sxN (nB k) x<s+1
 . rw [if_pos (by omega),if_pos (.inl h8)]
 . rw [if_neg (by omega),if_neg (by omega)]
theorem fulS_all(k f:Nat):fulS k f 3 0=bufL k f:=by
 refine ext_gi (by rw [fulS_len,bufL,bufT_len]) fun x hx=>?_;rw [fulS_len]at hx;have:=sxN_le (nB k) x;rw [fulS_gi _ _ _ _ _ hx,bufL,bufT_gi _ _ _ _ hx];unfold fuV;rw [if_pos (.inl (by omega))]
theorem fulS_none(k f:Nat):fulS k f 0 0=List.replicate (3*nB k) 0:=by
 refine List.ext_getElem (by simp [fulS]) fun x h1 h2=>?_;simp [fulS,fuV]
theorem at0_any(s d SB DB:Nat)(i:Int)(w:World)(hS:Blk w SB 3 [.int .i64 s])(hD:Blk w DB 3 [.int .i64 d])(hs:s<=2)(hd:d<=6148)(h1:0<=i)(h2:i<=7000):Calls prog 320 #[.int .i64 i,.pointer (some ⟨SB,0,none⟩),.pointer (some ⟨DB,0,none⟩)] w fun e w'=>e= .returned (.int .i64 (((s*d:Nat):Int)+i))/\w=w':=by
 have c1:=hS.cell (j:=0) (v:=.int .i64 s) rfl;have c2:=hD.cell (j:=0) (v:=.int .i64 d) rfl;have hm:(s:Int)*(d:Int)=((s*d:Nat):Int):=by push_cast;rfl
 have hb:s*d<=12296:=by have:=Nat.mul_le_mul hs hd;omega
 generalize s*d=P at *;go_enter func320,ntmps320;go_wp2;go_ret;exact⟨rfl,by trivial⟩
theorem at_lo{k f s:Nat}{i:Int}(h1:0<=i)(h:s<2->(f:Int)<=i):((s*(k+4):Nat):Int)+i=elV k f s i:=by
 unfold elV;rw [if_neg (by omega)]
theorem at_hi{k f s:Nat}{i:Int}(h:i<(f:Int))(hs:s<2):elV k f s i = -1:=by
 unfold elV;rw [if_pos (.inr ⟨hs,h⟩)]
theorem at1_any(k f s WB PB SB DB:Nat)(R Z:Value)(i:Int)(w:World)(hW:Blk w WB 280 [.int .i64 k,.int .i64 f,R,Z])(hP:Blk w PB 176 [.func (.func 320) #[] #[.pointer (some ⟨SB,0,none⟩),.pointer (some ⟨DB,0,none⟩)]])(hS:Blk w SB 3 [.int .i64 s])(hD:Blk w DB 3 [.int .i64 ((k+4:Nat):Int)])(hs:s<2)(hk:k<=6144)(h1:0<=i)(h2:i<=7000) :
 Calls prog 321 #[.int .i64 i,.pointer (some ⟨WB,0,none⟩),.pointer (some ⟨PB,0,none⟩)] w fun e w'=>e= .returned (.int .i64 (elV k f s i))/\w=w':=by
 have c1:=hW.cell (j:=1) (v:=.int .i64 f) rfl;by_cases h:i<(f:Int)
 . rw [at_hi h hs]
   have q:decide (i<(f:Int))=true:=by simp [h]
   go_enter func321,ntmps321;go_wp2;go_ret;exact⟨rfl,by trivial⟩
 . have q:decide (i<(f:Int))=false:=by simp;omega
   have c2:=hP.cell (j:=0) (v:=.func (.func 320) #[] #[.pointer (some ⟨SB,0,none⟩),.pointer (some ⟨DB,0,none⟩)]) rfl;have HA:=aq (at0_any s (k+4) SB DB i w hS hD (by omega) (by omega) h1 h2);rw [at_lo (k:=k) (f:=f) (s:=s) h1 (fun _=>by omega)]at HA;go_enter func321,ntmps321;go_wp2_with fail;refine HA.o.mono ?_;rintro e w' ⟨rfl,rfl⟩;go_wp2;go_ret;exact⟨rfl,by trivial⟩
set_option maxHeartbeats 4000000
def W115(WB k R:Nat)(W:World):Prop:=W.cell? ⟨WB,0,none⟩=some (.int .i64 k)/\W.cell? ⟨WB,2,none⟩=some (.int .i64 R)
theorem W115.alloc{WB k R:Nat}{W:World}(h:W115 WB k R W)(o:Obj):W115 WB k R (W.alloc o):=⟨cell_below h.1 (bal (Below.refl _ W) o),cell_below h.2 (bal (Below.refl _ W) o)⟩
def FoJ(k f N D WB DB base:Nat)(A:Option Addr)(Rv Sv:Value)(w:World)(i:Value)(wr:World):Prop:=∃ s:Nat,s<=3/\i= .int .i64 s/\Own .i64 3 wr base A (3*N) (3*N) (fulS k f s 0)/\Blk wr DB 3 [.int .i64 D]/\Blk wr WB 280 [.int .i64 k,.int .i64 f,Rv,Sv]/\Below w.heap.size w wr
structure FiS (k f s N D WB DB SB PB base:Nat) (A O:Option Addr) (Rv Sv:Value) (w:World) (i:Value) (wr:World) (j:Nat):Prop where
 le:j<=N
 ie:i= .int .i64 j
 ow:Own .i64 3 wr base A (3*N) (3*N) (fulS k f s j)
 dd:Blk wr DB 3 [.int .i64 D]
 ww:Blk wr WB 280 [.int .i64 k,.int .i64 f,Rv,Sv]
 ss:Blk wr SB 3 [.int .i64 s]
 pp:s<2->Blk wr PB 176 [.func (.func 320) #[] #[.pointer (some ⟨SB,0,none⟩),.pointer (some ⟨DB,0,none⟩)]]
 rr:Rd .i64 wr O N N (ordL D s)
 nn:blk A<blk O
 bb:Below w.heap.size w wr
def FiI(k f s N D WB DB SB PB base:Nat)(A O:Option Addr)(Rv Sv:Value)(w:World)(i:Value)(wr:World):Prop:=∃ j:Nat,FiS k f s N D WB DB SB PB base A O Rv Sv w i wr j
theorem FiI.next{k f s N D WB DB SB PB base:Nat}{A O:Option Addr}{Rv Sv:Value}{w:World}{i:Value}{wr:World}{j:Nat}(h:FiS k f s N D WB DB SB PB base A O Rv Sv w i wr j)(hj:j<N)(hp:pS N s j<3*N)
 {u:Int} (hst:(fulS k f s j).set (pS N s j) u=fulS k f s (j+1)) {v:Int} (hv:u=v) (hA:blk A≠DB/\blk A≠WB) (hS:blk A≠SB) (hP:s<2->blk A≠PB) (hb:w.heap.size<=blk A) :
 FiS k f s N D WB DB SB PB base A O Rv Sv w (.int .i64 ((j+1:Nat):Int)) (wr.setCell (adr A (pS N s j)) (.int .i64 v)) (j+1):=by
 have h2:=Own.set_ h.ow hp v;have h3:=h2.1;rw [<- hv,hst,hv]at h3;have ne:∀ {B:Nat},blk A≠B->some B≠some (blk A):=fun hne e=>hne (Option.some.inj e).symm;exact⟨hj,rfl,h3,h.dd.grown h2.2 (ne hA.1),h.ww.grown h2.2 (ne hA.2),h.ss.grown h2.2 (ne hS),fun hs=>(h.pp hs).grown h2.2 (ne (hP hs)),Rdv.grown h.rr h2.2 (fun _=>ne (by have:=h.nn;omega)),h.nn,h.bb.grown h2.2 h.bb.size (fun k e=>by cases e;exact hb)⟩
theorem full_any(k f:Nat)(Z:Int)(w:World)(h1k:40<=k)(h2k:k<=6144):Calls prog 288 #[.agg #[.int .i64 k,.int .i64 f,.int .i64 (rwS (k+4)),.int .i64 Z]] w fun e w'=>∃ A,e= .returned (.slice A (3*nB k) (3*nB k))/\Own .i64 3 w' w.heap.size A (3*nB k) (3*nB k) (bufL k f)/\Below w.heap.size w w':=by
 have hR:=rwS_le (d:=k+4) (by omega);have hN:=nB_le h2k;have hN1:=nB_pos (k:=k);have HOR:=aq (fun s (hs:s<=2) W=>order_ok (k+4) s W (by omega) (by omega) hs);have HG:=aq (fun s j (h:j<nB k)=>ordL_gi (k+4) s j h);have HBD:=aq (fun s j=>ordV_bd (d:=k+4) (s:=s) (k:=j) (by omega));have HSET:=aq (fun s j (hs:s<=2) (h:j<nB k)=>fulS_set (k:=k) (f:=f) hs h);have HNXT:=aq (fulS_next k f);have HALL:=aq (fulS_all k f);have HNON:=aq (fulS_none k f);have hNR:nB k=32*rwS (k+4):=rfl;simp only [<- hNR]at HOR;generalize nB k=N at *;generalize rwS (k+4)=R at *;obtain⟨D,hD⟩:∃ D,D=k+4:=⟨_,rfl⟩
 have HDK:=aq hD;rw [<- hD]at HOR HG HBD HSET;obtain⟨WB,hWB⟩:∃ B,B=w.heap.size:=⟨_,rfl⟩
 obtain⟨DB,hDB⟩:∃ B,B=w.heap.size+1:=⟨_,rfl⟩
 obtain⟨W0,hW0⟩:∃ W,W=w.alloc (.cells #[.int .i64 k,.int .i64 f,.int .i64 R,.int .i64 Z] 280):=⟨_,rfl⟩
 have hw0:Blk W0 WB 280 [.int .i64 k,.int .i64 f,.int .i64 R,.int .i64 Z]:=by rw [hW0,hWB];exact Blk.new w [.int .i64 k,.int .i64 f,.int .i64 R,.int .i64 Z] 280 rfl
 have hb0:Below w.heap.size w W0:=by rw [hW0];exact bal (Below.refl _ w) _
 have hz0:W0.heap.size=DB:=by rw [hW0,hDB];simp
 have HZ0:=aq hz0;have HW0:=aq hW0;have HWE:=aq hWB;have HW:Hid (W115 WB k R W0.drew):=aq ⟨hw0.cell (j:=0) rfl,hw0.cell (j:=2) rfl⟩;have hk4:(k:Int)+4=(D:Int):=by rw [hD];push_cast;rfl
 have hnn:32*(R:Int)=(N:Int):=by omega
 have hwk:IntKind.i64.wrap ((k:Int)+4)=(D:Int):=by rw [IntKind.wrap_i64];omega
 have hwn:IntKind.i64.wrap (32*(R:Int))=(N:Int):=by rw [IntKind.wrap_i64];omega
 have hwd:WB≠DB:=by omega
 have HNR:=aq hNR;clear hW0 hWB hD hk4 hnn hNR;go_enter func288,ntmps288;go_wp2_with fail;rw [<- HWE.o,<- HW0.o];refine Q_start (W115 WB k R) 8 9 ?_;refine Q_W 0 14 1 (.pointer (some ⟨WB,0,none⟩)) rfl HW.o ?_;simp only [yq0,yq1,yq2];refine Q_T 1 15 3 (.int .i64 (k:Int)) [] rfl HW.o (Or.inl ⟨by rfl,fun W hS=>by obtain⟨s0,s1⟩:=hS;go_simp⟩) ?_;simp only [yq0,yq1,yq2];refine Q_W 2 16 7 (.int .i64 (D:Int)) rfl HW.o ?_;simp only [yq0,yq1,yq2];refine Q_W 3 17 15 (.pointer (some ⟨WB,2,none⟩)) rfl HW.o ?_;simp only [yq0,yq1,yq2];refine Q_T 4 18 31 (.int .i64 (R:Int)) [] rfl HW.o (Or.inl ⟨by rfl,fun W hS=>by obtain⟨s0,s1⟩:=hS;go_simp⟩) ?_;simp only [yq0,yq1,yq2];refine Q_W 5 19 63 (.int .i64 (N:Int)) rfl HW.o ?_;simp only [yq0,yq1,yq2];refine Q_1S 6 127 rfl (fun K hK=>?_);go_simp;refine hK _ _ (W115.alloc HW.o _) ?_;clear hK K;refine Q_1S 7 255 rfl (fun K hK=>?_);go_simp;refine hK _ _ (show W115 WB k R (W0.alloc (.cells #[.int .i64 D] 3)).drew from W115.alloc HW.o _) ?_;clear hK K;refine Q_1 8 511 rfl (fun K hK=>?_);go_simp;refine hK _ _ ?_;clear hK K;refine Q_end ?_;obtain⟨W1,hW1⟩:∃ W,W=(W0.alloc (.cells #[.int .i64 D] 3)).drew:=⟨_,rfl⟩
 have hq1:Below W0.heap.size W0 W1:=by rw [hW1];exact(bal (Below.refl _ W0) _).drew
 have HD1:=aq (show Blk W1 DB 3 [.int .i64 D] by rw [hW1,<- hz0];exact Blk.drew (Blk.new W0 [.int .i64 D] 3 rfl));have HW1:=aq (hw0.below hq1);have HB1:=aq (hb0.trans (hq1.mono hb0.size));have HADW:=aq (show w.heap.size+1<W1.heap.size by have:=HD1.o.lt;omega);rw [<- hW1,<- hDB];clear hW1 hq1 hw0 hb0 hz0 HW0 HW hDB hwd
 go_wp2_with (at_make;refine list_of rfl fun K hK=>wp_mk (n:=3*N) _ _ 51 rfl el34 rfl rfl (by omega) (by unfold maxLen;omega) ?_
              intro A w3 hO3 hB3 hA;have HO3:=aq hO3;have HA:=aq hA;have HB3:=aq hB3;clear hO3 hB3 hA;refine hK _ _ ?_
              clear hK K)
 obtain⟨Rv,hRv⟩:∃ v,v=Value.int .i64 R:=⟨_,rfl⟩
 obtain⟨Sv,hSv⟩:∃ v,v=Value.int .i64 Z:=⟨_,rfl⟩
 have hbA:W1.heap.size<=blk A/\blk A<w3.heap.size:=Ownv.blk_ge HO3.o (by omega);have HAW:=aq (show blk A≠DB/\blk A≠WB from⟨by have:=HD1.o.lt;omega,by have:=HW1.o.lt;omega⟩);have HBA2:=aq (show w.heap.size<=blk A by have:=HADW.o;omega);have HB9:=aq (HB1.o.trans (HB3.o.mono HB1.o.size));have HW9:Hid (Blk w3 WB 280 [.int .i64 k,.int .i64 f,Rv,Sv]):=aq (by rw [hRv,hSv];exact HW1.o.below HB3.o);have HD9:=aq (HD1.o.below HB3.o);have HBS:=aq (show w.heap.size<=W1.heap.size by have:=HADW.o;omega);clear hRv hSv hbA HB1 HB3 HW1 HD1 HADW;generalize W1.heap.size=base at *;go_loopw [23] (fun i wr=>FoJ k f N D WB DB base A Rv Sv w i wr) (fun i _=>3 - (intOf i).toNat)
 case atStart=>exact⟨0,by decide,rfl,Own.of_eq HO3.o rfl (by rw [HNON.o,List.map_replicate]),HD9.o,HW9.o,HB9.o⟩
 case round =>
  obtain⟨s,hs,rfl,hO,hD,hW,hB⟩:=hrel;have HO:=aq hO;have HDB:=aq hD;have HWB:=aq hW;have HB:=aq hB;have HBA:=aq (Ownv.blk_ge hO (by omega)).2;have HSW:Hid (WB<wr.heap.size/\DB<wr.heap.size):=aq ⟨hW.lt,hD.lt⟩;clear hO hD hW hB HO3 HD9 HW9 HB9 HNON;rcases (by omega:s=0\/s=1\/s=2\/s=3) with rfl | rfl | rfl | rfl
  . have HIX:=aq (fun(j:Nat) (h:j<N)=>pS_lt (N:=N) (s:=0) (j:=j) (by decide) h)
    have hst:=fun W m=>run_store prog W ⟨wr.heap.size+1,0,none⟩ (.func (.func 320) #[] #[.pointer (some ⟨wr.heap.size,0,none⟩),.pointer (some ⟨DB,0,none⟩)]) m rfl;have hcD:((wr.alloc (.cells #[.int .i64 0] 3)).alloc (.cells #[.func (.func 320) #[] #[.pointer (some ⟨wr.heap.size,0,none⟩),.pointer (some ⟨DB,0,none⟩)]] 176)).cell? ⟨DB,0,none⟩=some (.int .i64 D):=cell_below (HDB.o.cell rfl) (((Below.refl _ wr).alloc (Nat.le_refl _) _).alloc (by simp) _);go_wp2_with fail;clear hcD;clear hst;obtain⟨SB,hSB⟩:∃ B,B=wr.heap.size:=⟨_,rfl⟩
    obtain⟨W2,hW2⟩:∃ W,W=(wr.alloc (.cells #[.int .i64 0] 3)).alloc (.cells #[.func (.func 320) #[] #[.pointer (some ⟨wr.heap.size,0,none⟩),.pointer (some ⟨DB,0,none⟩)]] 176):=⟨_,rfl⟩
    have hq:Below wr.heap.size wr W2:=by rw [hW2];exact((Below.refl _ wr).alloc (Nat.le_refl _) _).alloc (by simp) _
    have hS2:Blk W2 SB 3 [.int .i64 0]:=by rw [hW2,hSB];exact(Blk.new wr [.int .i64 0] 3 rfl).alloc _
    obtain⟨PB,hPB⟩:∃ B,B=wr.heap.size+1:=⟨_,rfl⟩
    have hP2:Blk W2 PB 176 [.func (.func 320) #[] #[.pointer (some ⟨SB,0,none⟩),.pointer (some ⟨DB,0,none⟩)]]:=by rw [hW2,hSB,hPB];exact Blk.new (wr.alloc _) [.func (.func 320) #[] #[.pointer (some ⟨wr.heap.size,0,none⟩),.pointer (some ⟨DB,0,none⟩)]] 176 (by simp)
    rw [<- hW2,<- hPB,<- hSB];refine(HOR.o 0 (by decide) W2).mono ?_;rintro e w3 ⟨O,rfl,hO3,hB3⟩;have HK0:Hid (FiI k f 0 N D WB DB SB PB base A O Rv Sv w (.int .i64 0) w3):=aq ⟨0,Nat.zero_le _,rfl,Ownv.below (Ownv.below HO.o hq) hB3,(HDB.o.below hq).below hB3,(HWB.o.below hq).below hB3,hS2.below hB3,fun _=>hP2.below hB3,Own.rd hO3,by have:=HBA.o;have h4:=(Ownv.blk_ge hO3 (by omega)).1;have:=hq.size;omega,HB.o.trans ((hq.trans (hB3.mono hq.size)).mono HB.o.size)⟩;have hAS:blk A≠SB:=by have:=HBA.o;omega
    have hAP:blk A≠PB:=by have:=HBA.o;omega
    clear hq hS2 hW2 hO3 hB3 hSB hP2 hPB;go_wp2;go_loopw [39] (fun i wq=>FiI k f 0 N D WB DB SB PB base A O Rv Sv w i wq) (fun i _=>N - (intOf i).toNat)
    case atStart=>exact HK0.o
    case round =>
     clear HK0 HO HDB HWB HB;obtain⟨j,hj,rfl,hO,hD,hW,hS,hP,hR,hAO,hB⟩:=hrel;by_cases hlt:j<N
     . have hco:=Rd.cell hR hlt
       have hio:=fun W=>Rdv.ix hR el34 hlt .i64 W;rw [HG.o 0 j hlt]at hco;have hbd:=HBD.o 0 j;have HST:=aq (HSET.o 0 j (by decide) hlt);have hpl:=HIX.o j hlt;have hca:=Rd.cell (Own.rd hO) hpl;have hfa:=Ownv.frozen hO (by omega) (pS N 0 j);have hia:=fun W=>Rdv.ixI (Own.rd hO) el34 hpl .i64 ((j:Nat):Int) (by unfold pS;simp;try omega) W;have hcS:=hS.cell (j:=0) (v:=.int .i64 0) rfl;have HNX:=aq (fun v (hv:elV k f 0 (ordV D 0 j)=v)=>FiI.next ⟨hj,rfl,hO,hD,hW,hS,hP,hR,hAO,hB⟩ hlt hpl (HST.o) hv HAW.o hAS (fun _=>hAP) HBA2.o);have HAT:=aq (fun i h1 h2=>at1_any k f 0 WB PB SB DB Rv Sv i wr hW (hP (by decide)) hS (by rw [HDK.o]at hD;exact hD) (by decide) h2k h1 h2);clear hO hD hW hS hP hR hB;generalize ordV D 0 j=v at *;by_cases hv0:0<=v
       . have hgv:decide (0<=v)=true:=by simp [hv0]
         have HA2:=aq (HAT.o v hv0 (by have:=HDK.o;omega));have HN2:=aq (HNX.o _ rfl);clear HAT HNX;generalize elV k f 0 v=ev at *;go_wp2_with (go_at_call 321;refine HA2.o.mono ?_;rintro e w' ⟨rfl,rfl⟩);go_roundw
         case rel=>exact⟨j+1,HN2.o⟩
         case measure=>simp [intOf];omega
       . have hgv:decide (0<=v)=false:=by simp;omega
         have hev:elV k f 0 v = -1:=by unfold elV;rw [if_pos (.inl (by omega))]
         have HN2:=aq (HNX.o _ hev);clear HAT HNX;go_wp2;go_roundw
         case rel=>exact⟨j+1,HN2.o⟩
         case measure=>simp [intOf];omega
     . obtain rfl:j=N:=by omega
       rw [HNXT.o]at hO;have HO9:=aq hO;have HD9:=aq hD;have HW9:=aq hW;have HB9:=aq hB;clear hO hD hW hB hS hP hR;go_wp2;go_roundw
       case rel=>exact⟨0+1,by decide,by go_num,HO9.o,HD9.o,HW9.o,HB9.o⟩
       case measure=>simp [intOf]
  . have HIX:=aq (fun(j:Nat) (h:j<N)=>pS_lt (N:=N) (s:=1) (j:=j) (by decide) h)
    have hst:=fun W m=>run_store prog W ⟨wr.heap.size+1,0,none⟩ (.func (.func 320) #[] #[.pointer (some ⟨wr.heap.size,0,none⟩),.pointer (some ⟨DB,0,none⟩)]) m rfl;have hcD:((wr.alloc (.cells #[.int .i64 1] 3)).alloc (.cells #[.func (.func 320) #[] #[.pointer (some ⟨wr.heap.size,0,none⟩),.pointer (some ⟨DB,0,none⟩)]] 176)).cell? ⟨DB,0,none⟩=some (.int .i64 D):=cell_below (HDB.o.cell rfl) (((Below.refl _ wr).alloc (Nat.le_refl _) _).alloc (by simp) _);go_wp2_with fail;clear hcD;clear hst;obtain⟨SB,hSB⟩:∃ B,B=wr.heap.size:=⟨_,rfl⟩
    obtain⟨W2,hW2⟩:∃ W,W=(wr.alloc (.cells #[.int .i64 1] 3)).alloc (.cells #[.func (.func 320) #[] #[.pointer (some ⟨wr.heap.size,0,none⟩),.pointer (some ⟨DB,0,none⟩)]] 176):=⟨_,rfl⟩
    have hq:Below wr.heap.size wr W2:=by rw [hW2];exact((Below.refl _ wr).alloc (Nat.le_refl _) _).alloc (by simp) _
    have hS2:Blk W2 SB 3 [.int .i64 1]:=by rw [hW2,hSB];exact(Blk.new wr [.int .i64 1] 3 rfl).alloc _
    obtain⟨PB,hPB⟩:∃ B,B=wr.heap.size+1:=⟨_,rfl⟩
    have hP2:Blk W2 PB 176 [.func (.func 320) #[] #[.pointer (some ⟨SB,0,none⟩),.pointer (some ⟨DB,0,none⟩)]]:=by rw [hW2,hSB,hPB];exact Blk.new (wr.alloc _) [.func (.func 320) #[] #[.pointer (some ⟨wr.heap.size,0,none⟩),.pointer (some ⟨DB,0,none⟩)]] 176 (by simp)
    rw [<- hW2,<- hPB,<- hSB];refine(HOR.o 1 (by decide) W2).mono ?_;rintro e w3 ⟨O,rfl,hO3,hB3⟩;have HK0:Hid (FiI k f 1 N D WB DB SB PB base A O Rv Sv w (.int .i64 0) w3):=aq ⟨0,Nat.zero_le _,rfl,Ownv.below (Ownv.below HO.o hq) hB3,(HDB.o.below hq).below hB3,(HWB.o.below hq).below hB3,hS2.below hB3,fun _=>hP2.below hB3,Own.rd hO3,by have:=HBA.o;have h4:=(Ownv.blk_ge hO3 (by omega)).1;have:=hq.size;omega,HB.o.trans ((hq.trans (hB3.mono hq.size)).mono HB.o.size)⟩;have hAS:blk A≠SB:=by have:=HBA.o;omega
    have hAP:blk A≠PB:=by have:=HBA.o;omega
    clear hq hS2 hW2 hO3 hB3 hSB hP2 hPB;go_wp2;go_loopw [39] (fun i wq=>FiI k f 1 N D WB DB SB PB base A O Rv Sv w i wq) (fun i _=>N - (intOf i).toNat)
    case atStart=>exact HK0.o
    case round =>
     clear HK0 HO HDB HWB HB;obtain⟨j,hj,rfl,hO,hD,hW,hS,hP,hR,hAO,hB⟩:=hrel;by_cases hlt:j<N
     . have hco:=Rd.cell hR hlt
       have hio:=fun W=>Rdv.ix hR el34 hlt .i64 W;rw [HG.o 1 j hlt]at hco;have hbd:=HBD.o 1 j;have HST:=aq (HSET.o 1 j (by decide) hlt);have hpl:=HIX.o j hlt;have hca:=Rd.cell (Own.rd hO) hpl;have hfa:=Ownv.frozen hO (by omega) (pS N 1 j);have hia:=fun W=>Rdv.ixI (Own.rd hO) el34 hpl .i64 (((N:Nat):Int)+2*(j:Int)) (by unfold pS;simp;try omega) W;have hcS:=hS.cell (j:=0) (v:=.int .i64 1) rfl;have HNX:=aq (fun v (hv:elV k f 1 (ordV D 1 j)=v)=>FiI.next ⟨hj,rfl,hO,hD,hW,hS,hP,hR,hAO,hB⟩ hlt hpl (HST.o) hv HAW.o hAS (fun _=>hAP) HBA2.o);have HAT:=aq (fun i h1 h2=>at1_any k f 1 WB PB SB DB Rv Sv i wr hW (hP (by decide)) hS (by rw [HDK.o]at hD;exact hD) (by decide) h2k h1 h2);clear hO hD hW hS hP hR hB;generalize ordV D 1 j=v at *;by_cases hv0:0<=v
       . have hgv:decide (0<=v)=true:=by simp [hv0]
         have HA2:=aq (HAT.o v hv0 (by have:=HDK.o;omega));have HN2:=aq (HNX.o _ rfl);clear HAT HNX;generalize elV k f 1 v=ev at *;go_wp2_with (go_at_call 321;refine HA2.o.mono ?_;rintro e w' ⟨rfl,rfl⟩);go_roundw
         case rel=>exact⟨j+1,HN2.o⟩
         case measure=>simp [intOf];omega
       . have hgv:decide (0<=v)=false:=by simp;omega
         have hev:elV k f 1 v = -1:=by unfold elV;rw [if_pos (.inl (by omega))]
         have HN2:=aq (HNX.o _ hev);clear HAT HNX;go_wp2;go_roundw
         case rel=>exact⟨j+1,HN2.o⟩
         case measure=>simp [intOf];omega
     . obtain rfl:j=N:=by omega
       rw [HNXT.o]at hO;have HO9:=aq hO;have HD9:=aq hD;have HW9:=aq hW;have HB9:=aq hB;clear hO hD hW hB hS hP hR;go_wp2;go_roundw
       case rel=>exact⟨1+1,by decide,by go_num,HO9.o,HD9.o,HW9.o,HB9.o⟩
       case measure=>simp [intOf]
  . have HIX:=aq (fun(j:Nat) (h:j<N)=>pS_lt (N:=N) (s:=2) (j:=j) (by decide) h)
    skip;have hcD:(wr.alloc (.cells #[.int .i64 2] 3)).cell? ⟨DB,0,none⟩=some (.int .i64 D):=cell_below (HDB.o.cell rfl) ((Below.refl _ wr).alloc (Nat.le_refl _) _);go_wp2_with fail;clear hcD;skip;obtain⟨SB,hSB⟩:∃ B,B=wr.heap.size:=⟨_,rfl⟩
    obtain⟨W2,hW2⟩:∃ W,W=wr.alloc (.cells #[.int .i64 2] 3):=⟨_,rfl⟩
    have hq:Below wr.heap.size wr W2:=by rw [hW2];exact(Below.refl _ wr).alloc (Nat.le_refl _) _
    have hS2:Blk W2 SB 3 [.int .i64 2]:=by rw [hW2,hSB];exact Blk.new wr [.int .i64 2] 3 rfl
    rw [<- hW2,<- hSB];refine(HOR.o 2 (by decide) W2).mono ?_;rintro e w3 ⟨O,rfl,hO3,hB3⟩;have HK0:Hid (FiI k f 2 N D WB DB SB SB base A O Rv Sv w (.int .i64 0) w3):=aq ⟨0,Nat.zero_le _,rfl,Ownv.below (Ownv.below HO.o hq) hB3,(HDB.o.below hq).below hB3,(HWB.o.below hq).below hB3,hS2.below hB3,fun h=>absurd h (by decide),Own.rd hO3,by have:=HBA.o;have h4:=(Ownv.blk_ge hO3 (by omega)).1;have:=hq.size;omega,HB.o.trans ((hq.trans (hB3.mono hq.size)).mono HB.o.size)⟩;have hAS:blk A≠SB:=by have:=HBA.o;omega
    clear hq hS2 hW2 hO3 hB3 hSB;go_wp2;go_loopw [39] (fun i wq=>FiI k f 2 N D WB DB SB SB base A O Rv Sv w i wq) (fun i _=>N - (intOf i).toNat)
    case atStart=>exact HK0.o
    case round =>
     clear HK0 HO HDB HWB HB;obtain⟨j,hj,rfl,hO,hD,hW,hS,hP,hR,hAO,hB⟩:=hrel;by_cases hlt:j<N
     . have hco:=Rd.cell hR hlt
       have hio:=fun W=>Rdv.ix hR el34 hlt .i64 W;rw [HG.o 2 j hlt]at hco;have hbd:=HBD.o 2 j;have HST:=aq (HSET.o 2 j (by decide) hlt);have hpl:=HIX.o j hlt;have hca:=Rd.cell (Own.rd hO) hpl;have hfa:=Ownv.frozen hO (by omega) (pS N 2 j);have hia:=fun W=>Rdv.ixI (Own.rd hO) el34 hpl .i64 (((N:Nat):Int)+2*(j:Int)+2 - 1) (by unfold pS;simp;try omega) W;have hcS:=hS.cell (j:=0) (v:=.int .i64 2) rfl;have HNX:=aq (fun v (hv:elV k f 2 (ordV D 2 j)=v)=>FiI.next ⟨hj,rfl,hO,hD,hW,hS,hP,hR,hAO,hB⟩ hlt hpl (HST.o) hv HAW.o hAS (fun h=>absurd h (by decide)) HBA2.o);have HAT:=aq (fun i h1 h2=>at0_any 2 D SB DB i wr hS hD (by decide) (by have:=HDK.o;omega) h1 h2);clear hO hD hW hS hP hR hB;generalize ordV D 2 j=v at *;by_cases hv0:0<=v
       . have hgv:decide (0<=v)=true:=by simp [hv0]
         have HA2:=aq (HAT.o v hv0 (by have:=HDK.o;omega));rw [HDK.o,at_lo (k:=k) (f:=f) (s:=2) hv0 (fun h=>absurd h (by decide))]at HA2;have HN2:=aq (HNX.o _ rfl);clear HAT HNX;generalize elV k f 2 v=ev at *;go_wp2_with (go_at_call 320;refine HA2.o.mono ?_;rintro e w' ⟨rfl,rfl⟩);go_roundw
         case rel=>exact⟨j+1,HN2.o⟩
         case measure=>simp [intOf];omega
       . have hgv:decide (0<=v)=false:=by simp;omega
         have hev:elV k f 2 v = -1:=by unfold elV;rw [if_pos (.inl (by omega))]
         have HN2:=aq (HNX.o _ hev);clear HAT HNX;go_wp2;go_roundw
         case rel=>exact⟨j+1,HN2.o⟩
         case measure=>simp [intOf];omega
     . obtain rfl:j=N:=by omega
       rw [HNXT.o]at hO;have HO9:=aq hO;have HD9:=aq hD;have HW9:=aq hW;have HB9:=aq hB;clear hO hD hW hB hS hP hR;go_wp2;go_roundw
       case rel=>exact⟨2+1,by decide,by go_num,HO9.o,HD9.o,HW9.o,HB9.o⟩
       case measure=>simp [intOf]
  . rw [HALL.o]at HO
    go_wp2;go_ret;exact⟨A,rfl,Ownv.mono HO.o HBS.o,HB.o⟩
theorem info122:(prog.info? 280).map (·.size)=some 4:=by kernel_rfl
theorem res122{W:World}{b:Nat}{m:List Int}(h:Blk W b 280 (ints8 m))(hl:m.length=4):(loadVar 280 ⟨b,0,none⟩).run prog W= .ok (.agg (ints8 m).toArray) W :=
 run_loadVar_row (P:=prog) W b 280 280 _ (0,0) _ h underlying280 rfl (by rw [info122];simp [ints8,hl])
theorem szB_bd(k:Nat){lim:Int}(h:1<=lim):1<=szB k lim/\szB k lim<=3*nB k:=by
 have:=nB_pos (k:=k);unfold szB;split<;>omega
theorem rof_ok(k f:Nat)(lim:Int)(w:World)(h1:40<=k)(h2:k<=6144)(hf:f<k)(hl:1<=lim):Calls prog 228 #[.int .i64 k,.int .i64 f,.int .i64 lim] w fun e w'=>e= .returned (.tuple #[.agg #[.int .i64 k,.int .i64 f,.int .i64 (rwS (k+4)),.int .i64 (szB k lim)],.int .i64 0])/\Below w.heap.size w w':=by
 have HR:=aq (fun W=>crows_any (k+4) W (by omega) (by omega));have hsz:szB k lim=if lim<=((3*nB k:Nat):Int) then lim.toNat else 3*nB k:=rfl
 have hN:=nB_le h2;have hNR:nB k=32*rwS (k+4):=rfl;generalize szB k lim=Z at *;generalize nB k=N at *;generalize rwS (k+4)=R at *;push_cast at HR;have q1:decide ((k:Int)<40)=false:=by simp;omega
 have q2:decide ((6144:Int)<(k:Int))=false:=by simp;omega
 have q3:decide ((f:Int)<0)=false:=by simp
 have q4:decide ((k:Int)<=(f:Int))=false:=by simp;omega
 have q5:decide (lim<1)=false:=by simp;omega
 have hmin:min lim (96*(R:Int))=(Z:Int):=by rw [hsz];split<;>omega
 have hwm:IntKind.i64.wrap (96*(R:Int))=96*(R:Int):=by rw [IntKind.wrap_i64];omega
 by_cases hlim:lim<=96*(R:Int)
 . have hz:lim=(Z:Int):=by rw [hsz];split<;>omega
   clear hsz hNR hmin;go_enter func228,ntmps228;go_wp2_with (go_at_call 287;refine(HR.o _).mono ?_;rintro e w1 ⟨rfl,rfl⟩);refine bodyPost_ret (v:=.tuple #[.agg #[.int .i64 k,.int .i64 f,.int .i64 R,.int .i64 Z],.int .i64 0]) ?_ rfl ⟨rfl,bal (Below.refl _ w) _⟩;have l1:=res122 (m:=[(k:Int),f,R,Z]) (Blk.new w (ints8 [(k:Int),f,R,Z]) 280 rfl) rfl;simp only [ints8,List.map_cons,List.map_nil]at l1;rw [results_ct rfl];simp [Act.put,asAddr,l1,Sem.run_pure,Result.andThen]
 . have hz:96*(R:Int)=(Z:Int):=by rw [hsz];split<;>omega
   have hlz:(Z:Int)<lim:=by omega
   have hZb:Z<=20000:=by omega
   clear hlim;clear hsz hNR hmin;go_enter func228,ntmps228;go_wp2_with (go_at_call 287;refine(HR.o _).mono ?_;rintro e w1 ⟨rfl,rfl⟩);refine bodyPost_ret (v:=.tuple #[.agg #[.int .i64 k,.int .i64 f,.int .i64 R,.int .i64 Z],.int .i64 0]) ?_ rfl ⟨rfl,bal (Below.refl _ w) _⟩;have l1:=res122 (m:=[(k:Int),f,R,Z]) (Blk.new w (ints8 [(k:Int),f,R,Z]) 280 rfl) rfl;simp only [ints8,List.map_cons,List.map_nil]at l1;rw [results_ct rfl];simp [Act.put,asAddr,l1,Sem.run_pure,Result.andThen]
theorem buf0_ok(k f Z:Nat)(w:World)(h1:40<=k)(h2:k<=6144)(hZ:Z<=3*nB k):Calls prog 229 #[.agg #[.int .i64 k,.int .i64 f,.int .i64 (rwS (k+4)),.int .i64 Z]] w fun e w'=>∃ A,e= .returned (.slice A Z (3*nB k))/\Rd .i64 w' A Z (3*nB k) ((bufL k f).take Z)/\Below w.heap.size w w':=by
 have HF:=aq (fun W=>full_any k f Z W h1 h2);have hN:=nB_le h2;generalize nB k=N at *;generalize rwS (k+4)=R at *;obtain⟨WB,hWB⟩:∃ B,B=w.heap.size:=⟨_,rfl⟩
 obtain⟨W0,hW0⟩:∃ W,W=w.alloc (.cells #[.int .i64 k,.int .i64 f,.int .i64 R,.int .i64 Z] 280):=⟨_,rfl⟩
 have hw0:Blk W0 WB 280 [.int .i64 k,.int .i64 f,.int .i64 R,.int .i64 Z]:=by rw [hW0,hWB];exact Blk.new w [.int .i64 k,.int .i64 f,.int .i64 R,.int .i64 Z] 280 rfl
 have hb0:Below w.heap.size w W0:=by rw [hW0];exact bal (Below.refl _ w) _
 have HW:=aq (hw0.drew);go_enter func229,ntmps229;go_wp2_with fail;rw [<- hWB,<- hW0];clear hWB hW0 hw0;refine Q_start (fun W=>Blk W WB 280 [.int .i64 k,.int .i64 f,.int .i64 R,.int .i64 Z]) 5 6 ?_;refine Q_T 0 3 1 (.agg #[.int .i64 k,.int .i64 f,.int .i64 R,.int .i64 Z]) [] rfl HW.o (yieldsIf_load_mid rfl 280 (.tmp 1) rfl WB 0 rfl [.int .i64 k,.int .i64 f,.int .i64 R,.int .i64 Z] _ (fun W hS j v hj=>by rw [Nat.zero_add];exact Blk.cell hS hj) underlying280 rfl info122) ?_;simp only [yq0,yq1,yq2];refine Q_W 2 5 5 (.pointer (some ⟨WB,3,none⟩)) rfl HW.o ?_;simp only [yq0,yq1,yq2];refine Q_T 3 6 13 (.int .i64 (Z:Int)) [] rfl HW.o (Or.inl ⟨by rfl,fun W hS=>by have s0:=Blk.cell hS (j:=3) (v:=.int .i64 Z) rfl;go_simp⟩) ?_;simp only [yq0,yq1,yq2];refine Q_1S 1 15 rfl (fun K hK=>?_);go_simp;refine(HF.o _).mono ?_;rintro e w5 ⟨A,rfl,hO5,hB5⟩;have hB5':=(Below.refl w.heap.size W0).drew.trans (hB5.mono (by have:=hb0.size;exact this));have HW5:=aq (HW.o.below hB5);have HO5:=aq hO5;have HB5:=aq (hb0.trans hB5');have hsl:=fun W=>Rdv.slh (Own.rd hO5) el34 .i64 (m:=Z) (by omega) W;clear hO5 hB5 hB5';refine hK _ _ HW5.o ?_;clear hK K;refine Q_W 4 7 31 (.slice A Z (3*N)) rfl HW5.o ?_;simp only [yq0,yq1,yq2];refine Q_1 5 63 rfl (fun K hK=>?_);go_simp;refine hK _ _ ?_;clear hK K;refine Q_end ?_;go_wp2;go_ret;exact⟨A,rfl,Rd.upto (Own.rd HO5.o) (by omega),HB5.o⟩
theorem cloneI_any(A:Option Addr)(n c:Nat)(xs:List Int)(w:World)(h:Rd .i64 w A n c xs)(hn:n<=200000) :
 Calls prog 114 #[.slice A n c] w fun e w'=>∃ A' c',e= .returned (.slice A' n c')/\Own .i64 3 w' w.heap.size A' n c' xs/\Below w.heap.size w w':=by
 have e1:=fun W=>Lib.run_eql_slice_nil (P:=prog) W 51 3 A n c 0 0 el34.u;cases A with
 | none =>
   have hc:=h.nil rfl;have hnc:=h.le;obtain rfl:n=0:=by omega
   subst hc;obtain rfl:xs=[]:=List.eq_nil_of_length_eq_zero h.len;go_enter func114,ntmps114;go_wp2;go_ret;exact⟨none,0,rfl,Own.nilv .i64 3 w _,Below.refl _ _⟩
 | some ad =>
   have h1:=Rdv.alloc h (.cells #[] 3);have hO0:Ownv 3 (w.alloc (.cells #[] 3)) w.heap.size (some ⟨w.heap.size,0,none⟩) 0 0 []:=Ownv.lit w #[] 3 rfl (Nat.le_refl _) (Nat.zero_le _);go_enter func114,ntmps114;go_wp2_with (at_builtin;go_loud (refine list_of rfl fun K hK=>wp_app _ _ 51 rfl el34 rfl rfl hO0 h1 (oneCell_ints .i64 xs) (by omega) (by unfold maxLen;omega) (by simp) ?_);intro A' c' w' hO hg;refine hK _ _ ?_;clear hK K);go_ret;exact⟨A',c',ret_sl rfl rfl rfl,Own.of_eq hO (Nat.zero_add n) (List.nil_append _),(Below.refl _ _).grown (grownBy_of_alloc hg) (Nat.le_refl _) (by simp [Value.ownBlock])⟩
theorem buffer_ok(k f:Nat)(lim:Int)(w:World)(h1:40<=k)(h2:k<=6144)(hf:f<k)(hl:1<=lim):Calls prog 167 #[.int .i64 k,.int .i64 f,.int .i64 lim] w fun e w'=>∃ A c,e= .returned (.tuple #[.slice A (szB k lim) c,.int .i64 0])/\Own .i64 3 w' w.heap.size A (szB k lim) c ((bufL k f).take (szB k lim))/\Below w.heap.size w w':=by
 have HOF:=aq (fun W=>rof_ok k f lim W h1 h2 hf hl);have hzb:=szB_bd k hl;have HBF:=aq (fun W=>buf0_ok k f (szB k lim) W h1 h2 hzb.2);have hN:=nB_le h2;generalize szB k lim=Z at *;generalize nB k=N at *;generalize rwS (k+4)=R at *;go_enter func167,ntmps167;go_wp2_with fail;refine(HOF.o _).mono ?_;rintro e w1 ⟨rfl,hB1⟩;have HL:=aq (Blk.new w1 [.int .i64 k,.int .i64 f,.int .i64 R,.int .i64 Z] 280 rfl);have HB1:=aq (bal hB1 (.cells #[.int .i64 k,.int .i64 f,.int .i64 R,.int .i64 Z] 280));have hL:=HL.o;clear hB1;go_wp2_with (refine ldrow (cs:=[.int .i64 k,.int .i64 f,.int .i64 R,.int .i64 Z]) rfl 280 (.tmp 8) rfl rfl hL _ underlying280 rfl info122 ?_);clear hL;refine(HBF.o _).mono ?_;rintro e w2 ⟨A,rfl,hR,hB2⟩;have HR:=aq hR;have HB2:=aq (HB1.o.trans (hB2.mono HB1.o.size));clear hR hB2;go_wp2_with fail;refine(cloneI_any A Z _ _ w2 HR.o (by omega)).mono ?_;rintro e w3 ⟨A',c',rfl,hO,hB3⟩;have HO:=aq hO;have HB3:=aq (HB2.o.trans (hB3.mono HB2.o.size));have HS:=aq HB2.o.size;clear hO hB3;go_wp2;go_ret2;exact⟨A',c',rfl,Ownv.mono HO.o HS.o,HB3.o⟩
end Go.Proofs.YthmhogdceolkdaaGreat.Cr