/- Bundle. Conditions: none. -/
import Derived.Test.YthmhogdceolkdaaGreatBqab
import Derived.Deep.RegionHeld3
import Derived.Laws.BitsAllLaws
import Derived.Laws.BitsLemmas
import Derived.WalkKit
set_option linter.unusedVariables false
set_option linter.unusedSimpArgs false
namespace Go.Proofs.YthmhogdceolkdaaGreat.Cr
open Tryz
open Go.RowKit
set_option maxRecDepth 100000
set_option maxHeartbeats 1000000
def crcSum(k:Int)(xs:List Int):List Int:=splitL (crcFold (sLen k) (sPoly k) xs) (sLen k)
theorem compute_ok(k:Int)(A:Option Addr)(n c:Nat)(xs:List Int)(w:World)(hx:Rd .u8 w A n c xs)(hk:sLen k≠0)(hv:ValidB xs=true) :
 Calls prog 188 #[.int .i64 k,.slice A n c] w fun e w'=>∃ A' c',e= .returned (.tuple #[.slice A' (sLen k) c',.int .i64 0])/\Own .u8 5 w' w.heap.size A' (sLen k) c' (crcSum k xs)/\Below w.heap.size w w':=by
 have hN:=sLen_cases k;have h1:=aq (of_any k w);unfold crcSum;generalize sLen k=L at *;generalize sPoly k=p at *;have hb0:((L:Int) == 0)=false:=beq_f (by omega);have hL8:8<=L/\L<=24:=by omega
 clear hk hN;go_enter func188,ntmps188;go_wp2_with fail;refine h1.o.mono ?_;rintro e w1 ⟨rfl,hB1⟩;have hx1:=Rdv.below hx hB1;have hx2:=Rdv.alloc hx1 (.cells #[.int .i64 L,.int .u32 p] 303);go_wp2_with (go_at_call 187;refine(invalid_any A n c xs _ hx2).mono ?_;rintro e w' ⟨rfl,rfl⟩);have hx3:=Rdv.drew (Rdv.alloc hx2 (.cells #[.slice A n c] 53));have hbc:((w1.alloc (Obj.cells #[.int .i64 (L:Int),.int .u32 p] 303)).alloc (Obj.cells #[.slice A n c] 53)).drew.cell? ⟨w1.heap.size+1,0,none⟩=some (.slice A n c):=by simp [go_sem]
 have hk0:((w1.alloc (Obj.cells #[.int .i64 (L:Int),.int .u32 p] 303)).alloc (Obj.cells #[.slice A n c] 53)).drew.cell? ⟨w1.heap.size,0,none⟩=some (.int .i64 (L:Int)):=by simp [go_sem]
 have hk1:((w1.alloc (Obj.cells #[.int .i64 (L:Int),.int .u32 p] 303)).alloc (Obj.cells #[.slice A n c] 53)).drew.cell? ⟨w1.heap.size,1,none⟩=some (.int .u32 p):=by simp [go_sem]
 have hsz3:w1.heap.size+1<((w1.alloc (Obj.cells #[.int .i64 (L:Int),.int .u32 p] 303)).alloc (Obj.cells #[.slice A n c] 53)).drew.heap.size:=by simp
 have hdv:=aq (divide_any L p _ A n c xs _ hx3 hsz3 hbc (by omega) (by omega));go_region_held3 (fun W=>W.cell? ⟨w1.heap.size,0,none⟩=some (.int .i64 L)/\W.cell? ⟨w1.heap.size,1,none⟩=some (.int .u32 p)) (first | (simp [go_sem];done) | exact⟨hm0,hm1⟩ | exact⟨hm2,hm3⟩)
  (first
    | (go_at_call 258;refine(values_any A n c _).mono ?_;rintro e w' ⟨rfl,rfl⟩)
    | (go_at_call 257;refine hdv.o.mono ?_;rintro e w3 ⟨rfl,hB3⟩;have hm0:=(hB3.cell (p:=⟨w1.heap.size,0,none⟩) (by simp;omega)).trans hk0;have hm1:=(hB3.cell (p:=⟨w1.heap.size,1,none⟩) (by simp;omega)).trans hk1;have hz3:=hB3.size)
    | (go_at_call 256;refine(split_any _ L _ (by omega)).mono ?_;rintro e w4 ⟨A4,c4,rfl,hO4,hB4⟩;have hm2:=(hB4.cell (p:=⟨w1.heap.size,0,none⟩) (show w1.heap.size<w3.heap.size by simp at hz3;omega)).trans hm0;have hm3:=(hB4.cell (p:=⟨w1.heap.size,1,none⟩) (show w1.heap.size<w3.heap.size by simp at hz3;omega)).trans hm1))
 go_wp2;go_ret2;have hz3':w1.heap.size+1+1<=w3.heap.size:=by simpa using hz3
 have hz1:=hB1.size;refine⟨A4,c4,rfl,Ownv.mono hO4 (by omega),?_⟩;exact((hB1.trans ((((Below.refl _ w1).alloc (Nat.le_refl _) _).alloc (by simp) _).drew.mono hz1)).trans (hB3.mono (by simp;omega))).trans (hB4.mono (by omega))
def cErr(k:Int)(xs:List Int):Int:=if sLen k=0 then 2 else if ValidB xs=true then 0 else 3
def cRes(k:Int)(xs:List Int):List Int:=if sLen k=0 then [] else if ValidB xs=true then crcSum k xs else []
theorem compute_any(k:Int)(A:Option Addr)(n c:Nat)(xs:List Int)(w:World)(hx:Rd .u8 w A n c xs) :
 Calls prog 188 #[.int .i64 k,.slice A n c] w fun e w'=>∃ A' n' c',e= .returned (.tuple #[.slice A' n' c',.int .i64 (cErr k xs)])/\Own .u8 5 w' w.heap.size A' n' c' (cRes k xs)/\Below w.heap.size w w':=by
 by_cases h0:sLen k=0
 . have h1:=aq (of_any k w)
   have e1:cErr k xs=2:=by rw [cErr,if_pos h0]
   have e2:cRes k xs=[]:=by rw [cRes,if_pos h0]
   rw [e1,e2];rw [h0]at h1;generalize sPoly k=p at *;clear e1 e2 h0;go_enter func188,ntmps188;go_wp2_with fail;refine h1.o.mono ?_;rintro e w1 ⟨rfl,hB1⟩;go_wp2;go_ret2;exact⟨none,0,0,rfl,Own.nilv _ _ _ _,hB1.trans (((Below.refl _ w1).alloc (Nat.le_refl _) _).mono hB1.size)⟩
 . by_cases hv:ValidB xs=true
   . have e1:cErr k xs=0:=by rw [cErr,if_neg h0,if_pos hv]
     have e2:cRes k xs=crcSum k xs:=by rw [cRes,if_neg h0,if_pos hv]
     rw [e1,e2];exact(compute_ok k A n c xs w hx h0 hv).mono fun e w' ⟨A',c',h⟩=>⟨A',_,c',h⟩
   . have h1:=aq (of_any k w)
     have e1:cErr k xs=3:=by rw [cErr,if_neg h0,if_neg hv]
     have e2:cRes k xs=[]:=by rw [cRes,if_neg h0,if_neg hv]
     have hv':ValidB xs=false:=by simpa using hv
     rw [e1,e2];clear e1 e2 hv;generalize sLen k=L at *;generalize sPoly k=p at *;have hb0:((L:Int) == 0)=false:=beq_f (by omega);go_enter func188,ntmps188;go_wp2_with fail;refine h1.o.mono ?_;rintro e w1 ⟨rfl,hB1⟩;have hx1:=Rdv.below hx hB1;have hx2:=Rdv.alloc hx1 (.cells #[.int .i64 L,.int .u32 p] 303);go_wp2_with (go_at_call 187;refine(invalid_any A n c xs _ hx2).mono ?_;rintro e w' ⟨rfl,rfl⟩);go_ret2;exact⟨none,0,0,rfl,Own.nilv _ _ _ _,hB1.trans (((Below.refl _ w1).alloc (Nat.le_refl _) _).mono hB1.size)⟩
theorem el55:El prog 127 53 (.slice none 0 0) 24:=⟨by kernel_rfl,by kernel_rfl,fun _=>by kernel_rfl,rfl⟩
structure Sv where
 A:Option Addr
 n:Nat
 c:Nat
 xs:List Int
def Sv.v(s:Sv):Value:=.slice s.A s.n s.c
def flat(L:List Sv)(j:Nat):List Int:=(L.take j).flatMap (·.xs)
def tot(L:List Sv)(j:Nat):Nat:=((L.take j).map (·.n)).sum
theorem take_get{L:List Sv}{j:Nat}{s:Sv}(h:L[j]?=some s):L.take (j+1)=L.take j ++ [s]:=by
 rw [List.take_add_one,h];rfl
theorem flat_succ{L:List Sv}{j:Nat}{s:Sv}(h:L[j]?=some s):flat L (j+1)=flat L j ++ s.xs:=by
 unfold flat;rw [take_get h,List.flatMap_append];simp
theorem tot_succ{L:List Sv}{j:Nat}{s:Sv}(h:L[j]?=some s):tot L (j+1)=tot L j+s.n:=by
 unfold tot;rw [take_get h,List.map_append,List.sum_append];simp
theorem tot_le{L:List Sv}{j k:Nat}(h:j<=k):tot L j<=tot L k:=by
 induction k with
 | zero=>obtain rfl:j=0:=by omega
         exact Nat.le_refl _
 | succ k ih =>
   by_cases hj:j=k+1
   . subst hj;exact Nat.le_refl _
   . refine Nat.le_trans (ih (by omega)) ?_
     unfold tot;rw [List.take_add_one,List.map_append,List.sum_append];omega
def Cc1(L:List Sv)(n:Nat)(sz i:Value):Prop:=∃ j:Nat,j<=n/\i= .int .i64 j/\sz= .int .i64 (tot L j:Int)
def Cc2(w1:World)(B:Nat)(L:List Sv)(n:Nat)(out i:Value)(wr:World):Prop:=∃ (j:Nat) (A:Option Addr) (c:Nat),j<=n/\i= .int .i64 j/\out= .slice A (tot L j) c/\Own .u8 5 wr B A (tot L j) c (flat L j)/\Below w1.heap.size w1 wr
theorem concat_any(A:Option Addr)(n c:Nat)(L:List Sv)(w:World)(h:Rdv w A n c (L.map Sv.v))(hs:∀ s ∈ L,Rd .u8 w s.A s.n s.c s.xs)(ht:tot L n<=1000000) :
 Calls prog 214 #[.slice A n c] w fun e w'=>∃ A' c',e= .returned (.slice A' (tot L n) c')/\Own .u8 5 w' w.heap.size A' (tot L n) c' (flat L n)/\Below w.heap.size w w':=by
 have hbd:=h.bd.1;have hl:=h.len;rw [List.length_map]at hl;have HL:=aq hl;clear hl;have hget:∀ j,j<n->∃ s,L[j]?=some s/\w.cell? (adr A j)=some (.slice s.A s.n s.c)/\Rd .u8 w s.A s.n s.c s.xs:=fun j hj=>by
  have hj':j<L.length:=by rw [HL.o];exact hj
  exact⟨L[j],List.getElem?_eq_getElem hj',h.at_ j _ (by simp [hj',Sv.v]),hs _ (List.getElem_mem hj')⟩
 have HG:=aq hget;clear hget hs;go_enter func214,ntmps214;go_wp2;go_loop [3,11] (fun sz i=>Cc1 L n sz i) (fun _ i=>n - (intOf i).toNat)
 case atStart=>exact⟨0,by omega,rfl,rfl⟩
 case round =>
  obtain⟨j,hj,rfl,rfl⟩:=hrel;by_cases hlt:j<n
  . obtain⟨s,hs,hc,hR⟩:=HG.o j hlt
    have hix:=fun W=>Rdv.ix h el55 hlt .i64 W;have hts:=tot_succ hs;have htl:=tot_le (L:=L) (show j+1<=n by omega);have HTS:=aq hts;have HS:=aq hs;have hb3:tot L j+s.n<=1000000:=by omega
    clear hts hs;go_wp2;go_round
    case rel=>exact⟨j+1,by omega,by go_num,by rw [HTS.o];go_num⟩
    case measure=>simp [intOf];omega
  . obtain rfl:j=n:=by omega
    go_wp2_with (go_at_call 278;refine(grow_any _ _ (by omega)).mono ?_;rintro e w1 ⟨A1,c1,rfl,hO1,hB1⟩);go_loopw [6,27] (fun out i wr=>Cc2 w w.heap.size L j out i wr) (fun _ i _=>j - (intOf i).toNat)
    case atStart=>exact⟨0,A1,c1,by omega,rfl,rfl,Own.of_eq hO1 rfl rfl,hB1⟩
    case round =>
     obtain⟨q,A2,c2,hq,rfl,rfl,hO2,hB2⟩:=hrel;by_cases hlq:q<j
     . obtain⟨s,hs,hc,hR⟩:=HG.o q hlq
       have hh2:=Rdv.below h hB2;have hix:=fun W=>Rdv.ix hh2 el55 hlq .i64 W;have hc2:=(hB2.cell (p:=adr A q) (World.block_lt_of_cell? w _ hc)).trans hc;have hR2:=Rdv.below hR hB2;have hts:=tot_succ hs;have htl:=tot_le (L:=L) (show q+1<=j by omega);have HTS:=aq hts;have HS:=aq hs;have hb3:tot L q+s.n<=1000000:=by omega
       have hsz:=hB2.size;clear hts hs hc;go_wp2_with (at_builtin;go_loud (refine list_of rfl fun K hK=>wp_app _ _ 53 rfl el53 rfl rfl hO2 hR2 (oneCell_ints .u8 _) (by omega) (by unfold maxLen;omega) hsz ?_);intro A' c' w' hO' hg;refine hK _ _ ?_;clear hK K);go_roundw
       case rel=>exact⟨q+1,A',c',by omega,by go_num,by rw [HTS.o],Own.of_eq hO' HTS.o.symm (by rw [flat_succ HS.o,List.map_append]),hB2.grown hg hsz (fun k hk=>Ownv.ob' hO2 hk)⟩
       case measure=>simp [intOf];omega
     . obtain rfl:q=j:=by omega
       go_wp2;go_ret;exact⟨A2,c2,rfl,hO2,hB2⟩
/-! ### Attach -/
def aRes(k:Int)(xs:List Int):List Int:=if sLen k=0 then [] else if ValidB xs=true then xs ++ crcSum k xs else []
theorem attach_any(k:Int)(A:Option Addr)(n c:Nat)(xs:List Int)(w:World)(hx:Rd .u8 w A n c xs)(hn:n<=100000) :
 Calls prog 273 #[.int .i64 k,.slice A n c] w fun e w'=>∃ A' n' c',e= .returned (.tuple #[.slice A' n' c',.int .i64 (cErr k xs)])/\Own .u8 5 w' w.heap.size A' n' c' (aRes k xs)/\Below w.heap.size w w':=by
 have hxl:=hx.len;have HXL:=aq hxl;clear hxl;by_cases h0:cErr k xs=0
 . have h1:sLen k≠0:=by intro h;unfold cErr at h0;rw [if_pos h]at h0;cases h0
   have h2:ValidB xs=true:=by
    by_cases hv:ValidB xs=true
    . exact hv
    . unfold cErr at h0;rw [if_neg h1,if_neg hv]at h0;cases h0
   have e2:aRes k xs=xs ++ crcSum k xs:=by rw [aRes,if_neg h1,if_pos h2]
   have hcmp:=aq (compute_ok k A n c xs w hx h1 h2);have hN:=sLen_cases k;rw [h0,e2];have hlb:sLen k<=24:=by omega
   clear h0 e2 h1 h2 hN;generalize crcSum k xs=S at *;generalize sLen k=N at *;go_enter func273,ntmps273;go_wp2_with fail;refine hcmp.o.mono ?_;rintro e w1 ⟨A1,c1,rfl,hO1,hB1⟩;have hx1:=Rdv.below hx hB1;have hR1:=Own.rd hO1;have hx2:=Rdv.alloc hx1 (.cells #[.slice A n c,.slice A1 N c1] 53);have hR2:=Rdv.alloc hR1 (.cells #[.slice A n c,.slice A1 N c1] 53);have hlit:=(Ownv.lit (base:=0) w1 #[.slice A n c,.slice A1 N c1] 53 rfl (Nat.zero_le _) (by show 2<=maxLen;unfold maxLen;omega)).rd;have htot:tot [⟨A,n,c,xs⟩,⟨A1,N,c1,S⟩] 2=n+N:=by simp [tot]
   have hflat:flat [⟨A,n,c,xs⟩,⟨A1,N,c1,S⟩] 2=xs ++ S:=by simp [flat]
   have hcc:=concat_any (some ⟨w1.heap.size,0,none⟩) 2 2 [⟨A,n,c,xs⟩,⟨A1,N,c1,S⟩] _ hlit (by
    intro s hs;simp only [List.mem_cons,List.not_mem_nil,or_false]at hs;rcases hs with rfl | rfl
    . exact hx2
    . exact hR2) (by rw [htot];omega)
   rw [htot,hflat]at hcc;have HCC:=aq hcc;clear hcc htot hflat;go_wp2_with (go_at_call 214;refine HCC.o.mono ?_;rintro e w2 ⟨A2,c2,rfl,hO2,hB2⟩);go_ret2;have hz1:=hB1.size;have hz2:w1.heap.size<=(w1.alloc (.cells #[.slice A n c,.slice A1 N c1] 53)).heap.size:=by simp
   exact⟨A2,_,c2,rfl,Ownv.mono hO2 (by omega),(hB1.trans (((Below.refl _ w1).alloc (Nat.le_refl _) _).mono hz1)).trans (hB2.mono (by omega))⟩
 . have e2:aRes k xs=[]:=by
    by_cases h1:sLen k=0
    . rw [aRes,if_pos h1]
    . by_cases hv:ValidB xs=true
      . exfalso;apply h0;rw [cErr,if_neg h1,if_pos hv]
      . rw [aRes,if_neg h1,if_neg hv]
   have hcmp:=aq (compute_any k A n c xs w hx)
   have hne:=bne_t h0
   rw [e2]
   clear h0 e2
   generalize cErr k xs=E at *
   go_enter func273,ntmps273
   go_wp2_with fail
   refine hcmp.o.mono ?_
   rintro e w1 ⟨A1,n1,c1,rfl,hO1,hB1⟩
   go_wp2
   go_ret2
   exact⟨none,0,0,rfl,Own.nilv _ _ _ _,hB1⟩
theorem splitL_len(v:Int)(n:Nat):(splitL v n).length=n:=by simp [splitL]
def chkErr(k:Int)(xs:List Int):Int :=
 if sLen k=0 then 2 else if ValidB xs=true then(if xs.length<sLen k then 5 else if crcSum k (xs.take (xs.length - sLen k))=xs.drop (xs.length - sLen k) then 0 else 11) else 3
def chkRes(k:Int)(xs:List Int):List Int:=if chkErr k xs=0 then xs.take (xs.length - sLen k) else []
theorem check_any(k:Int)(A:Option Addr)(n c:Nat)(xs:List Int)(w:World)(hx:Rd .u8 w A n c xs)(hn:n<=100000) :
 Calls prog 124 #[.int .i64 k,.slice A n c] w fun e w'=>∃ A' n' c',e= .returned (.tuple #[.slice A' n' c',.int .i64 (chkErr k xs)])/\Own .u8 5 w' w.heap.size A' n' c' (chkRes k xs)/\Below w.heap.size w w':=by
 have hN:=sLen_cases k;have hxl:=hx.len;have hl:=fun W=>aq (len_any k W);by_cases h0:sLen k=0
 . have e1:chkErr k xs=2:=by rw [chkErr,if_pos h0]
   have e2:chkRes k xs=[]:=by rw [chkRes,e1];rfl
   rw [e1,e2];rw [h0]at hl;clear e1 e2 h0 hN hxl;go_enter func124,ntmps124;go_wp2_with fail;refine(hl _).out.mono ?_;rintro e w1 ⟨rfl,hB1⟩;go_wp2_with fail;refine(hl _).out.mono ?_;rintro e w2 ⟨rfl,hB2⟩;go_wp2;go_ret2;exact⟨none,0,0,rfl,Own.nilv _ _ _ _,hB1.trans (hB2.mono hB1.size)⟩
 . by_cases hv:ValidB xs=true
   . by_cases hs:xs.length<sLen k
     . have e1:chkErr k xs=5:=by rw [chkErr,if_neg h0,if_pos hv,if_pos hs]
       have e2:chkRes k xs=[]:=by rw [chkRes,e1];rfl
       rw [e1,e2];rw [hxl]at hs;clear e1 e2 hxl;generalize sLen k=L at *;have hb:((L:Int) == 0)=false:=beq_f (by omega);have hL8:1<=L/\L<=24:=by omega
       clear hN h0;go_enter func124,ntmps124;go_wp2_with fail;refine(hl _).out.mono ?_;rintro e w1 ⟨rfl,hB1⟩;go_wp2_with fail;refine(hl _).out.mono ?_;rintro e w2 ⟨rfl,hB2⟩;have hx2:=Rdv.below (Rdv.below hx hB1) hB2;go_wp2_with (go_at_call 187;refine(invalid_any A n c xs _ hx2).mono ?_;rintro e w' ⟨rfl,rfl⟩);go_ret2;exact⟨none,0,0,rfl,Own.nilv _ _ _ _,hB1.trans (hB2.mono hB1.size)⟩
     . have hc:=fun W hW=>aq (compute_ok k A (xs.length - sLen k) c (xs.take (xs.length - sLen k)) W hW h0 (validB_take _ hv))
       by_cases hq:crcSum k (xs.take (xs.length - sLen k))=xs.drop (xs.length - sLen k)
       . have e1:chkErr k xs=0:=by rw [chkErr,if_neg h0,if_pos hv,if_neg hs,if_pos hq]
         have e2:chkRes k xs=xs.take (xs.length - sLen k):=by rw [chkRes,e1];rfl
         rw [e1,e2];rw [hxl]at *;clear e1 e2;have HQ:decide (crcSum k (xs.take (n - sLen k))=xs.drop (n - sLen k))=true:=by simpa using hq
         clear hq;generalize crcSum k (xs.take (n - sLen k))=S at *;generalize sLen k=L at *;have hb:((L:Int) == 0)=false:=beq_f (by omega);have hL8:1<=L/\L<=24:=by omega
         have em0:(n:Int) - (L:Int)=((n - L:Nat):Int):=by omega
         have hmn:n - L<=n:=by omega
         generalize n - L=m at *;clear hN h0;go_enter func124,ntmps124;go_wp2_with fail;refine(hl _).out.mono ?_;rintro e w1 ⟨rfl,hB1⟩;go_wp2_with fail;refine(hl _).out.mono ?_;rintro e w2 ⟨rfl,hB2⟩;have hx2:=Rdv.below (Rdv.below hx hB1) hB2;have hsl:=fun W=>Rdv.slh hx2 el53 .i64 (show m<=c by have:=Rdv.le hx;omega) W;have hsl2:=fun W=>Rdv.sll hx2 el53 .i64 hmn W;go_wp2_with (go_at_call 187;refine(invalid_any A n c xs _ hx2).mono ?_;rintro e w' ⟨rfl,rfl⟩);refine(hc _ (Rd.upto hx2 hmn)).out.mono ?_;rintro e w3 ⟨A3,c3,rfl,hO3,hB3⟩;have hx3:=Rdv.below hx2 hB3;have hd3:=Rd.cut_ hx3 (l:=m) (m:=n) hmn (Nat.le_refl _);rw [List.take_of_length_le (Nat.le_of_eq hx.len)]at hd3;go_wp2_with (go_at_call 189;refine(equal_any A3 (cut A c m) L c3 _ _ S (xs.drop m) _ (Own.rd hO3) hd3).mono ?_;rintro e w4 ⟨rfl,hQ4⟩);have hz2:=Nat.le_trans hB1.size hB2.size;have hz3:=hB3.size;have hz4:=(hQ4.below w3.heap.size).size;have hx4:=Rdv.below (Rd.upto hx3 (show m<=n by omega)) (hQ4.below _);go_wp2_with (go_at_call 190;refine(clone_any A m c _ _ hx4 (by omega)).mono ?_;rintro e w5 ⟨A5,c5,rfl,hO5,hB5⟩);have hfb:Below w.heap.size w w5:=(((hB1.trans (hB2.mono hB1.size)).trans (hB3.mono hz2)).trans (hQ4.below _)).trans (hB5.mono (by omega));go_ret2;exact⟨A5,m,c5,rfl,Ownv.mono hO5 (by omega),hfb⟩
       . have e1:chkErr k xs=11:=by rw [chkErr,if_neg h0,if_pos hv,if_neg hs,if_neg hq]
         have e2:chkRes k xs=[]:=by rw [chkRes,e1];rfl
         rw [e1,e2];rw [hxl]at *;clear e1 e2;have HQ:decide (crcSum k (xs.take (n - sLen k))=xs.drop (n - sLen k))=false:=by simpa using hq
         clear hq;generalize crcSum k (xs.take (n - sLen k))=S at *;generalize sLen k=L at *;have hb:((L:Int) == 0)=false:=beq_f (by omega);have hL8:1<=L/\L<=24:=by omega
         have em0:(n:Int) - (L:Int)=((n - L:Nat):Int):=by omega
         have hmn:n - L<=n:=by omega
         generalize n - L=m at *;clear hN h0;go_enter func124,ntmps124;go_wp2_with fail;refine(hl _).out.mono ?_;rintro e w1 ⟨rfl,hB1⟩;go_wp2_with fail;refine(hl _).out.mono ?_;rintro e w2 ⟨rfl,hB2⟩;have hx2:=Rdv.below (Rdv.below hx hB1) hB2;have hsl:=fun W=>Rdv.slh hx2 el53 .i64 (show m<=c by have:=Rdv.le hx;omega) W;have hsl2:=fun W=>Rdv.sll hx2 el53 .i64 hmn W;go_wp2_with (go_at_call 187;refine(invalid_any A n c xs _ hx2).mono ?_;rintro e w' ⟨rfl,rfl⟩);refine(hc _ (Rd.upto hx2 hmn)).out.mono ?_;rintro e w3 ⟨A3,c3,rfl,hO3,hB3⟩;have hx3:=Rdv.below hx2 hB3;have hd3:=Rd.cut_ hx3 (l:=m) (m:=n) hmn (Nat.le_refl _);rw [List.take_of_length_le (Nat.le_of_eq hx.len)]at hd3;go_wp2_with (go_at_call 189;refine(equal_any A3 (cut A c m) L c3 _ _ S (xs.drop m) _ (Own.rd hO3) hd3).mono ?_;rintro e w4 ⟨rfl,hQ4⟩);have hz2:=Nat.le_trans hB1.size hB2.size;have hfb:Below w.heap.size w w4:=((hB1.trans (hB2.mono hB1.size)).trans (hB3.mono hz2)).trans (hQ4.below _);go_wp2;go_ret2;exact⟨none,0,0,rfl,Own.nilv _ _ _ _,hfb⟩
   . have e1:chkErr k xs=3:=by rw [chkErr,if_neg h0,if_neg hv]
     have e2:chkRes k xs=[]:=by rw [chkRes,e1];rfl
     have hv':ValidB xs=false:=by simpa using hv
     rw [e1,e2];clear e1 e2 hxl hv;generalize sLen k=L at *;have hb:((L:Int) == 0)=false:=beq_f (by omega);go_enter func124,ntmps124;go_wp2_with fail;refine(hl _).out.mono ?_;rintro e w1 ⟨rfl,hB1⟩;go_wp2_with fail;refine(hl _).out.mono ?_;rintro e w2 ⟨rfl,hB2⟩;have hx2:=Rdv.below (Rdv.below hx hB1) hB2;go_wp2_with (go_at_call 187;refine(invalid_any A n c xs _ hx2).mono ?_;rintro e w' ⟨rfl,rfl⟩);go_ret2;exact⟨none,0,0,rfl,Own.nilv _ _ _ _,hB1.trans (hB2.mono hB1.size)⟩
/-! ### Mask -/
end Go.Proofs.YthmhogdceolkdaaGreat.Cr
namespace Go.Proofs.YthmhogdceolkdaaGreat.CM
open Tryz
/-! Plain arithmetic of the checksum: no program in sight. -/
def st(L p r:Nat)(b:Bool):Nat:=((2*r) % 2 ^ L) ^^^ (if (r.testBit (L - 1)) ^^ b then p else 0)
def run(L p r:Nat)(bs:List Bool):Nat:=bs.foldl (st L p) r
section
variable {L p : Nat}
theorem st_lt(hp:p<2 ^ L)(r:Nat)(b:Bool):st L p r b<2 ^ L:=by
 unfold st;refine Nat.xor_lt_two_pow (Nat.mod_lt _ (Nat.two_pow_pos L)) ?_;split
 . exact hp
 . exact Nat.two_pow_pos L
theorem run_lt(hp:p<2 ^ L):∀ (bs:List Bool) (r:Nat),r<2 ^ L->run L p r bs<2 ^ L
 | [],_,h=>h
 | x :: bs,r,_=>run_lt hp bs _ (st_lt hp r x)
def bitsOf(L r:Nat):List Bool:=(List.range L).map fun t=>r.testBit (L - 1 - t)
end
end Go.Proofs.YthmhogdceolkdaaGreat.CM
namespace Go.Proofs.YthmhogdceolkdaaGreat.Cr
open Tryz
open CM Go.RowKit
def ib(b:Bool):Int:=if b then 1 else 0
def bl(xs:List Int):List Bool:=xs.map fun x=>decide (x=1)
def Bit(xs:List Int):Prop:=∀ x ∈ xs,x=0\/x=1
theorem ib_bl{xs:List Int}(h:Bit xs):(bl xs).map ib=xs:=by
 unfold bl;rw [List.map_map];conv=>rhs;rw [<- List.map_id xs]
 apply List.map_congr_left;intro x hx;rcases h x hx with rfl | rfl<;>rfl
theorem bit_ib(bs:List Bool):Bit (bs.map ib):=by
 intro x hx;obtain⟨b,_,rfl⟩:=List.mem_map.1 hx;cases b<;>simp [ib]
theorem bit_valid{xs:List Int}(h:Bit xs):ValidB xs=true:=by
 unfold ValidB;rw [List.all_eq_true];intro x hx;rcases h x hx with rfl | rfl<;>rfl
theorem bit_of{xs:List Int}(h0:∀ x ∈ xs,0<=x)(h:ValidB xs=true):Bit xs:=by
 unfold ValidB at h;rw [List.all_eq_true]at h;intro x hx;have h1:=h0 x hx;have h2:=h x hx;simp at h2;omega
theorem ofInt_u32(a:Nat)(ha:a<4294967296):(BitVec.ofInt 32 (a:Int)).toNat=a:=by
 rw [BitVec.ofInt_natCast,BitVec.toNat_ofNat];exact Nat.mod_eq_of_lt (by omega)
theorem u32_and_nat(a b:Nat)(ha:a<4294967296)(hb:b<4294967296):bits .and .u32 (a:Int) (b:Int)=((a &&& b:Nat):Int):=by
 have hx:a &&& b<2 ^ 32:=Nat.and_lt_two_pow _ (by omega);show IntKind.u32.wrap ((BitVec.ofInt 32 (a:Int) &&& BitVec.ofInt 32 (b:Int)).toNat:Int)=_;rw [BitVec.toNat_and,ofInt_u32 a ha,ofInt_u32 b hb,IntKind.wrap_u32];omega
theorem u32_xor_nat(a b:Nat)(ha:a<4294967296)(hb:b<4294967296):bits .xor .u32 (a:Int) (b:Int)=((a ^^^ b:Nat):Int):=by
 have hx:a ^^^ b<2 ^ 32:=Nat.xor_lt_two_pow (by omega) (by omega);show IntKind.u32.wrap ((BitVec.ofInt 32 (a:Int) ^^^ BitVec.ofInt 32 (b:Int)).toNat:Int)=_;rw [BitVec.toNat_xor,ofInt_u32 a ha,ofInt_u32 b hb,IntKind.wrap_u32];omega
theorem u32_xor_ib(a b:Bool):bits .xor .u32 (ib a) (ib b)=ib (a ^^ b):=by cases a<;>cases b<;>decide
theorem u32_and_one(x:Nat)(hx:x<4294967296):bits .and .u32 (x:Int) 1=ib (x.testBit 0):=by
 have:=u32_and_nat x 1 hx (by decide);rw [show ((1:Nat):Int)=1 from rfl]at this;rw [this,Nat.and_one_is_mod,Nat.testBit_zero];rcases Nat.mod_two_eq_zero_or_one x with h | h<;>rw [h]<;>rfl
theorem two_pow_le{L:Nat}(hL:L<=31):2 ^ L<=2147483648:=Nat.pow_le_pow_right (n:=2) (by decide) hL
theorem div_pow_bit(r j:Nat):(r / 2 ^ j).testBit 0=r.testBit j:=by
 rw [<- Nat.shiftRight_eq_div_pow,Nat.testBit_shiftRight,Nat.add_zero]
theorem crcStep_nat{L p r:Nat}(_:1<=L)(hL2:L<=31)(hp:p<2 ^ L)(hr:r<2 ^ L)(b:Bool):crcStep L (p:Int) (r:Int) (ib b)=(st L p r b:Int):=by
 have h2:=two_pow_le hL2;have hpos:=Nat.two_pow_pos L;unfold crcStep;have e1:(r:Int)*2 % 4294967296=((2*r:Nat):Int):=by omega
 have e2:((2:Int) ^ L % 4294967296 - 1) % 4294967296=((2 ^ L - 1:Nat):Int):=by
  have:(2:Int) ^ L=((2 ^ L:Nat):Int):=by simp
  rw [this];omega
 have e3:(r:Int) / 2 ^ (L - 1)=((r / 2 ^ (L - 1):Nat):Int):=by simp
 have e4:(ib b) % 4294967296=ib b:=by cases b<;>rfl
 have hq:r / 2 ^ (L - 1)<4294967296:=Nat.lt_of_le_of_lt (Nat.div_le_self _ _) (by omega);rw [e1,e2,e3,e4,u32_and_nat _ _ (by omega) (by omega),Nat.and_two_pow_sub_one_eq_mod,u32_and_one _ hq,div_pow_bit,u32_xor_ib];have e5:ib (r.testBit (L - 1) ^^ b)*(p:Int) % 4294967296=(((if (r.testBit (L - 1) ^^ b) then p else 0):Nat):Int):=by
  cases (r.testBit (L - 1) ^^ b)
  . simp [ib]
  . simp only [ib,if_true];omega
 rw [e5,u32_xor_nat _ _ (Nat.lt_of_lt_of_le (Nat.mod_lt _ hpos) (by omega)) (by split<;>omega)];rfl
theorem crcFold_nat{L p:Nat}(hL:1<=L)(hL2:L<=31)(hp:p<2 ^ L)(bs:List Bool):crcFold L (p:Int) (bs.map ib)=(run L p 0 bs:Int):=by
 have key:∀ (bs:List Bool) (r:Nat),r<2 ^ L->(bs.map ib).foldl (crcStep L (p:Int)) (r:Int)=(run L p r bs:Int):=by
  intro bs;induction bs with
  | nil=>intro r _;rfl
  | cons b bs ih =>
    intro r hr;rw [List.map_cons,List.foldl_cons,crcStep_nat hL hL2 hp hr];exact ih _ (st_lt hp r b)
 exact key bs 0 (Nat.two_pow_pos L)
theorem splitL_nat{L r:Nat}(hr:r<4294967296):splitL (r:Int) L=(bitsOf L r).map ib:=by
 unfold splitL bitsOf;rw [List.map_map];apply List.map_congr_left;intro j hj;have e3:(r:Int) / 2 ^ (L - 1 - j)=((r / 2 ^ (L - 1 - j):Nat):Int):=by simp
 have hq:r / 2 ^ (L - 1 - j)<4294967296:=Nat.lt_of_le_of_lt (Nat.div_le_self _ _) hr;rw [e3,u32_and_one _ hq,div_pow_bit];simp only [Function.comp];cases r.testBit (L - 1 - j)<;>decide
def nPoly(k:Int):Nat:=if k=1 then 0x864cfb else if k=2 then 0x800063 else if k=3 then 0x1021 else if k=4 then 0x9b else 0
theorem sPoly_nat(k:Int):sPoly k=(nPoly k:Int):=by unfold sPoly nPoly;repeat (split<;>try rfl)
theorem nPoly_ok{k:Int}(h:sLen k≠0):1<=sLen k/\sLen k<=31/\nPoly k<2 ^ sLen k/\(nPoly k).testBit 0=true:=by
 unfold sLen at h;by_cases h1:k=1
 . subst h1;decide
 by_cases h2:k=2
 . subst h2;decide
 by_cases h3:k=3
 . subst h3;decide
 by_cases h4:k=4
 . subst h4;decide
 . exfalso;apply h;simp [h1,h2,h3,h4]
theorem crcSum_bits{k:Int}(h:sLen k≠0)(bs:List Bool):crcSum k (bs.map ib)=(bitsOf (sLen k) (run (sLen k) (nPoly k) 0 bs)).map ib:=by
 obtain⟨h1,h2,h3,h4⟩:=nPoly_ok h;unfold crcSum;rw [sPoly_nat,crcFold_nat h1 h2 h3,splitL_nat];have:=run_lt h3 bs 0 (Nat.two_pow_pos _);have:=two_pow_le h2;omega
/-! ### the reference's long division -/
theorem gi_set(m:List Int)(i t:Nat)(v:Int)(hi:i<m.length):gi (m.set i v) t=if i=t then v else gi m t:=by
 unfold gi;simp only [List.getD_eq_getElem?_getD,List.getElem?_set];split
 . rename_i h;subst h;simp
 . rfl
theorem crcSum_len(k:Int)(xs:List Int):(crcSum k xs).length=sLen k:=by unfold crcSum;rw [splitL_len]
theorem bit_sum{k:Int}(h:sLen k≠0){xs:List Int}(hx:Bit xs):Bit (crcSum k xs):=by
 rw [<- ib_bl hx,crcSum_bits h];exact bit_ib _
theorem bit_app{xs ys:List Int}(hx:Bit xs)(hy:Bit ys):Bit (xs ++ ys):=by
 intro x h;rcases List.mem_append.1 h with h | h
 . exact hx x h
 . exact hy x h
theorem bit_take{xs:List Int}(n:Nat)(hx:Bit xs):Bit (xs.take n):=fun x h=>hx x (List.mem_of_mem_take h)
theorem bit_zeros(n:Nat):Bit (List.replicate n 0):=by
 intro x h;rw [List.mem_replicate]at h;exact .inl h.2
end Go.Proofs.YthmhogdceolkdaaGreat.Cr
namespace Go.Proofs.YthmhogdceolkdaaGreat.Cr
open Tryz
open Go.RowKit CM
theorem list_ofg{P:Program}{w:World}{ops:Array Oper}{rest:List Oper}{o:Oper}{a:Act}{Q:Exit->Act->World->Prop}(hw:Region.wanted o (yielded ops a.tmps)=true)(h:∀ K:Act->World->Prop,(∀ a w,wpList P ops Q rest a w->K a w)->o.wp P a w K Q):wpList P ops Q (o :: rest) a w :=
 wpList_step fun K hK=>by rw [if_pos hw];exact h K hK
end Go.Proofs.YthmhogdceolkdaaGreat.Cr
namespace Go.Proofs.YthmhogdceolkdaaGreat.Cr
open Tryz
open Go.RowKit CM
end Go.Proofs.YthmhogdceolkdaaGreat.Cr
namespace Go.Proofs.YthmhogdceolkdaaGreat.Cr
open Tryz
open Go.RowKit CM
end Go.Proofs.YthmhogdceolkdaaGreat.Cr
namespace Go.Proofs.YthmhogdceolkdaaGreat.Cr
open Tryz
def SZ(j:Nat):Nat:=if j<60 then 40+8*j else if j<92 then 528+16*(j - 60) else if j<124 then 1056+32*(j - 92) else 2112+64*(j - 124)
def VK(k:Int):Prop:=(40<=k/\k<=512/\k % 8=0)\/(528<=k/\k<=1024/\k % 16=0)\/(1056<=k/\k<=2048/\k % 32=0)\/(2112<=k/\k<=6144/\k % 64=0)
instance (k:Int):Decidable (VK k):=by unfold VK;infer_instance
theorem SZ_vk(j:Nat)(hj:j<188):VK (SZ j:Int):=by
 unfold VK SZ;split
 . omega
 . split
   . omega
   . split<;>omega
theorem SZ_mono{i j:Nat}(h:i<j):SZ i<SZ j:=by
 unfold SZ;repeat' split
 all_goals omega
theorem SZ_le{i j:Nat}(h:i<=j):SZ i<=SZ j:=by
 rcases Nat.lt_or_eq_of_le h with h | rfl
 . exact Nat.le_of_lt (SZ_mono h)
 . exact Nat.le_refl _
theorem SZ_gap{j:Nat}(hj:j+1<188):SZ (j+1)<=SZ j+64:=by
 unfold SZ;repeat' split
 all_goals omega
theorem SZ_lo(j:Nat):40<=SZ j:=by
 unfold SZ;repeat' split
 all_goals omega
theorem SZ_hi{j:Nat}(hj:j<188):SZ j<=6144:=by
 unfold SZ;repeat' split
 all_goals omega
def ix(n:Nat):Nat:=if n<=40 then 0 else if n<=512 then(n - 33) / 8 else if n<=528 then 60 else if n<=1024 then 60+(n - 513) / 16 else if n<=1056 then 92 else if n<=2048 then 92+(n - 1025) / 32 else if n<=2112 then 124 else 124+(n - 2049) / 64
theorem ix_lt{n:Nat}(h:n<=6144):ix n<188:=by
 unfold ix;repeat' split
 all_goals omega
theorem ix_ge{n:Nat}(h:n<=6144):n<=SZ (ix n):=by
 unfold ix;repeat' split
 all_goals (unfold SZ;repeat' split)
 all_goals omega
theorem ix_below{n j:Nat}(hj:j<ix n)(h:n<=6144):SZ j<n:=by
 have h1:SZ (ix n - 1)<n:=by
  have h0:0<ix n:=by omega
  revert h0;unfold ix;repeat' split
  all_goals intro h0
  all_goals (unfold SZ;repeat' split)
  all_goals omega
 exact Nat.lt_of_le_of_lt (SZ_le (by omega)) h1
theorem ix_pos{n:Nat}(h:40<n):0<ix n:=by
 unfold ix;repeat' split
 all_goals omega
def nx(n:Nat):Nat:=SZ (ix n)
theorem nx_vk{n:Nat}(hn:n<=6144):VK (nx n:Int):=SZ_vk _ (ix_lt hn)
theorem nx_ge{n:Nat}(hn:n<=6144):n<=nx n:=ix_ge hn
theorem nx_le{n:Nat}(hn:n<=6144):nx n<=6144:=SZ_hi (ix_lt hn)
def pv(n:Nat):Nat:=SZ (ix n - 1)
theorem pv_lt{n:Nat}(hn:n<=6144)(h:40<n):pv n<n:=ix_below (by have:=ix_pos h;omega) hn
theorem pv_vk{n:Nat}(hn:n<=6144):VK (pv n:Int):=SZ_vk _ (by have:=ix_lt hn;omega)
theorem pv_gap{n:Nat}(hn:n<=6144)(h:40<n):nx n<=pv n+64:=by
 have h1:=ix_pos h;have h2:=ix_lt hn;have:=SZ_gap (j:=ix n - 1) (by omega);rw [show ix n - 1+1=ix n by omega]at this;exact this
/-! ### The layout -/
def bC(b:Nat):Nat:=if b<=6144 then 1 else(b+6119) / 6120
def ck(b:Nat):Nat:=if b<=6144 then 0 else 24
def tl(b:Nat):Nat:=b+bC b*ck b
def av(b:Nat):Nat:=(tl b+bC b - 1) / bC b
def lo(b:Nat):Nat:=nx (av b)
def sh(b:Nat):Nat:=if b<=6144 then 0 else pv (av b)
def shs(b:Nat):Nat:=if b<=6144 then 0 else(bC b*lo b - tl b) / (lo b - sh b)
def los(b:Nat):Nat:=bC b - shs b
def fi(b:Nat):Nat:=los b*lo b+shs b*sh b - tl b
def sz(b i:Nat):Nat:=if i<shs b then sh b else lo b
theorem bC_pos{b:Nat}:1<=bC b:=by unfold bC;split<;>omega
theorem bC_le{b:Nat}(hb:b<=79560):bC b<=13:=by unfold bC;split<;>omega
theorem bC_one{b:Nat}(h:b<=6144):bC b=1:=by unfold bC;rw [if_pos h]
theorem bC_two{b:Nat}(h:¬ b<=6144):2<=bC b:=by unfold bC;rw [if_neg h];omega
theorem av_one{b:Nat}(h:b<=6144):av b=b:=by unfold av tl;rw [bC_one h];unfold ck;rw [if_pos h];omega
theorem av_le{b:Nat}:av b<=6144:=by
 by_cases h:b<=6144
 . rw [av_one h];exact h
 . have h2:=bC_two h
   unfold av;have h3:b<=6120*bC b:=by unfold bC;rw [if_neg h];omega
   have h4:tl b<=6144*bC b:=by unfold tl ck;rw [if_neg h];omega
   rw [<- Nat.lt_succ_iff,Nat.div_lt_iff_lt_mul (by omega)];omega
theorem av_big{b:Nat}(h:¬ b<=6144):3000<av b:=by
 have h2:=bC_two h;have h3:6120*(bC b - 1)<=b+6119 - 6120:=by unfold bC;rw [if_neg h];omega
 have h4:3001*bC b<=tl b:=by unfold tl ck;rw [if_neg h];omega
 unfold av;have:3001<=(tl b+bC b - 1) / bC b:=by rw [Nat.le_div_iff_mul_le (by omega)];omega
 omega
theorem av_mul{b:Nat}:tl b<=av b*bC b/\(1<=b->(av b - 1)*bC b<tl b):=by
 have h:=@bC_pos b;unfold av;have h1:=Nat.div_add_mod (tl b+bC b - 1) (bC b);have h2:=Nat.mod_lt (tl b+bC b - 1) (show bC b > 0 by omega);have h3:bC b*((tl b+bC b - 1) / bC b)=(tl b+bC b - 1) / bC b*bC b:=Nat.mul_comm _ _;have h4:0<tl b\/b=0:=by unfold tl;omega
 constructor
 . omega
 . intro hb
   rw [Nat.sub_mul,Nat.one_mul];omega
theorem lo_ge{b:Nat}:av b<=lo b:=nx_ge av_le
theorem lo_le{b:Nat}:lo b<=6144:=nx_le av_le
theorem sh_lt{b:Nat}(h:¬ b<=6144):sh b<av b/\lo b<=sh b+64/\2000<sh b:=by
 have h1:=av_big h;have h2:=@av_le b;unfold sh lo;rw [if_neg h];have h3:=pv_lt h2 (by omega);have h4:=pv_gap h2 (by omega);have h5:=nx_ge h2;omega
theorem sh_le{b:Nat}:sh b<=lo b:=by
 by_cases h:b<=6144
 . unfold sh;rw [if_pos h];omega
 . have:=sh_lt h;have:=@lo_ge b;omega
theorem tl_le{b:Nat}:tl b<=bC b*lo b:=by
 have h1:=(@av_mul b).1;have h2:=Nat.mul_le_mul_right (bC b) (@lo_ge b);rw [Nat.mul_comm (bC b)];omega
theorem shs_lt{b:Nat}(hb:1<=b):shs b<bC b:=by
 unfold shs;split
 . exact bC_pos
 . rename_i h
   have h1:=sh_lt h;have h2:=@lo_ge b;rw [Nat.div_lt_iff_lt_mul (by omega)];have h3:=(@av_mul b).2 hb;have h4:sh b*bC b<=(av b - 1)*bC b:=Nat.mul_le_mul_right _ (by omega);rw [Nat.mul_sub,Nat.mul_comm (bC b) (sh b)];have h5:sh b*bC b<=bC b*lo b:=by rw [Nat.mul_comm];exact Nat.mul_le_mul_left _ sh_le
   have h6:=@tl_le b;omega
theorem sum_eq{b:Nat}(hb:1<=b):los b*lo b+shs b*sh b=bC b*lo b - shs b*(lo b - sh b):=by
 have h1:=shs_lt hb;have h2:=@sh_le b;unfold los;have h3:shs b*lo b<=bC b*lo b:=Nat.mul_le_mul_right _ (by omega);have h4:shs b*sh b<=shs b*lo b:=Nat.mul_le_mul_left _ h2;rw [Nat.sub_mul,Nat.mul_sub];omega
theorem shs_mul{b:Nat}(hb:1<=b):shs b*(lo b - sh b)+tl b<=bC b*lo b/\(¬ b<=6144->bC b*lo b<shs b*(lo b - sh b)+tl b+(lo b - sh b)):=by
 have h0:=@tl_le b;by_cases h:b<=6144
 . refine⟨?_,fun h'=>absurd h h'⟩
   have:shs b=0:=by unfold shs;rw [if_pos h]
   rw [this];omega
 . have h1:=sh_lt h
   have h2:=@lo_ge b;have e:shs b=(bC b*lo b - tl b) / (lo b - sh b):=by unfold shs;rw [if_neg h]
   have h3:=Nat.div_add_mod (bC b*lo b - tl b) (lo b - sh b);have h4:=Nat.mod_lt (bC b*lo b - tl b) (show lo b - sh b > 0 by omega);rw [<- e,Nat.mul_comm]at h3;omega
theorem fi_eq{b:Nat}(hb:1<=b):tl b+fi b=los b*lo b+shs b*sh b:=by
 have h1:=shs_mul hb;have h2:=sum_eq hb;unfold fi;omega
theorem fi_lt{b:Nat}(hb:1<=b)(hb2:b<=79560):fi b<64:=by
 have h1:=shs_mul hb;have h2:=sum_eq hb;have h3:=fi_eq hb;by_cases h:b<=6144
 . have e1:shs b=0:=by unfold shs;rw [if_pos h]
   have e2:bC b=1:=bC_one h;have e3:tl b=b:=by unfold tl ck;rw [if_pos h];omega
   have e4:lo b<=(if b<=40 then 40 else b+63):=by
    unfold lo;rw [av_one h];split
    . rename_i h9
      have:ix b=0:=by unfold ix;rw [if_pos h9]
      unfold nx;rw [this];decide
    . have:=pv_gap h (by omega);have:=pv_lt h (by omega);omega
   unfold los at h3;rw [e1,e2,e3]at h3;split at e4<;>omega
 . have:=sh_lt h
   have:=h1.2 h;omega
theorem sz_ge{b i:Nat}(hb:1<=b):ck b+(if i=0 then fi b else 0)<sz b i/\sz b i<=6144:=by
 have h3:=@lo_le b;have h4:=@sh_le b;by_cases h:b<=6144
 . have e1:shs b=0:=by unfold shs;rw [if_pos h]
   have e2:bC b=1:=bC_one h;have e3:tl b=b:=by unfold tl ck;rw [if_pos h];omega
   have h5:=fi_eq hb;unfold los at h5;rw [e1,e2,e3]at h5;have h6:=@lo_ge b;rw [av_one h]at h6;unfold sz;rw [e1];have e4:ck b=0:=by unfold ck;rw [if_pos h]
   rw [e4];simp only [Nat.not_lt_zero,if_false];split<;>omega
 . have e4:ck b=24:=by unfold ck;rw [if_neg h]
   have:=sh_lt h;have h7:=(shs_mul hb).2 h;have h8:=fi_eq hb;have h9:=sum_eq hb;unfold sz;split<;>split<;>omega
open CM Go.RowKit
end Go.Proofs.YthmhogdceolkdaaGreat.Cr