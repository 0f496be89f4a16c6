/- Bundle. Conditions: none. -/
import Derived.Test.YthmhogdceolkdaaGreatBqbh
set_option linter.unusedVariables false
set_option linter.unusedSimpArgs false
namespace Go.Proofs.YthmhogdceolkdaaGreat.Cr
open Tryz
open Go.RowKit Go.Shelf
attribute [local go_sem] Oper.semAt_some
set_option maxRecDepth 100000
set_option maxHeartbeats 2000000
def CePost(bad:Prop)(ys:List Int)(W:World)(en:Ending)(w':World):Prop :=
 Below W.heap.size W w'/\((bad/\en= .returned (.tuple #[.slice none 0 0,.int .i64 10]))\/(¬ bad/\∃ A' n' c',en= .returned (.tuple #[.slice A' n' c',.int .i64 0])/\A'≠none/\Own .u8 5 w' W.heap.size A' n' c' ys))
def EwE(w:World)(C:Nat)(bad:Nat->Prop)(Y:Nat->List Int)(out i:Value)(wr:World):Prop :=
 ∃ (j:Nat) (A:Option Addr) (c:Nat) (L:List Sv),j<=C/\out= .slice A L.length c/\i= .int .i64 (j:Int)/\L.length=j/\BL wr w.heap.size A c L/\L.map (·.xs)=(List.range j).map Y/\(∀ q,q<j->¬ bad q)/\Below w.heap.size w wr
def EaPost(C:Nat)(bad:Nat->Prop)(Y:Nat->List Int)(W:World)(en:Ending)(w':World):Prop :=
 Below W.heap.size W w'/\(((∃ q,q<C/\bad q)/\en= .returned (.tuple #[.slice none 0 0,.int .i64 10]))\/((∀ q,q<C->¬ bad q)/\∃ A c L,en= .returned (.tuple #[.slice A L.length c,.int .i64 0])/\BL w' W.heap.size A c L/\L.map (·.xs)=(List.range C).map Y))
theorem each20e_any(A0:Option Addr)(C c0:Nat)(L0:List Sv)(p1 p2 p3:Value)(bad:Nat->Prop)(Y:Nat->List Int)(W:World)(hL:RL W A0 C c0 L0)(hC:C<=1000)
 (hcl:∀ (j:Nat) (s:Sv) (wr:World),L0[j]?=some s->Below W.heap.size W wr->Calls prog 212 #[.int .i64 (j:Int),.slice s.A s.n s.c,p1,p2,p3] wr (CePost (bad j) (Y j) wr)) :
 Calls prog 211 #[.slice A0 C c0,.func (.func 212) #[] #[p1,p2,p3]] W (EaPost C bad Y W):=by
 have hl0:=hL.len;have HC:=aq hcl;have HL:=aq hL;clear hcl;go_enter func211,ntmps211;go_wp2;go_loopw [6,13] (fun out i wr=>EwE W C bad Y out i wr) (fun _ i _=>C - (intOf i).toNat)
 case atStart=>exact⟨0,none,0,[],by omega,rfl,rfl,rfl,BL.nil W _,rfl,fun q hq=>by omega,Below.refl _ _⟩
 case round =>
  obtain⟨j,A,c,L,hj,rfl,rfl,hlen,hBL,hxs,hnb,hB⟩:=hrel;have HBL:=aq hBL;have HX:=aq hxs;have HB:=aq hB;have HNB:=aq hnb;subst hlen;by_cases hlt:L.length<C
  . have hRL:=HL.o.below hB
    obtain⟨s,hs,hc,hR⟩:=hRL.get hlt;have hix:=fun W=>Rdv.ix hRL.o el55 (j:=L.length) hlt .i64 W;have hcl:=aq (HC.o L.length s wr hs hB);clear hBL hxs hR hRL hs hL hnb hB;go_wp2_with fail;refine hcl.o.mono ?_;rintro en w1 ⟨hB',h⟩;have HB':=aq hB';rcases h with⟨hbad,rfl⟩ | ⟨hnb2,A',n',c',rfl,hA',hO'⟩
    . have HBAD:=aq hbad
      have HD:=aq (HB.o.trans (hB'.mono HB.o.size));have HLT:=aq hlt;clear hbad hB';go_wp2;go_ret2;exact⟨HD.o,.inl ⟨⟨_,HLT.o,HBAD.o⟩,rfl⟩⟩
    . have HO':=aq hO'
      have HA':=aq hA';have HN2:=aq hnb2;have HBL1:=aq (HBL.o.below hB');have HZ1:=aq (Nat.le_trans HB.o.size hB'.size);clear hO' hA' hnb2 hB' hcl;go_wp2_with (at_builtin;refine list_of rfl fun K hK=>wp_app1 (w:=w1) (base:=W.heap.size) _ _ 127 rfl el55 rfl (.slice A' n' c') rfl rfl HBL1.o.o (by omega) (by omega) HZ1.o ?_;intro A2 c2 w2 hO2 hg2;have HO2:=aq hO2;have HG2:=aq hg2;clear hO2 hg2;refine hK _ _ ?_;clear hK K);have hge:=(Ownv.blk_of HO'.o HA'.o).1;have hBL2:BL w2 W.heap.size A2 c2 (L ++ [⟨A',n',c',Y L.length⟩]) :=
       BL.push HBL1.o (s:=⟨A',n',c',Y L.length⟩) (Ownv.mono HO'.o HB.o.size) HA'.o
        (fun t ht=>by have h8:=(Ownv.blk_of (HBL.o.r t ht).1 (HBL.o.r t ht).2).2;exact Nat.ne_of_lt (Nat.lt_of_lt_of_le h8 hge)) HO2.o HG2.o
      have hob:∀ k,(Value.slice A L.length c).ownBlock=some k->W.heap.size<=k:=fun k hk=>Ownv.ob' HBL1.o.o hk;have hB1:=HB.o.trans (HB'.o.mono HB.o.size);have hB2:=hB1.grown HG2.o hB1.size hob;go_roundw
      case rel=>exact⟨L.length+1,A2,c2,L ++ [⟨A',n',c',Y L.length⟩],by omega,by first | (simp;done) | rfl,by first | (simp;done) | rfl | go_num,by simp,hBL2,by rw [List.map_append,HX.o,List.range_succ,List.map_append];rfl,lt_succ_cases HNB.o HN2.o,hB2⟩
      case measure=>simp [intOf];omega
  . have he:L.length=C:=by omega
    have HF:Hid (L.map (·.xs)=(List.range C).map Y):=aq (by rw [HX.o,he]);have HNC:Hid (∀ q,q<C->¬ bad q):=aq (by rw [<- he];exact HNB.o);clear hBL hxs hnb;go_wp2;go_ret2;exact⟨HB.o,.inr ⟨HNC.o,A,c,L,rfl,HBL.o,HF.o⟩⟩
end Go.Proofs.YthmhogdceolkdaaGreat.Cr
namespace Go.Proofs.YthmhogdceolkdaaGreat.Cr
open Tryz
open Go.RowKit Go.Shelf
def pick(B:List Int)(st N e:Nat):List Int:=(selL B st N (e*N)).take e
theorem selL_big{B:List Int}{st N e:Nat}(hN:N=B.length)(hu:usC B≠0):e<=(selL B st N (e*N)).length:=by
 obtain⟨j,hj,h⟩:=usC_ne.1 hu;exact selL_many (by omega) h e
theorem pick_of{B:List Int}{st N e T:Nat}(hN:N=B.length)(hu:e=0\/usC B≠0)(hT:(selL B st N T).length=e):selL B st N T=pick B st N e:=by
 rcases hu with rfl | hu
 . rw [List.length_eq_zero_iff.1 hT];rfl
 . have h:=selL_take (B:=B) (st:=st) (N:=N) (s:=T) (t:=e*N) (by rw [hT];exact selL_big hN hu)
   rw [hT]at h;exact h
theorem pick_len{B:List Int}{st N e:Nat}(hN:N=B.length)(hu:e=0\/usC B≠0):(pick B st N e).length=e:=by
 unfold pick;rw [List.length_take];rcases hu with rfl | hu
 . exact Nat.zero_min _
 . exact Nat.min_eq_left (selL_big hN hu)
def bfE(b:Nat)(lim:Int)(i:Nat):List Int:=(bufL (sz b i) (fl b i)).take (szB (sz b i) lim)
theorem uS_bfE(b:Nat)(lim:Int)(i:Nat):uS b lim i=usC (bfE b lim i):=rfl
theorem bfE_len{b i:Nat}{lim:Int}(hl:1<=lim):szB (sz b i) lim=(bfE b lim i).length:=by
 have:=szB_bd (sz b i) hl;unfold bfE;rw [List.length_take,show(bufL (sz b i) (fl b i)).length=3*nB (sz b i) from by unfold bufL;exact bufT_len _ _ _];omega
def rowE(b:Nat)(lim:Int)(rv e i:Nat)(xs:List Int):List Int:=(pick (bfE b lim i) (stS (sz b i) (szB (sz b i) lim) rv) (szB (sz b i) lim) e).map fun p=>gi xs p.toNat
def rowX(b:Nat)(lim:Int)(C g m rv:Nat)(xs:List Int)(i:Nat):List Int:=rowE b lim rv (shN C g m i) i (Tu.encW ((bD xs).getD i []))
def badX(b:Nat)(lim:Int)(C g m:Nat):Bool:=(List.range C).any fun q=>decide (uS b lim q=0/\0<shN C g m q)
theorem badX_t{b:Nat}{lim:Int}{C g m:Nat}:badX b lim C g m=true↔∃ q,q<C/\bad49 b lim C g m q:=by
 unfold badX bad49;rw [List.any_eq_true];constructor
 . rintro⟨q,hq,h⟩
   exact⟨q,List.mem_range.1 hq,of_decide_eq_true h⟩
 . rintro⟨q,hq,h⟩
   exact⟨q,List.mem_range.2 hq,decide_eq_true h⟩
def exE(b:Nat)(lim:Int)(C g m:Nat)(xs:List Int):Int:=if bE xs=0 then if badX b lim C g m=true then 10 else 0 else bE xs
def exD(b:Nat)(lim:Int)(C g m rv:Nat)(xs:List Int):List Int:=if exE b lim C g m xs=0 then(List.range C).flatMap (rowX b lim C g m rv xs) else []
theorem cepost_of{xs B:List Int}{st N e:Nat}{W:World}{en:Ending}{w':World}(hN:N=B.length)(h:MtPost xs B st N e W en w') :
 CePost (usC B=0/\0<e) ((pick B st N e).map fun p=>gi xs p.toNat) W en w':=by
 obtain⟨hB,h⟩:=h;refine⟨hB,?_⟩;rcases h with⟨h1,h2,h3⟩ | ⟨h1,A,c,T,h2,h3,h4,h5⟩
 . exact .inl ⟨⟨h2,by omega⟩,h3⟩
 . refine .inr ⟨fun h=>by omega,A,e,c,h3,h4,?_⟩
   rw [pick_of hN h1 h2]at h5;exact h5
theorem shN_le(C g m i:Nat)(hC:1<=C)(hi:i<C):shN C g m i<=m*g:=by
 have h1:=offS_all C g m hC;have h2:=offS_le (C:=C) (g:=g) (m:=m) (show i+1<=C by omega);have h3:offS C g m (i+1)=offS C g m i+shN C g m i:=rfl;omega
theorem flatMap_range_succ(f:Nat->List Int)(j:Nat):(List.range (j+1)).flatMap f=(List.range j).flatMap f ++ f j:=by
 rw [List.range_succ,List.flatMap_append];simp
theorem bE_inv{xs:List Int}(h:bE xs=0):1<=xs.length/\xs.length<=79536/\ValidB xs=true:=by
 unfold bE at h;split at h
 . cases h
 . split at h
   . exact⟨by omega,by omega,by assumption⟩
   . cases h
theorem bD_eq{xs:List Int}(h:bE xs=0)(hy:Byt xs):bD xs=segs (xs.length+24) (List.replicate (fi (xs.length+24)) 0 ++ (xs ++ crcSum 1 xs)) (bC (xs.length+24))/\Bit (xs ++ crcSum 1 xs)/\(xs ++ crcSum 1 xs).length=xs.length+24:=by
 obtain⟨h1,h2,hv⟩:=bE_inv h;have hbit:=bit_of (fun x hx=>(hy x hx).1) hv;have hcl:(crcSum 1 xs).length=24:=by rw [crcSum_len];rfl
 have hcb:Bit (crcSum 1 xs):=bit_sum (by decide) hbit;have hab:=bit_app hbit hcb;have hvb:=validB_of_bit hab;have hal:(xs ++ crcSum 1 xs).length=xs.length+24:=by rw [List.length_append,hcl]
 have hs:sE (xs ++ crcSum 1 xs)=0:=by
  unfold sE;rw [hal,if_neg (by omega),if_pos hvb]
 refine⟨?_,hab,hal⟩;unfold bD;rw [if_pos h];unfold sD;rw [if_pos hs,hal]
theorem bD_len{xs:List Int}(h:bE xs=0)(hy:Byt xs):(bD xs).length=bC (xs.length+24):=by
 rw [(bD_eq h hy).1];simp [segs]
theorem bD_at{xs:List Int}(h:bE xs=0)(hy:Byt xs){j:Nat}{d:List Int}(hd:(bD xs)[j]?=some d):d.length=sz (xs.length+24) j/\Bit d/\Tu.validK (d.length:Int)=true:=by
 obtain⟨h1,h2,h3⟩:=bD_eq h hy
 have hv:=sD_vk (ys:=xs ++ crcSum 1 xs) d (by
  have h5:=List.mem_of_getElem? hd;unfold bD at h5;rw [if_pos h]at h5
  exact h5)
 rw [h1]at hd;have hbt:=segs_bit (bit_app (bit_zeros _) h2) d (List.mem_of_getElem? hd);have hj:j<bC (xs.length+24):=by
  have h4:=(List.getElem?_eq_some_iff.1 hd).1;simpa [segs] using h4
 unfold segs at hd;rw [List.getElem?_map,List.getElem?_range hj]at hd;have hd:=Option.some.inj hd;refine⟨?_,hbt,hv⟩;rw [<- hd];have h8:=off_le (b:=xs.length+24) (show j+1<=bC (xs.length+24) by omega);have h9:off (xs.length+24) (j+1)=off (xs.length+24) j+(sz (xs.length+24) j - ck (xs.length+24)):=rfl;have h10:=off_all (b:=xs.length+24) (by omega);refine segB_len (by omega) _ ?_;rw [List.length_take,List.length_drop,List.length_append,List.length_replicate,h3];omega
theorem encW_len{d:List Int}(hb:Bit d)(hv:Tu.validK (d.length:Int)=true):(Tu.encW d).length=3*(d.length+4):=by
 have hvb:Go.Proofs.YthmhogdceolkdaaGreat.ValidB d=true:=bit_valid hb;have e:Tu.encW d=Tu.wordI (Tu.toB d):=by unfold Tu.encW;rw [if_pos hv,if_pos hvb]
 rw [e,Tu.wordI_len];simp [Tu.toB]
theorem encW_bit{xs:List Int}:Bit (Tu.encW xs):=by
 intro x hx;unfold Tu.encW at hx;split at hx
 . split at hx
   . unfold Tu.wordI at hx
     obtain⟨b,-,rfl⟩:=List.mem_map.1 hx;cases b
     . exact .inl rfl
     . exact .inr rfl
   . simp at hx
 . simp at hx
theorem word_at{xs:List Int}{L:List Sv}(h:bE xs=0)(hy:Byt xs)(hL:L.map (·.xs)=(bD xs).map Tu.encW){j:Nat}{s:Sv}(hj:L[j]?=some s) :
 s.xs=Tu.encW ((bD xs).getD j [])/\s.xs.length=3*(sz (xs.length+24) j+4)/\ValidB s.xs=true/\j<bC (xs.length+24):=by
 have h1:(L.map (·.xs))[j]?=some s.xs:=by rw [List.getElem?_map,hj];rfl
 rw [hL,List.getElem?_map]at h1;obtain⟨d,hd,he⟩:=Option.map_eq_some_iff.1 h1;obtain⟨e1,e2,e3⟩:=bD_at h hy hd;have hj2:=(List.getElem?_eq_some_iff.1 hd).1;refine⟨?_,?_,?_,?_⟩
 . rw [<- he,List.getD_eq_getElem?_getD,hd];rfl
 . rw [<- he,encW_len e2 e3,e1]
 . rw [<- he];exact validB_of_bit encW_bit
 . rw [<- bD_len h hy];exact hj2
theorem flat_tot{L:List Sv}(h:∀ s ∈ L,s.xs.length=s.n):∀ j,tot L j=(flat L j).length
 | 0=>by simp [tot,flat]
 | j+1=>by
   cases hj:L[j]? with
   | none =>
     have h1:L.length<=j:=List.getElem?_eq_none_iff.1 hj;have h2:=flat_tot h j;unfold tot flat at *;rw [List.take_of_length_le (by omega)]at h2 ⊢;exact h2
   | some s=>rw [tot_succ hj,flat_succ hj,List.length_append,flat_tot h j,h s (List.mem_of_getElem? hj)]
theorem flat_map{L:List Sv}{f:Nat->List Int}{C:Nat}(h:L.map (·.xs)=(List.range C).map f):flat L L.length=(List.range C).flatMap f:=by
 unfold flat;rw [List.take_length,List.flatMap_def,List.flatMap_def,h]
theorem rowX_len{b:Nat}{lim:Int}{C g m rv:Nat}{xs:List Int}{i:Nat}(hl:1<=lim)(hi:¬ bad49 b lim C g m i):(rowX b lim C g m rv xs i).length=shN C g m i:=by
 unfold rowX rowE;rw [List.length_map];refine pick_len (bfE_len hl) ?_;unfold bad49 at hi;rw [uS_bfE]at hi;omega
theorem rowsX_len{b:Nat}{lim:Int}{C g m rv:Nat}{xs:List Int}(hl:1<=lim)(h:∀ q,q<C->¬ bad49 b lim C g m q):∀ k,k<=C->((List.range k).flatMap (rowX b lim C g m rv xs)).length=offS C g m k
 | 0,_=>rfl
 | k+1,hk=>by
   rw [flatMap_range_succ,List.length_append,rowsX_len hl h k (by omega),rowX_len hl (h k (by omega))];rfl
theorem ex_err{b:Nat}{lim:Int}{C g m rv:Nat}{xs:List Int}(h:bE xs≠0):exE b lim C g m xs=bE xs/\exD b lim C g m rv xs=[]:=by
 have e:exE b lim C g m xs=bE xs:=by unfold exE;rw [if_neg h]
 exact⟨e,by unfold exD;rw [e,if_neg h]⟩
theorem ex_bad{b:Nat}{lim:Int}{C g m rv:Nat}{xs:List Int}(h:bE xs=0)(hb:∃ q,q<C/\bad49 b lim C g m q):exE b lim C g m xs=10/\exD b lim C g m rv xs=[]:=by
 have e:exE b lim C g m xs=10:=by unfold exE;rw [if_pos h,if_pos (badX_t.2 hb)]
 exact⟨e,by unfold exD;rw [e];rfl⟩
theorem ex_ok{b:Nat}{lim:Int}{C g m rv:Nat}{xs:List Int}(h:bE xs=0)(hb:∀ q,q<C->¬ bad49 b lim C g m q):exE b lim C g m xs=0/\exD b lim C g m rv xs=(List.range C).flatMap (rowX b lim C g m rv xs):=by
 have e:exE b lim C g m xs=0:=by
  unfold exE;rw [if_pos h,if_neg];intro hx;obtain⟨q,h1,h2⟩:=badX_t.1 hx;exact hb q h1 h2
 exact⟨e,by unfold exD;rw [e];rfl⟩
theorem tot_all{b:Nat}{lim:Int}{C g m rv:Nat}{xs:List Int}{L:List Sv}(hl:1<=lim)(hC:1<=C)(hb:∀ q,q<C->¬ bad49 b lim C g m q)(hL:L.map (·.xs)=(List.range C).map (rowX b lim C g m rv xs))(hn:∀ s ∈ L,s.xs.length=s.n) :
 tot L L.length=m*g/\flat L L.length=(List.range C).flatMap (rowX b lim C g m rv xs):=by
 have h1:=flat_map hL;refine⟨?_,h1⟩;rw [flat_tot hn,h1,rowsX_len hl hb C (Nat.le_refl _),offS_all C g m hC]
attribute [local go_sem] Oper.semAt_some
set_option maxRecDepth 100000
set_option maxHeartbeats 2000000
theorem cl28_row{xs:List Int}{L:List Sv}(hE:bE xs=0)(hy:Byt xs)(hL:L.map (·.xs)=(bD xs).map Tu.encW)(C g m:Nat)(hC:C=bC (xs.length+24))(hgm:m*g<=131072)(lim:Int)(hl:1<=lim)(rv:Nat)(hrv:rv<=3)(LB CB EB:Nat)(Ae:Option Addr)(ce:Nat){j:Nat}{s:Sv}(hj:L[j]?=some s)(W:World)
 (hb:Blk W LB 122 (ints8 (LY (xs.length+24)))) (h3:W.cell? ⟨CB,3,none⟩=some (.int .i64 lim)) (h4:W.cell? ⟨CB,4,none⟩=some (.int .i64 (rv:Int))) (h0:W.cell? ⟨EB,0,none⟩=some (.slice Ae C ce)) (he:Rd .i64 W Ae C ce (shT C g m C)) (hx:Rd .u8 W s.A s.n s.c s.xs) :
 Calls prog 212 #[.int .i64 (j:Int),.slice s.A s.n s.c,.pointer (some ⟨LB,0,none⟩),.pointer (some ⟨CB,0,none⟩),.pointer (some ⟨EB,0,none⟩)] W (CePost (bad49 (xs.length+24) lim C g m j) (rowX (xs.length+24) lim C g m rv xs j) W):=by
 obtain⟨e1,e2,e3,e4⟩:=word_at hE hy hL hj;have hn:s.n=3*(sz (xs.length+24) j+4):=by rw [<- hx.len,<- e2]
 have hb1:=bE_inv hE;have hz:=sz_ge (b:=xs.length+24) (i:=j) (by omega);have hC1:1<=C:=by rw [hC];exact bC_pos
 have hsh:=shN_le C g m j hC1 (by omega);have hM:∀ w,Rd .u8 w s.A s.n s.c s.xs->Calls prog 213 #[.slice s.A s.n s.c,.int .i64 (fl (xs.length+24) j:Int),.int .i64 lim,.int .i64 rv,.int .i64 (shN C g m j:Nat)] w (MtPost s.xs (bfE (xs.length+24) lim j) (stS (sz (xs.length+24) j) (szB (sz (xs.length+24) j) lim) rv) (szB (sz (xs.length+24) j) lim) (shN C g m j) w):=fun w hw=>by
  rw [hn]at hw ⊢;exact match_ok s.A s.c s.xs (sz (xs.length+24) j) (fl (xs.length+24) j) rv (shN C g m j) lim w hw e3 (sz_40 _ _) hz.2 (fl_lt (by omega)) hl hrv (by omega)
 have h:=cl28_any LB CB EB (xs.length+24) j (shN C g m j) rv 0 lim s.A Ae s.n s.c C ce s.xs (bfE (xs.length+24) lim j) (stS (sz (xs.length+24) j) (szB (sz (xs.length+24) j) lim) rv) (szB (sz (xs.length+24) j) lim) W ⟨hb,h3,h4,h0,⟨_,he,by rw [shT_gi _ _ _ _ _ (by omega),shr_cast]⟩,hx,by omega⟩ hM;refine h.mono fun en w' hp=>?_;have hc:=cepost_of (bfE_len hl) hp;rw [e1]at hc;exact hc
def ExPost(b:Nat)(lim:Int)(C g m rv:Nat)(xs:List Int)(w:World)(en:Ending)(w':World):Prop :=
 ∃ A n c,en= .returned (.tuple #[.slice A n c,.int .i64 (exE b lim C g m xs)])/\Own .u8 5 w' w.heap.size A n c (exD b lim C g m rv xs)/\Below w.heap.size w w'
theorem enc_ok(s C g m rv:Nat)(lm:Int)(A:Option Addr)(n c:Nat)(xs:List Int)(w:World)(hs1:1<=s)(hs2:s<=79536)(hCe:C=bC (s+24))(hmm:m=2\/m=4\/m=6)(hgm:m*g<=131072)(hlm:1<=lm)(hrv:rv<=3)
 (hn:n=s) (hx:Rd .u8 w A n c xs) (hy:Byt xs) :
 Calls prog 148 #[.agg #[.int .i64 s,.int .i64 ((m*g:Nat):Int),.int .i64 m,.int .i64 lm,.int .i64 (rv:Int)],.slice A n c] w (ExPost (s+24) lm C g m rv xs w):=by
 subst hn;have hxl:xs.length=n:=hx.len;have HS:=aq (fun W=>shares_ok n C g m lm rv W hs1 hs2 hCe hmm hgm hlm (by omega));have HW:=aq (fun W h=>words_any A n c xs W h hy hs2);unfold WdAll at HW;have HLY:=aq (fun W=>lay_any n W);have hly:ly15 n=(LY (n+24),0):=by unfold ly15;rw [if_neg (by omega)];rfl
 rw [hly]at HLY;clear hly;have hC1:1<=C:=by rw [hCe];exact bC_pos
 have hC2:C<=13:=by rw [hCe];exact bC_le (by omega)
 have HCL:=aq (fun(hE:bE xs=0) (L:List Sv) (hL:L.map (·.xs)=(bD xs).map Tu.encW)=>@cl28_row xs L hE hy hL C g m (by rw [hxl];exact hCe) hgm lm hlm rv hrv);rw [hxl]at HCL;have HGM:=aq hgm;obtain⟨bt,hbt⟩:∃ bt,bt=((m*g:Nat):Int):=⟨_,rfl⟩
 rw [<- hbt]at HS ⊢;have q:((n:Int) != (n:Int))=false:=bne_f rfl;have HC0:=aq (Blk.new w [.int .i64 n,.int .i64 bt,.int .i64 m,.int .i64 lm,.int .i64 (rv:Int)] 36 rfl);have HB0:=aq (bal (Below.refl _ w) (.cells [Value.int .i64 n,.int .i64 bt,.int .i64 m,.int .i64 lm,.int .i64 (rv:Int)].toArray 36));have HX0:=aq (hx.alloc (.cells [Value.int .i64 n,.int .i64 bt,.int .i64 m,.int .i64 lm,.int .i64 (rv:Int)].toArray 36));have hc0:=HC0.o;by_cases hE:bE xs=0
 . rw [hE]at HW
   have HE:=aq hE;have HDL:=aq (show(bD xs).length=C by rw [bD_len hE hy,hxl,<- hCe]);clear hbt hCe hmm hgm hE hy hx;go_enter func148,ntmps148
   go_wp2_with (first
    | (refine ldrow (cs:=[.int .i64 n,.int .i64 bt,.int .i64 m,.int .i64 lm,.int .i64 (rv:Int)]) rfl 36 (.tmp 2) rfl rfl hc0 _ underlying36 rfl (by kernel_rfl) ?_)
    | (go_at_call 56;refine(HS.o _).mono ?_;rintro e w1 ⟨A1,c1,rfl,hO1,hB1⟩
       have HC1:=aq ((HC0.o.below hB1).alloc (.cells #[.slice A1 C c1] 51));have k0:=HC1.o.cell (j:=0) (v:=.int .i64 n) rfl;have HE1:Hid (Blk (w1.alloc (.cells #[.slice A1 C c1] 51)) w1.heap.size 51 [.slice A1 C c1]):=aq (Blk.new w1 _ 51 rfl);have HN1:=aq ((Own.rd hO1).alloc (.cells #[.slice A1 C c1] 51));have HX1:=aq ((Rdv.below HX0.o hB1).alloc (.cells #[.slice A1 C c1] 51));have HB1:=aq (bal (HB0.o.trans (hB1.mono HB0.o.size)) (.cells #[.slice A1 C c1] 51))
       clear hO1 hB1)
    | (go_at_call 210;refine(HW.o _ HX1.o).mono ?_;rintro e w2 ⟨A2,n2,c2,L2,rfl,hn2,hBL2,hxs2,hB2⟩
       have HL2:=aq (show RL w2 A2 n2 c2 L2 by rw [hn2];exact hBL2.rl);have HX2:=aq hxs2;have HC2:=aq (HC1.o.below hB2);have k1:=HC2.o.cell (j:=0) (v:=.int .i64 n) rfl;have HE2:=aq (HE1.o.below hB2);have HN2:=aq (Rdv.below HN1.o hB2);have HB2:=aq (HB1.o.trans (hB2.mono HB1.o.size))
       clear hn2 hBL2 hxs2 hB2 k0 HC1 HE1 HN1 HX1 HB1)
    | (go_at_call 63;refine(HLY.o _).mono ?_;rintro e w3 ⟨rfl,hB3⟩;have hL0:Blk (w3.alloc (.cells (ints8 zero7).toArray 122)) w3.heap.size 122 (ints8 zero7):=Blk.new w3 _ 122 rfl;have HBw3:=aq hB3;clear hB3;simp only [ints8,zero7,List.map_cons,List.map_nil]at hL0)
    | (refine strow (cs:=ints8 (LY (n+24))) rfl 122 (.tmp 9) (.tmp 38) rfl rfl rfl hL0 (by simp [ints8,LY]) (by rw [info23];simp [ints8,LY]) (ints8_one _) ?_
       intro W4 g1 g2;have hq:=(Below.refl w3.heap.size w3).alloc (Nat.le_refl _) (.cells #[.int .i64 0,.int .i64 0,.int .i64 0,.int .i64 0,.int .i64 0,.int .i64 0,.int .i64 0] 122);have HB3:=aq (HBw3.o.trans ((hq.grown g2 hq.size (fun k hk=>by cases hk;exact Nat.le_refl _)).mono HBw3.o.size));have HLB:=aq g1
       clear g1 g2 hq hL0))
   have HC4:=aq (HC2.o.below HB3.o);have HE4:=aq (HE2.o.below HB3.o);have HN4:=aq (Rdv.below HN2.o HB3.o);have HL4:=aq (HL2.o.below HB3.o);have HB4:=aq (HB2.o.trans (HB3.o.mono HB2.o.size));have hl2:L2.length=n2:=HL4.o.len;have hl3:L2.length=C:=by
    have:=congrArg List.length HX2.o;rw [List.length_map,List.length_map,HDL.o]at this;exact this
   obtain rfl:n2=C:=by omega
   refine(each20e_any A2 n2 c2 L2 (.pointer (some ⟨w3.heap.size,0,none⟩)) (.pointer (some ⟨w.heap.size,0,none⟩)) (.pointer (some ⟨w1.heap.size,0,none⟩)) (bad49 (n+24) lm n2 g m) (rowX (n+24) lm n2 g m rv xs) W4 HL4.o (by omega) (fun j s wr hj hB=>HCL.o HE.o L2 HX2.o w3.heap.size w.heap.size w1.heap.size A1 c1 hj wr (HLB.o.below hB) ((HC4.o.below hB).cell (j:=3) rfl) ((HC4.o.below hB).cell (j:=4) rfl) ((HE4.o.below hB).cell (j:=0) rfl) (Rdv.below HN4.o hB) ((HL4.o.below hB).r s (List.mem_of_getElem? hj)))).mono ?_;clear hl2 hl3;rintro e w5 ⟨hB5,⟨hbad,rfl⟩ | ⟨hok,A5,c5,L5,rfl,hBL5,hxs5⟩⟩
   . have HB5:=aq (HB4.o.trans (hB5.mono HB4.o.size))
     have HEX:=aq (ex_bad (b:=n+24) (lim:=lm) (g:=g) (m:=m) (rv:=rv) HE.o hbad);clear hbad hB5;go_wp2_with fail;refine(concat_any none 0 0 [] w5 (BL.nil w5 0).rd (by simp) (by simp [tot])).mono ?_;rintro e w6 ⟨A6,c6,rfl,hO6,hB6⟩;have HO6:=aq (Ownv.mono hO6 (show w.heap.size<=w5.heap.size from HB5.o.size));have HB6:=aq (HB5.o.trans (hB6.mono HB5.o.size));clear hO6 hB6;go_wp2;go_ret2;exact⟨A6,tot [] 0,c6,by rw [HEX.o.1];rfl,by rw [HEX.o.2];exact HO6.o,HB6.o⟩
   . have HB5:=aq (HB4.o.trans (hB5.mono HB4.o.size))
     have HEX:=aq (ex_ok (b:=n+24) (lim:=lm) (g:=g) (m:=m) (rv:=rv) HE.o hok);have htt:=tot_all hlm hC1 hok hxs5 (fun s hs=>Rd.len (Own.rd (hBL5.r s hs).1));have HTT:=aq htt;have HBL5:=aq hBL5;have htl:tot L5 L5.length<=1000000:=by rw [htt.1];have:=HGM.o;omega
     clear hok hB5 hxs5 hBL5 htt;go_wp2_with fail;refine(concat_any A5 L5.length c5 L5 w5 HBL5.o.rd (fun s hs=>Own.rd (HBL5.o.r s hs).1) htl).mono ?_;rintro e w6 ⟨A6,c6,rfl,hO6,hB6⟩;have HO6:=aq (Ownv.mono hO6 (show w.heap.size<=w5.heap.size from HB5.o.size));have HB6:=aq (HB5.o.trans (hB6.mono HB5.o.size));clear hO6 hB6;generalize tot L5 L5.length=T at *;go_wp2;go_ret2;exact⟨A6,T,c6,by rw [HEX.o.1];rfl,by rw [HEX.o.2,<- HTT.o.2];exact HO6.o,HB6.o⟩
 . have HE:=aq (ex_err (b:=n+24) (lim:=lm) (C:=C) (g:=g) (m:=m) (rv:=rv) hE)
   have hq:=bne_t hE;generalize bE xs=E at *;clear hE hbt hCe hmm hgm hy hx HCL HLY hC1 hC2 hlm hrv hs1 HGM;go_enter func148,ntmps148
   go_wp2_with (first
    | (refine ldrow (cs:=[.int .i64 n,.int .i64 bt,.int .i64 m,.int .i64 lm,.int .i64 (rv:Int)]) rfl 36 (.tmp 2) rfl rfl hc0 _ underlying36 rfl (by kernel_rfl) ?_)
    | (go_at_call 56;refine(HS.o _).mono ?_;rintro e w1 ⟨A1,c1,rfl,hO1,hB1⟩
       have k0:=((HC0.o.below hB1).alloc (.cells #[.slice A1 C c1] 51)).cell (j:=0) (v:=.int .i64 n) rfl;have HX1:=aq ((Rdv.below HX0.o hB1).alloc (.cells #[.slice A1 C c1] 51));have HB1:=aq (bal (HB0.o.trans (hB1.mono HB0.o.size)) (.cells #[.slice A1 C c1] 51))
       clear hO1 hB1)
    | (go_at_call 210;refine(HW.o _ HX1.o).mono ?_;rintro e w2 ⟨A2,n2,c2,L2,rfl,hn2,hBL2,hxs2,hB2⟩
       have HB2:=aq (HB1.o.trans (hB2.mono HB1.o.size))
       clear hn2 hBL2 hxs2 hB2 k0 HX1 HB1))
   go_ret2;exact⟨none,0,0,by rw [HE.o.1];rfl,by rw [HE.o.2];exact Own.nilv _ _ _ _,HB2.o⟩
end Go.Proofs.YthmhogdceolkdaaGreat.Cr