/- Bundle. Conditions: none. -/
import Derived.Test.YthmhogdceolkdaaGreatBqbf
import Derived.Test.YthmhogdceolkdaaGreatBqbu
import Derived.Test.YthmhogdceolkdaaGreatBqbb
import Derived.Test.YthmhogdceolkdaaGreatBqbt
import Derived.Test.YthmhogdceolkdaaGreatBqbr
import Derived.Test.YthmhogdceolkdaaGreatBqbq
import Derived.Test.YthmhogdceolkdaaGreatBqbk
set_option linter.unusedVariables false
set_option linter.unusedSimpArgs false
namespace Go.Proofs.YthmhogdceolkdaaGreat
open Tryz
open Go.RowKit
def b1(s lm:Int):List Int:=(Cr.bufL (Cr.lo (s.toNat+24)) (Cr.fi (s.toNat+24))).take (Cr.szB (Cr.lo (s.toNat+24)) lm)
def kS(s:Int):Nat:=Cr.lo (s.toNat+24)
def fS(s:Int):Nat:=Cr.fi (s.toNat+24)
def slP(s l:Int)(rv n:Nat):List Int:=Cr.pick (b1 s l) (Cr.stS (kS s) (Cr.szB (kS s) l) rv) (Cr.szB (kS s) l) n
def tE1(sz:Int)(x:List Int):Int:=Cr.tE sz [⟨none,x.length,0,x⟩]
def tR1(sz:Int)(x:List Int):List Int:=Cr.tR sz [⟨none,x.length,0,x⟩]
theorem one_lay{b:Nat}(h1:1<=b)(h:b<=6144):Cr.shs b=0/\Cr.sh b=0/\Cr.bC b=1/\b+Cr.fi b=Cr.lo b/\40<=Cr.lo b/\Cr.lo b<=6144/\Cr.fi b<Cr.lo b:=by
 have e1:Cr.shs b=0:=by unfold Cr.shs;rw [if_pos h]
 have e2:Cr.sh b=0:=by unfold Cr.sh;rw [if_pos h]
 have e3:=Cr.bC_one h;have e4:=Cr.fi_eq h1;have e5:Cr.tl b=b:=by unfold Cr.tl Cr.ck;rw [if_pos h];omega
 unfold Cr.los at e4;rw [e1,e3,e5]at e4;have e6:=@Cr.lo_le b;have e7:40<=Cr.lo b:=Cr.SZ_lo _;refine⟨e1,e2,e3,by omega,e7,e6,by omega⟩
theorem sz_one{b:Nat}(h1:1<=b)(h:b<=6144):Cr.sz b 0=Cr.lo b/\Cr.fl b 0=Cr.fi b:=by
 obtain⟨e1,-⟩:=one_lay h1 h;refine⟨?_,rfl⟩;unfold Cr.sz;rw [e1];rfl
theorem lo_small{b:Nat}(h1:1<=b)(h:b<=496):∃ u,Cr.lo b=40+8*u/\u<=57:=by
 unfold Cr.lo;rw [Cr.av_one (by omega)];by_cases h2:b<=40
 . refine⟨0,?_,by omega⟩
   have e:Cr.ix b=0:=by unfold Cr.ix;rw [if_pos h2]
   unfold Cr.nx;rw [e];rfl
 . have e:Cr.ix b=(b - 33) / 8:=by unfold Cr.ix;rw [if_neg h2,if_pos (by omega)]
   refine⟨(b - 33) / 8,?_,by omega⟩;unfold Cr.nx Cr.SZ;rw [e,if_pos (by omega)]
theorem b1_len{s l:Int}(hl:1<=l):Cr.szB (kS s) l=(b1 s l).length:=by
 have hzb:=Cr.szB_bd (kS s) hl;unfold b1;rw [List.length_take,show(Cr.bufL (Cr.lo (s.toNat+24)) (Cr.fi (s.toNat+24))).length=3*Cr.nB (kS s) from by unfold Cr.bufL;exact Cr.bufT_len _ _ _];unfold kS at hzb ⊢;omega
theorem gi_ibs(l:List Bool)(q:Nat)(h:q<l.length):gi (l.map ib) q=(bq (Tu.gB l q):Int):=by
 unfold gi Tu.gB;rw [List.getD_eq_getElem?_getD,List.getD_eq_getElem?_getD,List.getElem?_map,List.getElem?_eq_getElem h];show ib l[q]=(bq l[q]:Int)
 cases l[q]<;>rfl
theorem wr_ok{ys:List Int}{K most:Int}{k r:Nat}(hk:k=Tu.szK r)(hl:ys.length=3*(k+4))(hs:∀ q,q<3*(k+4)->-127<=gi ys q/\gi ys q<=127)(hK:0<=K/\K<=4)(hm:1<=most/\most<=64):wrE ys K most=0/\kOf ys=k:=by
 have hko:kOf ys=k:=by unfold kOf;omega
 refine⟨?_,hko⟩;have hsb:SoftB ys=true:=all_gi.2 fun j hj=>by simpa using hs j (by omega)
 have hv:Tu.validK ((ys.length:Int) / 3 - 4)=true:=by
  rw [show (ys.length:Int) / 3 - 4=((k:Nat):Int) by omega,hk];exact Tu.szK_valid r
 unfold wrE;rw [if_neg ?_,if_pos hsb];rintro(q | q | q | q | q | q)
 . omega
 . rw [hv]at q;cases q
 all_goals omega
def RtS(vs W:List Int)(N:Nat):Prop:=∀ q,q<N->(gi W q=0\/gi W q=1)/\0<=gi vs q*(1 - 2*gi W q)/\-127<=gi vs q/\gi vs q<=127
theorem add_rt{a m b:Int}(hb:b=0\/b=1)(ha:0<=a*(1 - 2*b)/\-127<=a/\a<=127)(hm:1<=m/\m<=127):0<=addI a (idI m b)*(1 - 2*b)/\-127<=addI a (idI m b)/\addI a (idI m b)<=127:=by
 refine⟨?_,clI_bd _⟩;unfold addI;rcases hb with rfl | rfl
 . rw [show idI m 0=m by unfold idI;omega,clI_in ha.2,clI_in (show -127<=m/\m<=127 by omega)]
   unfold clI;split<;>(try split)<;>omega
 . rw [show idI m 1 = -m by unfold idI;omega,clI_in ha.2,clI_in (show -127<=-m/\-m<=127 by omega)]
   unfold clI;split<;>(try split)<;>omega
theorem cmb_rt{ps l vs W:List Int}{N m:Nat}{mg:Int}(hl:vs.length=N)(hv:RtS vs W N)(hm:1<=mg/\mg<=127)(hp:∀ j,j<m->∃ p:Nat,gi ps j=(p:Int)/\p<N)(hx:∀ j,j<m->gi l j=idI mg (gi W (gi ps j).toNat)):∀ j,j<=m->RtS (cmbL ps l vs j) W N
 | 0,_=>hv
 | j+1,h=>by
   have ih:=cmb_rt hl hv hm hp hx j (by omega);obtain⟨p,e,hpn⟩:=hp j (by omega);have h2:=hx j (by omega);rw [e,Int.toNat_natCast]at h2;intro q hq;have hE:gi (cmbL ps l vs (j+1)) q=if p=q then addI (gi (cmbL ps l vs j) p) (idI mg (gi W p)) else gi (cmbL ps l vs j) q:=by
    show gi (List.set _ _ _) q=_;rw [e,Int.toNat_natCast,h2,gi_set' _ _ _ _ (by rw [cmbL_len,hl];exact hq)]
   rw [hE];split
   . rename_i hpq
     subst hpq;exact⟨(ih p hpn).1,add_rt (ih p hpn).1 (ih p hpn).2 hm⟩
   . exact ih q hq
theorem rts_fresh{W:List Int}{k:Nat}(hw:∀ x ∈ W,x=0\/x=1)(hl:W.length=3*(k+4)):RtS (frL k 0) W (3*(k+4)):=fun q hq=>by
 have h0:gi (frL k 0) q=0:=by
  unfold frL;rw [gi_range _ hq];unfold frI;rw [if_neg (by omega)]
 rw [h0];exact⟨hw _ (by rw [gi_eq W q (by omega)];exact List.getElem_mem _),by omega⟩
theorem sgn_of{vs:List Int}{x:List Bool}{k:Nat}(hx:x.length=k)(hv:RtS vs ((Tu.wrd x).map ib) (3*(k+4)))(hu:∀ q,q<3*(k+4)->gi vs q≠0):Sgn vs k x (fun q=>gi vs q*(1 - 2*(bq (Tu.gB (Tu.wrd x) q):Int))):=fun q hq=>by
 obtain⟨h1,h2,h3⟩:=hv q hq;have h4:=hu q hq;rw [gi_ibs _ _ (by rw [Tu.wrd_len,hx];exact hq)]at h1 h2;dsimp only;generalize (bq (Tu.gB (Tu.wrd x) q):Int)=b at *;rcases h1 with rfl | rfl
 . refine⟨by omega,by omega,by omega⟩
 . refine⟨by omega,by omega,by omega⟩
theorem comb_1{vs:List Int}{x:List Bool}{k r m:Nat}(hk:k=Tu.szK r)(hx:x.length=k)(hl:vs.length=3*(k+4))(hv:RtS vs ((Tu.wrd x).map ib) (3*(k+4)))(hu:∀ q,q<3*(k+4)->gi vs q≠0)(hm:1<=m/\m<=64)(hc:Cr.chkErr 1 (x.map ib)=0):FstK vs (m:Int) (x.map ib):=by
 have hS:=sgn_of hx hv hu;obtain⟨hE,hko⟩:=wr_ok (K:=1) (most:=(m:Int)) hk hl (fun q hq=>(hv q hq).2.2) (by omega) (by omega);obtain⟨d0,-⟩:=clean_two hk hx hS;exact⟨hE,by rw [hko];exact d0,hc⟩
theorem add_nz{a m b:Int}(hb:b=0\/b=1)(ha:0<=a*(1 - 2*b)/\-127<=a/\a<=127)(hm:1<=m/\m<=127):addI a (idI m b)≠0:=by
 unfold addI;rcases hb with rfl | rfl
 . rw [show idI m 0=m by unfold idI;omega,clI_in ha.2,clI_in (show -127<=m/\m<=127 by omega)]
   unfold clI;split<;>(try split)<;>omega
 . rw [show idI m 1 = -m by unfold idI;omega,clI_in ha.2,clI_in (show -127<=-m/\-m<=127 by omega)]
   unfold clI;split<;>(try split)<;>omega
theorem cmb_nz{ps l vs W:List Int}{N m:Nat}{mg:Int}(hl:vs.length=N)(hv:RtS vs W N)(hm:1<=mg/\mg<=127)(hp:∀ j,j<m->∃ p:Nat,gi ps j=(p:Int)/\p<N)(hx:∀ j,j<m->gi l j=idI mg (gi W (gi ps j).toNat)):∀ j,j<=m->∀ q,q<N->(gi vs q≠0\/∃ i,i<j/\gi ps i=(q:Int))->gi (cmbL ps l vs j) q≠0
 | 0,_,q,_,h=>by
   rcases h with h | ⟨i,hi,_⟩
   . exact h
   . omega
 | j+1,h,q,hq,hor=>by
   have ih:=cmb_nz hl hv hm hp hx j (by omega) q hq;have hr:=cmb_rt hl hv hm hp hx j (by omega);obtain⟨p,e,hpn⟩:=hp j (by omega);have h2:=hx j (by omega);rw [e,Int.toNat_natCast]at h2;have hE:gi (cmbL ps l vs (j+1)) q=if p=q then addI (gi (cmbL ps l vs j) p) (idI mg (gi W p)) else gi (cmbL ps l vs j) q:=by
    show gi (List.set _ _ _) q=_;rw [e,Int.toNat_natCast,h2,gi_set' _ _ _ _ (by rw [cmbL_len,hl];exact hq)]
   rw [hE];split
   . exact add_nz (hr p hpn).1 (hr p hpn).2 hm
   . rename_i hne
     refine ih ?_;rcases hor with h0 | ⟨i,hi,hie⟩
     . exact .inl h0
     . by_cases hij:i=j
       . subst hij
         rw [e]at hie;omega
       . exact .inr ⟨i,by omega,hie⟩
theorem slP_pos{s l:Int}{rv n:Nat}(hl:1<=l)(j:Nat)(hj:j<(slP s l rv n).length):∃ p:Nat,gi (slP s l rv n) j=(p:Int)/\p<3*(kS s+4):=by
 have hm:=gi_mem _ j hj;unfold slP Cr.pick at hm;have h1:=List.mem_of_mem_take hm;obtain⟨h2,h3⟩:=Cr.selL_mem (Cr.szB_bd (kS s) hl).1 (Nat.le_of_eq (b1_len hl)) _ _ h1;have h4:=Cr.bufL_bd (kS s) (fS s) (Cr.szB (kS s) l) _ h3;exact⟨(gi (slP s l rv n) j).toNat,by unfold slP Cr.pick;omega,by unfold slP Cr.pick;omega⟩
def xs16:List Int:=[1,0,1,1,0,0,1,0,1,1,1,0,0,0,1,0]
def x40:List Int:=[1,0,1,1,0,0,1,0,1,1,1,0,0,0,1,0,0,1,1,1,0,0,0,1,0,0,0,1,0,1,0,1,0,0,1,0,0,0,0,0]
theorem k16:kS 16=40/\fS 16=0/\Cr.szB 40 100000=192/\Cr.stS 40 192 0=4:=by decide +kernel
theorem bd16:Cr.bD xs16=[x40]:=by decide +kernel
theorem ex16:Cr.exE 40 100000 1 150 2 xs16=0:=by decide +kernel
theorem us16:Cr.usC (b1 16 100000)≠0:=by decide +kernel
theorem ck16:Cr.chkErr 1 x40=0:=by decide +kernel
theorem te16:tE1 16 x40=0/\tR1 16 x40=xs16:=by decide +kernel
theorem sn16:Cr.shN 1 150 2 0=300:=by decide +kernel
theorem sel16:(Cr.selL (b1 16 100000) 4 192 436).length=300/\((List.range 132).all fun q=>(Cr.selL (b1 16 100000) 4 192 436).contains (q:Int))=true:=by decide +kernel
theorem slP16:slP 16 100000 0 300=Cr.selL (b1 16 100000) 4 192 436:=by
 obtain⟨e1,e2,e3,e4⟩:=k16;unfold slP;rw [e1,e3,e4];exact(Cr.pick_of (by rw [<- b1_len (by omega),e1,e3]) (.inr us16) sel16.1).symm
theorem cov16:(slP 16 100000 0 300).length=300/\∀ q:Nat,q<132->∃ i,i<300/\gi (slP 16 100000 0 300) i=(q:Int):=by
 rw [slP16];refine⟨sel16.1,fun q hq=>?_⟩;have h1:=List.all_eq_true.1 sel16.2 q (List.mem_range.2 hq);have h2:(q:Int) ∈ Cr.selL (b1 16 100000) 4 192 436:=by simpa using h1
 obtain⟨i,hi,he⟩:=List.getElem_of_mem h2;exact⟨i,by rw [<- sel16.1];exact hi,by rw [gi_eq _ i hi];exact he⟩
def x40b:List Bool:=Tu.toB x40
theorem x40_ib:x40b.map ib=x40:=by decide +kernel
theorem enc16:Tu.encW x40=(Tu.wrd x40b).map ib:=by
 unfold Tu.encW;rw [if_pos (by decide +kernel),if_pos (by decide +kernel)];rfl
theorem exD16:Cr.exD 40 100000 1 150 2 0 xs16=(slP 16 100000 0 300).map fun p=>gi ((Tu.wrd x40b).map ib) p.toNat:=by
 obtain⟨z1,z2⟩:=sz_one (b:=40) (by omega) (by omega);unfold Cr.exD;rw [if_pos ex16,show List.range 1=[0] from rfl,List.flatMap_cons,List.flatMap_nil,List.append_nil];unfold Cr.rowX Cr.rowE Cr.bfE;rw [bd16,sn16,z1,z2];show(Cr.pick _ _ _ 300).map (fun p=>gi (Tu.encW x40) p.toNat)=_;rw [enc16];rfl
theorem exD16_len:(Cr.exD 40 100000 1 150 2 0 xs16).length=300:=by rw [exD16,List.length_map];exact cov16.1
theorem exD16_bit:∀ y ∈ Cr.exD 40 100000 1 150 2 0 xs16,y=0\/y=1:=fun y hy=>by
 rw [exD16]at hy;obtain⟨p,-,rfl⟩:=List.mem_map.1 hy;by_cases h:p.toNat<((Tu.wrd x40b).map ib).length
 . rw [gi_eq _ _ h]
   have h2:=List.getElem_mem h;obtain⟨b,-,hb⟩:=List.mem_map.1 h2;rw [<- hb];cases b
   . exact .inl rfl
   . exact .inr rfl
 . left
   unfold gi;rw [List.getD_eq_getElem?_getD,List.getElem?_eq_none (by omega)];rfl
end Go.Proofs.YthmhogdceolkdaaGreat
namespace Go.Proofs.YthmhogdceolkdaaGreat.Cr
open Tryz
open Go.RowKit Go.Shelf
theorem splitP(s m g:Nat)(lm rv:Int)(A:Option Addr)(n c:Nat)(ys:List Int)(w:World)(hy:Rd .i64 w A n c ys)(hs1:1<=s)(hs2:s<=472)(hmm:m=2\/m=4\/m=6)(hgm:m*g<=131072)(hlm:1<=lm)(hrv:0<=rv/\rv<=3)(hn:n=m*g)(hus:usC (b1 (s:Int) lm)≠0) :
 Calls prog 61 #[.agg #[.int .i64 (s:Int),.int .i64 (n:Int),.int .i64 (m:Int),.int .i64 lm,.int .i64 rv],.slice A n c] w fun e w'=>∃ Ap cp Ax cx,e= .returned (.tuple #[.slice Ap 1 cp,.int .i64 0])/\Rdv w' Ap 1 cp [.slice Ax n cx]/\Rd .i64 w' Ax n cx ys/\(Ax≠none->w.heap.size<=blk Ax/\blk Ax<w'.heap.size)/\Below w.heap.size w w':=by
 have hC:(1:Nat)=bC (s+24):=(bC_one (by omega)).symm;have hsplit:=tsplit_ok s 1 g m lm rv A n c ys w (by omega) (by omega) hC hmm hgm hlm hrv hn hy;rw [<- hn]at hsplit;refine hsplit.mono ?_;rintro e w' ⟨hB,h⟩;have hsh:shN 1 g m 0=n:=by
  unfold shN;rw [if_pos (by omega),Nat.div_one,hn,Nat.mul_comm]
 obtain⟨z1,z2⟩:=sz_one (b:=s+24) (by omega) (by omega);have hno:¬ bad49 (s+24) lm 1 g m 0:=by
  unfold bad49 uS;rw [hsh,z1,z2];intro h;exact hus h.1
 rcases h with⟨⟨q,hq,hb⟩,rfl⟩ | ⟨hno2,A',c',L,rfl,hBI,hL⟩
 . obtain rfl:q=0:=by omega
   exact absurd hb hno
 . have hl1:L.length=1:=by
    have:=congrArg List.length hL;simpa [prtS] using this
   obtain⟨sv,rfl⟩:=List.length_eq_one_iff.1 hl1
   have hys:sv.xs=ys:=by
    have hyl:=Rd.len hy;simp [prtS,offS,hsh]at hL;rw [hL,<- hyl,List.take_length]
   have hO:=hBI.r sv (by simp)
   have hnn:sv.n=n:=by rw [<- Rd.len (Own.rd hO),hys];exact Rd.len hy
   refine⟨A',c',sv.A,sv.c,rfl,?_,?_,fun hA=>Ownv.blk_of hO hA,hB⟩
   . have:=hBI.o.rd
     simpa [Sv.v,hnn] using this
   . have:=Own.rd hO
     rw [hys,hnn]at this;exact this
theorem partsX(s m g:Nat)(lm rv:Int)(N:Nat)(hs1:1<=s)(hs2:s<=472)(hN:N=lo (s+24))(hmm:m=2\/m=4\/m=6)(hgm:m*g<=131072)(hlm:1<=lm)(hrv:0<=rv/\rv<=3)(W:World)(EB TB:Nat)(h1:Blk W EB 30 [.int .i64 0])(h2:Blk W TB 36 (c5 (s:Int) ((m*g:Nat):Int) (m:Int) lm rv)) :
 SeqX (0+2) 1 55 #[.pointer (some ⟨EB,0,none⟩),.pointer (some ⟨TB,0,none⟩)] encP (KpP (W.heap.size+2) EB TB [.int .i64 (s:Int),.int .i64 ((m*g:Nat):Int),.int .i64 (m:Int),.int .i64 lm,.int .i64 rv]) (fun ys=>ys=[((N:Int),((m*g:Nat):Int))]) (fun _=>True) (fun pre x _=>pre.length=0/\x=((N:Int),((m*g:Nat):Int))) W:=by
 have hC:(1:Nat)=bC (s+24):=(bC_one (by omega)).symm;have hnE:nE ((s+24:Nat):Int)=1:=by unfold nE;rw [if_neg (by omega),Int.toNat_natCast,<- hC]
 obtain⟨z1,z2⟩:=sz_one (b:=s+24) (by omega) (by omega);have hsz:(sz ((s+24:Nat):Int).toNat 0:Int)=(N:Int):=by rw [Int.toNat_natCast,z1,hN]
 have hsh:gi (shT 1 g m 1) 0=((m*g:Nat):Int):=by
  rw [shT_gi _ _ _ _ _ (by omega)];unfold shr;rw [if_pos (by omega),Nat.div_one,Nat.mul_comm]
 have hps:psP ((s+24:Nat):Int) (shT 1 g m 1)=[((N:Int),((m*g:Nat):Int))]:=by
  unfold psP;rw [hnE];show [(_,_)]=_;rw [hsz,hsh]
 have hP:=parts_in (0+2) 1 1 (s:Int) ((m*g:Nat):Int) (m:Int) lm rv ((s+24:Nat):Int) (shT 1 g m 1) EB TB W hnE (by rw [IntWalk.wrap64_in _ (by omega)];push_cast;rfl) (fun W9=>shares_ok s 1 g m lm rv W9 (by omega) (by omega) hC hmm hgm hlm hrv) h1 h2;rw [hps]at hP;intro l J Jx W' hB hsz' hJ hJx hJp hJxp hY h0;refine hP l J Jx W' hB hsz' hJ hJx hJp hJxp (fun pre x W1 hj hok=>hY pre x W1 hj ?_) h0;obtain⟨g1,g2,g3⟩:=hok;rw [hnE]at g1;have g0:pre.length=0:=by omega
 rw [g0,hsz,hsh]at g3;exact⟨g0,g3⟩
theorem transK(B c k lm hv u p f b m s rv rm:Int)(nw:Bool)(hT:okT B c k lm hv u p f b m s rv=true)(hrm:rm=m*((dtL B c k f b).length:Int))(W:World):Calls prog 13 #[.agg #[.int .i64 B,.int .i64 c,.int .i64 k,.int .i64 lm,.int .i64 hv],.agg #[.int .i64 u,.int .i64 p,.int .i64 f,.int .i64 b,.int .i64 m,.int .i64 s,.int .i64 rv,.bool nw]] W fun e w'=>e= .returned (.tuple #[.agg #[.int .i64 s,.int .i64 rm,.int .i64 m,.int .i64 lm,.int .i64 rv],.int .i64 0])/\Below W.heap.size W w':=by
 obtain⟨hC1,hM1,hD1,hu,hp,hs,hrv,hlm,hhv⟩:=okT_iff hT;obtain⟨-,hf1,hb1,hfb,hB6,hc3,hk⟩:=okD_iff hD1;have:=trans_any B c k lm hv u p f b m s rv nw W (by omega);rw [hT,if_pos rfl,if_pos rfl,<- hrm]at this;exact this
theorem decode_one(B c k lm hv u p f b rv:Int)(s mm:Nat)(nw:Bool)(S:Option Addr)(n cs:Nat)(ys x out:List Int)(w:World)(hT:okT B c k lm hv u p f b (mm:Int) (s:Int) rv=true)(hs2:s<=472)(hn:n=mm*(dtL B c k f b).length)
 (hS:Rd .i64 w S n cs ys) (hSl:S≠none->blk S<w.heap.size) (hsv:∀ j,j<n->-127<=gi ys j/\gi ys j<=127) (hus:usC (b1 (s:Int) lm)≠0) (hD:DecD (kS (s:Int)) (fS (s:Int)) rv.toNat lm hv 1 n ys x) (hx:x.length<=100000) (hJ:tE1 (s:Int) x=0/\tR1 (s:Int) x=out) :
 Calls prog 21 #[.agg #[.int .i64 B,.int .i64 c,.int .i64 k,.int .i64 lm,.int .i64 hv],.agg #[.int .i64 u,.int .i64 p,.int .i64 f,.int .i64 b,.int .i64 (mm:Int),.int .i64 (s:Int),.int .i64 rv,.bool nw],.slice S n cs] w fun e w'=>∃ A' n' c',e= .returned (.tuple #[.slice A' n' c',.int .i64 0])/\Rd .u8 w' A' n' c' out/\Below w.heap.size w w':=by
 obtain⟨hC1,hM1,hD1,hu,hp,hs,hrv,hlm,hhv⟩:=okT_iff hT;have hmm:mm=2\/mm=4\/mm=6:=by unfold okM at hM1;simp at hM1;omega
 obtain⟨-,hf1,hb1,hfb,hB6,hc3,hk⟩:=okD_iff hD1;have hL:(dtL B c k f b).length<=16800:=Nat.le_trans (dtL_le B c k f b) (by omega);obtain⟨g,hg⟩:∃ g,g=(dtL B c k f b).length:=⟨_,rfl⟩
 rw [<- hg]at hL hn;have hgm:mm*g<=131072:=Nat.le_trans (Nat.mul_le_mul (show mm<=6 by omega) hL) (by omega);have hkS:kS (s:Int)=lo (s+24):=by unfold kS;rw [Int.toNat_natCast]
 have hfS:fS (s:Int)=fi (s+24):=by unfold fS;rw [Int.toNat_natCast]
 obtain⟨-,-,hbc,hlf,hl40,-,hfl⟩:=one_lay (b:=s+24) (by omega) (by omega);obtain⟨u9,hu9,hu57⟩:=lo_small (b:=s+24) (by omega) (by omega);have hrn:((rv.toNat:Nat):Int)=rv:=Int.toNat_of_nonneg hrv.1;have hrm:(n:Int)=(mm:Int)*((dtL B c k f b).length:Int):=by rw [hn,<- hg];push_cast;rfl
 have hny:ys.length=n:=hS.len;have hnc:(n:Int)=((mm*g:Nat):Int):=by rw [hn]
 refine decode_ok B c k lm hv u p f b (mm:Int) (s:Int) rv (n:Int) nw S n cs ys x out (kS (s:Int)) (fS (s:Int)) 0 w (transK B c k lm hv u p f b (mm:Int) (s:Int) rv (n:Int) nw hT hrm) rfl (by omega) hS hSl hsv ?_ ?_ ?_ ?_ ⟨hJ.1,hJ.2⟩ hx (by omega)
 . intro W hW
   exact splitP s mm g lm rv S n cs ys W hW (by omega) hs2 hmm hgm hlm.1 hrv hn hus
 . intro W
   have hly:ly15 (s:Int)=(LY (s+24),0):=by unfold ly15;rw [if_neg (by omega)];rfl
   have:=lay_any (s:Int) W;rw [hly]at this;refine this.mono ?_;rintro e w' ⟨rfl,hB⟩;refine⟨((s+24:Nat):Int),(lo (s+24):Int),(sh (s+24):Int),(los (s+24):Int),(shs (s+24):Int),?_,hB⟩;rw [hfS];simp [LY,ints8,hbc]
 . intro W A' c' hA hAl
   have:=decd_ok B c k lm hv (kS (s:Int)) (fS (s:Int)) rv.toNat 1 A' n c' ys x W (by omega) (by omega) (by omega) hlm.1 (by omega) (by omega) hA (all_gi.2 fun j hj=>by simpa using hsv j (by omega)) hAl hD;rw [hrn]at this;exact this
 . intro W EB TB h1 h2
   rw [hnc]at h2 ⊢;have hP:=partsX s mm g lm rv (kS (s:Int)) (by omega) hs2 hkS hmm hgm hlm.1 hrv W EB TB h1 h2;intro l J Jx W' hB hsz' hJ' hJx hJp hJxp hY h0;refine CallsIn.mono (hP l J Jx W' hB hsz' hJ' hJx hJp hJxp (fun pre x W1 hj hok=>hY pre x W1 hj ⟨hok.1,by rw [hok.2]⟩) h0) ?_;rintro e W9 ⟨h1,h2⟩;exact⟨h1,h2.imp (fun⟨xs,hx,h⟩=>⟨xs,⟨_,hx⟩,h⟩) id⟩
end Go.Proofs.YthmhogdceolkdaaGreat.Cr
namespace Go.Proofs.YthmhogdceolkdaaGreat.Cr
open Tryz
open Go.RowKit
attribute [local go_sem] Oper.semAt_some
set_option maxRecDepth 100000
set_option maxHeartbeats 2000000
theorem Q_1SG{P:Program}{ops:Array Oper}{Q:Exit->Act->World->Prop}{md:Region.Mode}{S:World->Prop}{p n m fuel:Nat}{oi:Oper}{a:Act}{w:World}(i m':Nat)(hi:ops[i]?=some oi)(h:∀ K:Act->World->Prop,(∀ a' w',S w'->wpAnyP P md ops Q S p fuel (bz n m') a' w'->K a' w')->oi.wp P a w K Q)
 (hc:ckO md ops n m m' i=true:=by kernel_rfl) (hg:Region.wanted oi (yielded ops a.tmps)=true:=by rfl):wpAnyP P md ops Q S p (fuel+1) (bz n m) a w:=by
 unfold ckO at hc;simp only [Bool.and_eq_true,decide_eq_true_eq]at hc;refine⟨fun h0=>?_,fun j hj=>?_⟩
 . rw [hc.2]at h0
   cases h0
 . rw [hc.2]at hj
   have hj':j=i:=by simpa using hj
   subst hj';unfold wpOp;simp only [hi];rw [if_pos hg,hc.1];exact .inl (h _ fun _ _ h1 h2=>⟨fun _=>h1,h2⟩)
theorem Blk.pre{W:World}{b:Nat}{t:TypeId}{xs ys:List Value}(h:Blk W b t (xs ++ ys)){q:Nat}{v:Value}(hq:xs[q]?=some v):W.cell? ⟨b,q,none⟩=some v:=h.cell (by rw [List.getElem?_append_left (List.getElem?_eq_some_iff.1 hq).1];exact hq)
theorem inside_nil(B c k lm hv:Int)(w:World):Calls prog 74 #[.agg #[.int .i64 B,.int .i64 c,.int .i64 k,.int .i64 lm,.int .i64 hv],.pointer none] w fun e w'=>e= .panicked (pan 1)/\Below w.heap.size w w':=by
 have HB:=aq (bal (Below.refl w.heap.size w) (.cells #[.int .i64 B,.int .i64 c,.int .i64 k,.int .i64 lm,.int .i64 hv] 25));go_enter func74,ntmps74;go_wp2_with fail;refine(pmust_bad 1 _).mono ?_;rintro e w1 ⟨rfl,rfl⟩;dsimp only;exact⟨rfl,rfl,HB.o⟩
theorem inside_zero(B c k lm hv:Int)(P cap:Nat)(x y z:Value)(A:Option Addr)(w:World)(h:Blk w P 66 [x,y,z,.slice A 0 cap]):Calls prog 74 #[.agg #[.int .i64 B,.int .i64 c,.int .i64 k,.int .i64 lm,.int .i64 hv],.pointer (some ⟨P,0,none⟩)] w fun e w'=>e= .panicked (pan 1)/\Below w.heap.size w w':=by
 have HB:=aq (bal (Below.refl w.heap.size w) (.cells #[.int .i64 B,.int .i64 c,.int .i64 k,.int .i64 lm,.int .i64 hv] 25));have HC:=aq (conf_zero P cap x y z A (w.alloc (.cells #[.int .i64 B,.int .i64 c,.int .i64 k,.int .i64 lm,.int .i64 hv] 25)) (h.alloc _));clear h;go_enter func74,ntmps74;go_wp2_with fail;refine HC.o.mono ?_;rintro e w1 ⟨rfl,hB⟩;have HB1:=aq (HB.o.trans (hB.mono HB.o.size));clear hB;dsimp only;go_wp2_with fail;refine(pmust_bad 1 _).mono ?_;rintro e w2 ⟨rfl,rfl⟩;dsimp only;exact⟨rfl,rfl,HB1.o⟩
theorem inside_ok(B:Nat)(c k lm hv:Int)(base P:Nat)(A:Option Addr)(N cap:Nat)(ps:List (Int × Int))(w:World)(h:GrS w base P B c k A N cap ps)(hC:okC (B:Int) c k lm hv=true):Calls prog 74 #[.agg #[.int .i64 (B:Int),.int .i64 c,.int .i64 k,.int .i64 lm,.int .i64 hv],.pointer (some ⟨P,0,none⟩)] w fun e w'=>e= .returned (.tuple #[])/\Below w.heap.size w w':=by
 have hB6:=h.r;have HB:=aq (bal (Below.refl w.heap.size w) (.cells #[.int .i64 (B:Int),.int .i64 c,.int .i64 k,.int .i64 lm,.int .i64 hv] 25));have HBX:Hid (Blk (w.alloc (.cells #[.int .i64 (B:Int),.int .i64 c,.int .i64 k,.int .i64 lm,.int .i64 hv] 25)) w.heap.size 25 (c5 (B:Int) c k lm hv)):=aq (Blk.new w _ _ rfl);have HG:=aq (h.b.below HB.o);have hN0:N≠0:=by have:=h.n;omega
 have HCF:Hid (∀ W,Blk W P 66 [.int .i64 (B:Int),.int .i64 c,.int .i64 k,.slice A N cap]->Calls prog 140 #[.pointer (some ⟨P,0,none⟩)] W fun e w'=>e= .returned (.agg #[.int .i64 (B:Int),.int .i64 c,.int .i64 k])/\Below W.heap.size W w'):=aq (fun W hW=>conf_any P N cap (B:Int) c k A W hW hN0);have HCK:Hid (∀ W,Calls prog 16 #[.agg #[.int .i64 (B:Int),.int .i64 c,.int .i64 k,.int .i64 lm,.int .i64 hv]] W fun e w'=>e= .returned (.int .i64 0)/\Below W.heap.size W w'):=aq (fun W=>by have:=pcheck_any (B:Int) c k lm hv W;rw [hC,if_pos rfl]at this;exact this);have hb0:((B:Int) == 0)=false:=beq_f (by omega);clear h hC hN0;go_enter func74,ntmps74;go_wp2_with fail;refine(HCF.o _ HG.o).mono ?_;rintro e w1 ⟨rfl,hwx⟩;have HG1:=aq (HG.o.below hwx);have HX1:=aq (HBX.o.below hwx);have HB1:=aq (HB.o.trans (hwx.mono HB.o.size));clear hwx HB HG HBX;dsimp only;go_wp2_with fail;refine(pmust_ok 1 _).mono ?_;rintro e w2 ⟨rfl,rfl⟩;dsimp only;go_wp2_with fail;obtain⟨CB,hCB⟩:∃ x,x=w.heap.size:=⟨_,rfl⟩
 rw [<- hCB]at HX1 ⊢;clear hCB;have HS0:Hid (Blk w2.drew CB 25 (c5 (B:Int) c k lm hv)/\Blk w2.drew P 66 [.int .i64 (B:Int),.int .i64 c,.int .i64 k,.slice A N cap]):=aq ⟨HX1.o.drew,HG1.o.drew⟩;have HB3:=aq HB1.o.drew;clear HX1 HG1 HB1;refine Q_start (fun W9=>Blk W9 CB 25 (c5 (B:Int) c k lm hv)/\Blk W9 P 66 [.int .i64 (B:Int),.int .i64 c,.int .i64 k,.slice A N cap]) 10 11 ?_;generalize w2.drew=w3 at *;refine Q_T 0 13 1 (.agg #[.int .i64 (B:Int),.int .i64 c,.int .i64 k,.int .i64 lm,.int .i64 hv]) [9,3,2,1] rfl HS0.o (yieldsIf_load_mid (by rfl) 25 (.tmp 2) rfl CB 0 rfl [.int .i64 (B:Int),.int .i64 c,.int .i64 k,.int .i64 lm,.int .i64 hv] _ (fun W hS q v hq=>by rw [Nat.zero_add];exact hS.1.cell hq) underlying25 rfl (by rw [infoPC];rfl)) ?_;simp only [z0,z1,z2];refine Q_1S 1 3 rfl (fun K hK=>?_);go_simp;refine(HCK.o _).mono ?_;rintro e w4 ⟨rfl,hwx⟩;have HS4:Hid (Blk w4 CB 25 (c5 (B:Int) c k lm hv)/\Blk w4 P 66 [.int .i64 (B:Int),.int .i64 c,.int .i64 k,.slice A N cap]):=aq ⟨HS0.o.1.below hwx,HS0.o.2.below hwx⟩;have HB4:=aq (HB3.o.trans (hwx.mono HB3.o.size));clear hwx;refine hK _ _ HS4.o ?_;clear hK K;refine Q_W 2 15 7 (.bool true) rfl HS4.o ?_;simp only [z0,z1,z2];refine Q_W 3 16 15 (.bool true) rfl HS4.o ?_;simp only [z0,z1,z2];refine Q_W 4 17 31 (.pointer (some ⟨P,0,none⟩)) rfl HS4.o ?_;simp only [z0,z1,z2];refine Q_W 6 19 95 (.pointer (some ⟨CB,0,none⟩)) rfl HS4.o ?_;simp only [z0,z1,z2];refine Q_T 7 20 223 (.agg #[.int .i64 (B:Int),.int .i64 c,.int .i64 k]) [9,8] rfl HS4.o (yieldsIf_load_mid (by rfl) 23 (.tmp 19) rfl CB 0 rfl [.int .i64 (B:Int),.int .i64 c,.int .i64 k] _ (fun W hS q v hq=>by rw [Nat.zero_add];exact Blk.pre (ys:=[.int .i64 lm,.int .i64 hv]) hS.1 hq) underlying23 rfl (by kernel_rfl)) ?_;simp only [z0,z1,z2];refine Q_1SG 5 255 rfl (fun K hK=>?_);go_simp;refine(HCF.o _ HS4.o.2).mono ?_;rintro e w5 ⟨rfl,hwx⟩;have HS5:Hid (Blk w5 CB 25 (c5 (B:Int) c k lm hv)/\Blk w5 P 66 [.int .i64 (B:Int),.int .i64 c,.int .i64 k,.slice A N cap]):=aq ⟨HS4.o.1.below hwx,HS4.o.2.below hwx⟩;have HB5:=aq (HB4.o.trans (hwx.mono HB4.o.size));clear hwx;refine hK _ _ HS5.o ?_;clear hK K;refine Q_W 8 21 511 (.bool true) rfl HS5.o ?_;simp only [z0,z1,z2];refine Q_W 9 22 1023 (.bool true) rfl HS5.o ?_;simp only [z0,z1,z2];refine Q_1 10 2047 rfl (fun K hK=>?_);go_simp;refine(pmust_ok 2 _).mono ?_;rintro e w6 ⟨rfl,rfl⟩;refine hK _ _ ?_;clear hK K;refine Q_end ?_;go_wp2;go_end0;exact⟨rfl,HB5.o⟩
set_option maxHeartbeats 4000000
theorem caught_recv(p:Addr)(caps:Array Value)(e:Int)(w:World)(R:World->Prop)(hcl:Calls prog 73 caps w fun en w'=>en= .returned (.tuple #[])/\R w')(hp:∀ W,R W->(∃ x,W.cell? p=some (.int .i64 x))/\W.frozen? p=false) :
 CallsD prog 41 #[.pointer (some p),.func (.func 73) #[] caps] (.panicking (pan e)) w fun en u' w'=>en= .returned (.tuple #[])/\u'= .panicking [{v:=.iface 30 (.int .i64 e),recovered:=true}]/\∃ W,R W/\w'=W.setCell p (.int .i64 e):=by
 have hta:∀ W:World,(Instr.typeAssert (.iface 30 (.int .i64 e)) 20 30 true).run prog W= .ok (.tuple #[.int .i64 e,.bool true]) W:=fun W=>by kernel_rfl
 have HC:=aq hcl;have HP:=aq hp;clear hcl hp;refine callsD_of_wpS func41 rfl fun c₀ cs hu=>?_;simp only [ntmps41,List.size_toArray,List.length_cons,List.length_nil,Nat.reduceAdd,Nat.reduceSub,Array.replicate_succ,Array.replicate_zero,List.push_toArray,List.append_toArray,List.nil_append,List.cons_append];apply wpS_seq;apply wpS_region;simp [wpOpsS,go_sem,recoverD,hu,pan,Exit.thenS];refine wpS_of_wp ?_;go_wp2_with (go_at_call 73;refine HC.o.mono ?_;rintro en W ⟨rfl,hRW⟩;obtain⟨⟨x,hpc⟩,hpf⟩:=HP.o W hRW);cases c₀;have HRW:=aq hRW;have he:∃ W',R W'/\W.setCell p (.int .i64 e)=W'.setCell p (.int .i64 e):=⟨W,HRW.o,rfl⟩
 have HE:=aq he;clear HP HC hRW he hpc hpf;simp only [bodyPostS];simp_all [results,results41];exact HE.o
theorem caught_send(p:Addr)(caps:Array Value)(e:Int)(w:World)(R:World->Prop)(hcl:Calls prog 79 caps w fun en w'=>en= .returned (.tuple #[])/\R w')(hp:∀ W,R W->(∃ x,W.cell? p=some (.int .i64 x))/\W.frozen? p=false) :
 CallsD prog 41 #[.pointer (some p),.func (.func 79) #[] caps] (.panicking (pan e)) w fun en u' w'=>en= .returned (.tuple #[])/\u'= .panicking [{v:=.iface 30 (.int .i64 e),recovered:=true}]/\∃ W,R W/\w'=W.setCell p (.int .i64 e):=by
 have hta:∀ W:World,(Instr.typeAssert (.iface 30 (.int .i64 e)) 20 30 true).run prog W= .ok (.tuple #[.int .i64 e,.bool true]) W:=fun W=>by kernel_rfl
 have HC:=aq hcl;have HP:=aq hp;clear hcl hp;refine callsD_of_wpS func41 rfl fun c₀ cs hu=>?_;simp only [ntmps41,List.size_toArray,List.length_cons,List.length_nil,Nat.reduceAdd,Nat.reduceSub,Array.replicate_succ,Array.replicate_zero,List.push_toArray,List.append_toArray,List.nil_append,List.cons_append];apply wpS_seq;apply wpS_region;simp [wpOpsS,go_sem,recoverD,hu,pan,Exit.thenS];refine wpS_of_wp ?_;go_wp2_with (go_at_call 79;refine HC.o.mono ?_;rintro en W ⟨rfl,hRW⟩;obtain⟨⟨x,hpc⟩,hpf⟩:=HP.o W hRW);cases c₀;have HRW:=aq hRW;have he:∃ W',R W'/\W.setCell p (.int .i64 e)=W'.setCell p (.int .i64 e):=⟨W,HRW.o,rfl⟩
 have HE:=aq he;clear HP HC hRW he hpc hpf;simp only [bodyPostS];simp_all [results,results41];exact HE.o
theorem recv1_any(RB:Nat)(x:Value)(w:World)(h:Blk w RB 53 [x]):Calls prog 73 #[.pointer (some ⟨RB,0,none⟩)] w fun e w'=>e= .returned (.tuple #[])/\(Blk w' RB 53 [.slice none 0 0]/\w.grownBy w' (some RB)):=by
 have c0:=h.cell (j:=0) (v:=x) rfl;have f0:=h.frozen 0;go_enter func73,ntmps73;go_wp2;go_end0;exact⟨rfl,h.set 0 _,grownBy_set w RB 0 _⟩
theorem send1_any(w:World):Calls prog 79 #[] w fun e w'=>e= .returned (.tuple #[])/\w'=w:=by
 go_enter func79,ntmps79;go_wp2;go_end0;exact⟨rfl,rfl⟩
theorem recv_bad(B c k lm hv sf u p f b m s rv e0:Int)(nw:Bool)(G:Option Addr)(w:World)(hIN:∀ W,Below w.heap.size w W->Calls prog 74 #[.agg #[.int .i64 B,.int .i64 c,.int .i64 k,.int .i64 lm,.int .i64 hv],.pointer G] W fun e w'=>e= .panicked (pan e0)/\Below W.heap.size W w') :
 Calls prog 25 #[.agg #[.int .i64 B,.int .i64 c,.int .i64 k,.int .i64 lm,.int .i64 hv],.int .i64 sf,.pointer G,.agg #[.int .i64 u,.int .i64 p,.int .i64 f,.int .i64 b,.int .i64 m,.int .i64 s,.int .i64 rv,.bool nw]] w fun e w'=>e= .returned (.tuple #[.slice none 0 0,.int .i64 e0])/\Below w.heap.size w w':=by
 have hmf:∀ (fn:Fn) (first cap:Array Value) (w:World),(Instr.makeFunc fn first cap).run prog w= .ok (.func fn first cap) w:=fun _ _ _ _=>rfl;have HC:Hid (Blk ((((w.alloc (.cells #[.int .i64 B,.int .i64 c,.int .i64 k,.int .i64 lm,.int .i64 hv] 25)).alloc (.cells #[.int .i64 u,.int .i64 p,.int .i64 f,.int .i64 b,.int .i64 m,.int .i64 s,.int .i64 rv,.bool nw] 28)).alloc (.cells #[.slice none 0 0] 53)).alloc (.cells #[.int .i64 0] 30)) w.heap.size 25 (c5 B c k lm hv)):=aq ((((Blk.new w [.int .i64 B,.int .i64 c,.int .i64 k,.int .i64 lm,.int .i64 hv] 25 rfl).alloc _).alloc _).alloc _);have HR:Hid (Blk ((((w.alloc (.cells #[.int .i64 B,.int .i64 c,.int .i64 k,.int .i64 lm,.int .i64 hv] 25)).alloc (.cells #[.int .i64 u,.int .i64 p,.int .i64 f,.int .i64 b,.int .i64 m,.int .i64 s,.int .i64 rv,.bool nw] 28)).alloc (.cells #[.slice none 0 0] 53)).alloc (.cells #[.int .i64 0] 30)) (w.heap.size+1+1) 53 [.slice none 0 0]):=aq ((Blk.new _ [.slice none 0 0] 53 (by simp)).alloc _);have HE:Hid (Blk ((((w.alloc (.cells #[.int .i64 B,.int .i64 c,.int .i64 k,.int .i64 lm,.int .i64 hv] 25)).alloc (.cells #[.int .i64 u,.int .i64 p,.int .i64 f,.int .i64 b,.int .i64 m,.int .i64 s,.int .i64 rv,.bool nw] 28)).alloc (.cells #[.slice none 0 0] 53)).alloc (.cells #[.int .i64 0] 30)) (w.heap.size+1+1+1) 30 [.int .i64 0]):=aq (Blk.new _ [.int .i64 0] 30 (by simp));have HB:=aq (bal (bal (bal (bal (Below.refl w.heap.size w) (.cells #[.int .i64 B,.int .i64 c,.int .i64 k,.int .i64 lm,.int .i64 hv] 25)) (.cells #[.int .i64 u,.int .i64 p,.int .i64 f,.int .i64 b,.int .i64 m,.int .i64 s,.int .i64 rv,.bool nw] 28)) (.cells #[.slice none 0 0] 53)) (.cells #[.int .i64 0] 30));have HIN:=aq (hIN _ HB.o);clear hIN;go_enter_defers func25,ntmps25;go_upto_region 2 with fail
 obtain⟨CB,hCB⟩:∃ x,x=w.heap.size:=⟨_,rfl⟩
 obtain⟨RB,hRB⟩:∃ x,x=w.heap.size+1+1:=⟨_,rfl⟩
 obtain⟨EB,hEB⟩:∃ x,x=w.heap.size+1+1+1:=⟨_,rfl⟩
 rw [<- hEB]at HE ⊢;rw [<- hRB]at HR ⊢;rw [<- hCB]at HC ⊢;have HGE:Hid (w.heap.size<=RB/\w.heap.size<=EB/\RB≠EB):=aq (by omega);clear hCB hRB hEB;generalize ((((w.alloc (.cells #[.int .i64 B,.int .i64 c,.int .i64 k,.int .i64 lm,.int .i64 hv] 25)).alloc (.cells #[.int .i64 u,.int .i64 p,.int .i64 f,.int .i64 b,.int .i64 m,.int .i64 s,.int .i64 rv,.bool nw] 28)).alloc (.cells #[.slice none 0 0] 53)).alloc (.cells #[.int .i64 0] 30))=w0 at *
 go_wp2_with (first
  | (refine ldrow (cs:=[.int .i64 B,.int .i64 c,.int .i64 k,.int .i64 lm,.int .i64 hv]) rfl 25 (.tmp 4) rfl rfl HC.o _ underlying25 rfl (by rw [infoPC];rfl) ?_)
  | fail)
 refine HIN.o.mono ?_;rintro e w1 ⟨rfl,hwx⟩;have HR1:=aq (HR.o.below hwx);have HE1:=aq (HE.o.below hwx);have HB1:=aq (HB.o.trans (hwx.mono HB.o.size));clear hwx HB HR HE HIN HC;dsimp only;refine leaves_cons (f:=41) (args:=#[.pointer (some ⟨EB,0,none⟩),.func (.func 73) #[] #[.pointer (some ⟨RB,0,none⟩)]]) (by simp) (by simp [go_sem]) ?_;refine(caught_recv ⟨EB,0,none⟩ _ e0 _ (fun W9=>Blk W9 RB 53 [.slice none 0 0]/\w1.grownBy W9 (some RB)) (recv1_any RB _ w1 HR1.o) (fun W9 hW=>?_)).mono ?_
 . have hE2:=HE1.o.grown hW.2 (fun he=>HGE.o.2.2 (Option.some.inj he).symm)
   exact⟨⟨_,hE2.cell (j:=0) rfl⟩,hE2.frozen 0⟩
 rintro e u' w'' ⟨rfl,rfl,W2,hW2,rfl⟩;have hE2:=HE1.o.grown hW2.2 (fun he=>HGE.o.2.2 (Option.some.inj he).symm);have l1:=lv53 ((hW2.1.other (g:=EB) HGE.o.2.2.symm 0 (.int .i64 e0)).cell (j:=0) (v:=.slice none 0 0) rfl);have l2:=lv24 ((hE2.set 0 (.int .i64 e0)).cell (j:=0) (v:=.int .i64 e0) rfl);have HBE:=aq ((HB1.o.grown hW2.2 HB1.o.size (fun q hk=>by cases hk;exact HGE.o.1)).setCell (p:=⟨EB,0,none⟩) HGE.o.2.1 (.int .i64 e0));clear hW2 hE2;simp [Leaves,settle,results,results25,asAddr,l1,l2,Sem.run_bind,Result.andThen];exact HBE.o
theorem send_bad(B c k lm hv sf u p f b m s rv e0:Int)(nw:Bool)(G:Option Addr)(D:Option Addr)(dn dc:Nat)(w:World)(hIN:∀ W,Below w.heap.size w W->Calls prog 74 #[.agg #[.int .i64 B,.int .i64 c,.int .i64 k,.int .i64 lm,.int .i64 hv],.pointer G] W fun e w'=>e= .panicked (pan e0)/\Below W.heap.size W w') :
 Calls prog 26 #[.agg #[.int .i64 B,.int .i64 c,.int .i64 k,.int .i64 lm,.int .i64 hv],.int .i64 sf,.pointer G,.agg #[.int .i64 u,.int .i64 p,.int .i64 f,.int .i64 b,.int .i64 m,.int .i64 s,.int .i64 rv,.bool nw],.slice D dn dc] w fun e w'=>e= .returned (.int .i64 e0)/\Below w.heap.size w w':=by
 have hmf:∀ (fn:Fn) (first cap:Array Value) (w:World),(Instr.makeFunc fn first cap).run prog w= .ok (.func fn first cap) w:=fun _ _ _ _=>rfl;have HC:Hid (Blk (((w.alloc (.cells #[.int .i64 B,.int .i64 c,.int .i64 k,.int .i64 lm,.int .i64 hv] 25)).alloc (.cells #[.int .i64 u,.int .i64 p,.int .i64 f,.int .i64 b,.int .i64 m,.int .i64 s,.int .i64 rv,.bool nw] 28)).alloc (.cells #[.int .i64 0] 30)) w.heap.size 25 (c5 B c k lm hv)):=aq (((Blk.new w [.int .i64 B,.int .i64 c,.int .i64 k,.int .i64 lm,.int .i64 hv] 25 rfl).alloc _).alloc _);have HE:Hid (Blk (((w.alloc (.cells #[.int .i64 B,.int .i64 c,.int .i64 k,.int .i64 lm,.int .i64 hv] 25)).alloc (.cells #[.int .i64 u,.int .i64 p,.int .i64 f,.int .i64 b,.int .i64 m,.int .i64 s,.int .i64 rv,.bool nw] 28)).alloc (.cells #[.int .i64 0] 30)) (w.heap.size+1+1) 30 [.int .i64 0]):=aq (Blk.new _ [.int .i64 0] 30 (by simp));have HB:=aq (bal (bal (bal (Below.refl w.heap.size w) (.cells #[.int .i64 B,.int .i64 c,.int .i64 k,.int .i64 lm,.int .i64 hv] 25)) (.cells #[.int .i64 u,.int .i64 p,.int .i64 f,.int .i64 b,.int .i64 m,.int .i64 s,.int .i64 rv,.bool nw] 28)) (.cells #[.int .i64 0] 30));have HIN:=aq (hIN _ HB.o);clear hIN;go_enter_defers func26,ntmps26;go_upto_region 2 with fail
 obtain⟨CB,hCB⟩:∃ x,x=w.heap.size:=⟨_,rfl⟩
 obtain⟨EB,hEB⟩:∃ x,x=w.heap.size+1+1:=⟨_,rfl⟩
 rw [<- hEB]at HE ⊢;rw [<- hCB]at HC ⊢;have HGE:Hid (w.heap.size<=EB):=aq (by omega);clear hCB hEB;generalize (((w.alloc (.cells #[.int .i64 B,.int .i64 c,.int .i64 k,.int .i64 lm,.int .i64 hv] 25)).alloc (.cells #[.int .i64 u,.int .i64 p,.int .i64 f,.int .i64 b,.int .i64 m,.int .i64 s,.int .i64 rv,.bool nw] 28)).alloc (.cells #[.int .i64 0] 30))=w0 at *
 go_wp2_with (first
  | (refine ldrow (cs:=[.int .i64 B,.int .i64 c,.int .i64 k,.int .i64 lm,.int .i64 hv]) rfl 25 (.tmp 5) rfl rfl HC.o _ underlying25 rfl (by rw [infoPC];rfl) ?_)
  | fail)
 refine HIN.o.mono ?_;rintro e w1 ⟨rfl,hwx⟩;have HE1:=aq (HE.o.below hwx);have HB1:=aq (HB.o.trans (hwx.mono HB.o.size));clear hwx HB HE HIN HC;dsimp only;refine leaves_cons (f:=41) (args:=#[.pointer (some ⟨EB,0,none⟩),.func (.func 79) #[] #[]]) (by simp) (by simp [go_sem]) ?_;refine(caught_send ⟨EB,0,none⟩ #[] e0 _ (fun W9=>W9=w1) (send1_any w1) (fun W9 hW=>?_)).mono ?_
 . subst hW
   exact⟨⟨_,HE1.o.cell (j:=0) rfl⟩,HE1.o.frozen 0⟩
 rintro e u' w'' ⟨rfl,rfl,W2,rfl,rfl⟩;have l2:=lv24 ((HE1.o.set 0 (.int .i64 e0)).cell (j:=0) (v:=.int .i64 e0) rfl);have HBE:=aq (HB1.o.setCell (p:=⟨EB,0,none⟩) HGE.o (.int .i64 e0));simp [Leaves,settle,results,results26,asAddr,l2,Sem.run_bind,Result.andThen];exact HBE.o
end Go.Proofs.YthmhogdceolkdaaGreat.Cr