/- Bundle. Conditions: none. -/
import Derived.Test.YthmhogdceolkdaaGreatBqaz
import Derived.Test.YthmhogdceolkdaaGreatBqad
import Derived.Test.YthmhogdceolkdaaGreatBqbc
import Derived.Test.YthmhogdceolkdaaGreatBqae
set_option linter.unusedVariables false
set_option linter.unusedSimpArgs false
namespace Go.Proofs.YthmhogdceolkdaaGreat
open Go.RowKit
structure Cle (o:Ob):Prop where
 ok:o.ok
 s:∀ i,i<o.s.length->1<=gi o.s i
 p:∀ i,i<o.s.length->0<=gi o.p i
 a:∀ i,i<o.a.length->0<=gi o.a i
theorem Cle.x{o:Ob}(h:Cle o)(i:Nat)(hi:i<o.s.length):1<=o.x i:=by
 have h1:=h.s i hi;unfold Ob.x;split
 . rename_i hk
   have h2:=h.a i hk;omega
 . exact h1
theorem Cle.nb{o:Ob}(h:Cle o):o.s.length<=6147:=by have:=h.ok.2.1;have:=h.ok.2.2.1;omega
theorem Cle.zd{o:Ob}(h:Cle o):∀ d i,i+d<=o.s.length->0<=o.Z (i+d) - o.Z i/\o.Z (i+d) - o.Z i<=381*(d:Int)
 | 0,i,_=>by simp
 | d+1,i,hi=>by
   have h1:=h.zd d i (by omega);have h2:=h.x (i+d) (by omega);have h3:=h.p (i+d) (by omega);have h4:=o.x_bd h.ok (i+d) (by omega);have h5:=o.p_bd h.ok (i+d) (by omega);rw [show i+(d+1)=(i+d)+1 from rfl];simp only [Ob.Z];omega
theorem Cle.zb{o:Ob}(h:Cle o)(i:Nat)(hi:i<=o.s.length):0<=o.Z i/\o.Z i<=381*(i:Int):=by
 have:=h.zd i 0 (by omega);rw [Nat.zero_add,show o.Z 0=0 from rfl]at this;omega
theorem Cle.term{o:Ob}(h:Cle o)(i:Nat)(hi:i<o.s.length)(b:Br)(hb:b ∈ brT):o.term i b<=o.x i+gi o.p i/\(b.bt=1->o.term i b<=gi o.p i - o.x i):=by
 obtain⟨-,h1,h2,-⟩:=br_bd b hb;have h3:=h.x i hi;have h4:=h.p i hi;unfold Ob.term;rcases (by omega:b.bt=0\/b.bt=1) with e | e<;>rcases (by omega:b.pr=0\/b.pr=1) with e' | e'<;>rw [e,e']<;>simp<;>omega
theorem Cle.f{o:Ob}(h:Cle o):∀ i,i<=o.s.length->∀ t,t<8->gi (o.f i) t<=o.Z i
 | 0,_,t,ht=>by
   show gi none0 t<=0;rw [gi_none0 t ht];split
   . exact Int.le_refl _
   . rw [UU_eq];omega
 | i+1,hi,t,ht=>by
   have hz:=h.zb (i+1) hi;refine(fwd_le o i (o.f i) t ht _).2 ⟨by rw [UU_eq];omega,fun b hb e _ _=>?_⟩;have h1:=h.f i (by omega) b.fr (br_bd b hb).1;have h2:=(h.term i (by omega) b hb).1;simp only [Ob.Z];omega
theorem Cle.bd{o:Ob}(h:Cle o):∀ d,d<=o.s.length->∀ t,t<8->gi (o.bd d) t<=o.Z o.s.length - o.Z (o.s.length - d)
 | 0,_,t,ht=>by
   show gi none0 t<=_;rw [gi_none0 t ht,Nat.sub_zero];split
   . omega
   . rw [UU_eq];omega
 | d+1,hd,t,ht=>by
   obtain⟨i,hi⟩:∃ i,i+(d+1)=o.s.length:=⟨o.s.length - (d+1),by omega⟩
   have hz:=h.zd (d+1) i (by omega);rw [hi]at hz;have e1:o.s.length - 1 - d=i:=by omega
   have e2:o.s.length - (d+1)=i:=by omega
   have e3:o.s.length - d=i+1:=by omega
   show gi (o.bwd (o.s.length - 1 - d) (o.bd d)) t<=_;rw [e1,e2];refine(bwd_le o i (o.bd d) t ht _).2 ⟨by rw [UU_eq];omega,fun b hb e _ _=>?_⟩;have h1:=h.bd d (by omega) b.tt (br_bd b hb).2.2.2;rw [e3]at h1;have h2:=(h.term i (by omega) b hb).1;simp only [Ob.Z]at h1;omega
theorem Cle.f0{o:Ob}(h:Cle o):∀ i,i<=o.s.length->o.Z i<=gi (o.f i) 0
 | 0,_=>by show(0:Int)<=gi none0 0;rw [gi_none0 0 (by decide)];simp
 | i+1,hi=>by
   have h1:=h.f0 i (by omega);have hz:=h.zb i (by omega);have h2:=((fwd_le o i (o.f i) 0 (by decide) (gi (o.f (i+1)) 0)).1 (Int.le_refl _)).2 _ b0_mem rfl (allow0 o i) (by show UU<gi (o.f i) 0;rw [UU_eq];omega);rw [term0]at h2;simp only [Ob.Z];dsimp only at h2;omega
theorem Cle.bd0{o:Ob}(h:Cle o):∀ d,d<=o.s.length->o.Z o.s.length - o.Z (o.s.length - d)<=gi (o.bd d) 0
 | 0,_=>by show _<=gi none0 0;rw [gi_none0 0 (by decide),Nat.sub_zero];simp
 | d+1,hd=>by
   have h1:=h.bd0 d (by omega);obtain⟨i,hi⟩:∃ i,i+(d+1)=o.s.length:=⟨o.s.length - (d+1),by omega⟩
   have e1:o.s.length - 1 - d=i:=by omega
   have e2:o.s.length - (d+1)=i:=by omega
   have e3:o.s.length - d=i+1:=by omega
   have hz:=h.zd d (i+1) (by omega);have e4:i+1+d=o.s.length:=by omega
   rw [e3]at h1;rw [e4]at hz;have h2:=((bwd_le o i (o.bd d) 0 (by decide) (gi (o.bwd i (o.bd d)) 0)).1 (Int.le_refl _)).2 _ b0_mem rfl (allow0 o i) (by show UU<gi (o.bd d) 0;rw [UU_eq];omega);rw [term0]at h2;show _<=gi (o.bwd (o.s.length - 1 - d) (o.bd d)) 0;rw [e1,e2];simp only [Ob.Z]at h1;dsimp only at h2;omega
theorem Cle.tot{o:Ob}(h:Cle o)(i:Nat)(hi:i<o.s.length):o.x i<=o.tot i:=by
 obtain⟨d,hd⟩:∃ d,i+1+d=o.s.length:=⟨o.s.length - (i+1),by omega⟩
 have e1:o.s.length - (i+1)=d:=by omega
 have e2:o.s.length - d=i+1:=by omega
 have hn:=h.nb;have z1:=h.zb i (by omega);have z2:=h.zd d (i+1) (by omega);have z3:=h.zb o.s.length (Nat.le_refl _);rw [hd]at z2;have f0:=h.f0 i (by omega);have b0:=h.bd0 d (by omega);rw [e2]at b0;have hx:=h.x i hi;have hp:=h.p i hi;have hxb:=o.x_bd h.ok i hi;have lo:o.Z o.s.length<=o.val i 0 (o.f i) (o.b (i+1)):=by
  have:=((val_le o i 0 (o.f i) (o.b (i+1)) _).1 (Int.le_refl _)).2 _ b0_mem rfl;unfold Ob.b at this ⊢;rw [e1]at this ⊢;have:=this (by show UU<gi (o.f i) 0;rw [UU_eq];omega) (by show UU<gi (o.bd d) 0;rw [UU_eq];omega);rw [term0]at this;simp only [Ob.Z]at b0;dsimp only at this;omega
 have up:o.val i 1 (o.f i) (o.b (i+1))<=o.Z o.s.length - 2*o.x i:=by
  refine(val_le o i 1 _ _ _).2 ⟨by rw [UU_eq];omega,fun b hb eb _ _=>?_⟩;unfold Ob.b;rw [e1];have b4:=br_bd b hb;have h1:=h.f i (by omega) b.fr b4.1;have h2:=h.bd d (by omega) b.tt b4.2.2.2;have h3:=(h.term i hi b hb).2 eb;rw [e2]at h2;simp only [Ob.Z]at h2;omega
 unfold Ob.tot;rw [Int.tdiv_eq_ediv_of_nonneg (by omega)];omega
theorem ext_nonneg{v:Int}(h:0<=v):0<=ext v:=by
 unfold ext;rw [Int.tdiv_eq_ediv_of_nonneg (by omega)];omega
theorem gi_zero(k j:Nat):gi (List.replicate k (0:Int)) j=0:=by
 unfold gi;rw [List.getD_eq_getElem?_getD,List.getElem?_replicate];split<;>rfl
theorem sq_sg(b:Bool):(1 - 2*(bq b:Int))*(1 - 2*(bq b:Int))=1:=by cases b<;>rfl
theorem mul_sg(m:Int)(b:Bool):m*(1 - 2*(bq b:Int))*(1 - 2*(bq b:Int))=m:=by rw [Int.mul_assoc,sq_sg,Int.mul_one]
theorem sg_bd{m:Int}(b:Bool)(h:-127<=m/\m<=127):-127<=m*(1 - 2*(bq b:Int))/\m*(1 - 2*(bq b:Int))<=127:=by
 cases b
 . simp [bq];omega
 . show -127<=m*(1 - 2*1)/\m*(1 - 2*1)<=127
   omega
structure Rgt (o:Ob) (k:Nat) (bs:List Bool) (m1 m2:Nat->Int):Prop where
 b:bs.length=k
 k1:1<=k
 k2:k<=6144
 ls:o.s.length=k+3
 lp:o.p.length=k+3
 la:o.a.length=k
 s:∀ j,j<k+3->gi o.s j=m1 j*(1 - 2*(bq ((inW bs).getD j false):Int))/\1<=m1 j/\m1 j<=127
 p:∀ j,j<k+3->gi o.p j=m2 j*(1 - 2*(bq ((outW bs).getD j false):Int))/\1<=m2 j/\m2 j<=127
 a:∀ j,j<k->0<=gi o.a j*(1 - 2*(bq (bs.getD j false):Int))/\-127<=gi o.a j/\gi o.a j<=127
theorem mem_gi{l:List Int}{v:Int}(h:v ∈ l):∃ j,j<l.length/\gi l j=v:=by
 obtain⟨j,hj,rfl⟩:=List.getElem_of_mem h;exact⟨j,hj,gi_eq _ _ hj⟩
theorem Rgt.ok{o:Ob}{k:Nat}{bs:List Bool}{m1 m2:Nat->Int}(h:Rgt o k bs m1 m2):o.ok:=by
 refine⟨by rw [h.la];exact h.k1,by rw [h.la];exact h.k2,by rw [h.ls,h.la],by rw [h.lp,h.la],fun v hv=>?_,fun v hv=>?_,fun v hv=>?_⟩
 . obtain⟨j,hj,rfl⟩:=mem_gi hv
   obtain⟨e,h1,h2⟩:=h.s j (by rw [<- h.ls];exact hj);rw [e];exact sg_bd _ (by omega)
 . obtain⟨j,hj,rfl⟩:=mem_gi hv
   obtain⟨e,h1,h2⟩:=h.p j (by rw [<- h.lp];exact hj);rw [e];exact sg_bd _ (by omega)
 . obtain⟨j,hj,rfl⟩:=mem_gi hv
   exact(h.a j (by rw [<- h.la];exact hj)).2
theorem Rgt.cle{o:Ob}{k:Nat}{bs:List Bool}{m1 m2:Nat->Int}(h:Rgt o k bs m1 m2):Cle (o.turn bs):=by
 refine⟨turn_ok h.ok bs,fun i hi=>?_,fun i hi=>?_,fun i hi=>?_⟩
 . have hi:i<k+3:=by simpa [Ob.turn,flp_len,h.ls] using hi
   obtain⟨e,h1,-⟩:=h.s i hi;show 1<=gi (flp o.s (inW bs)) i;rw [gi_flp,e,mul_sg];exact h1
 . have hi:i<k+3:=by simpa [Ob.turn,flp_len,h.ls] using hi
   obtain⟨e,h1,-⟩:=h.p i hi;show 0<=gi (flp o.p (outW bs)) i;rw [gi_flp,e,mul_sg];omega
 . have hi:i<k:=by simpa [Ob.turn,flp_len,h.la] using hi
   show 0<=gi (flp o.a bs) i;rw [gi_flp];exact(h.a i hi).1
theorem ext_bd(v:Int):-127<=ext v/\ext v<=127:=by unfold ext;omega
theorem clean_plain{o:Ob}{k:Nat}{bs:List Bool}{m1 m2:Nat->Int}(h:Rgt o k bs m1 m2) :
 o.dB=bs.map ib/\o.dE.length=k/\∀ j,j<k->0<=gi o.dE j*(1 - 2*(bq (bs.getD j false):Int))/\-127<=gi o.dE j/\gi o.dE j<=127:=by
 have hok:=h.ok;have hc:=h.cle;have hbl:bs.length=o.a.length:=by rw [h.b,h.la]
 have ht:=turn_tn hok hbl;have hE:=turn_dE hok hbl;have hel:o.dE.length=k:=by unfold Ob.dE;rw [if_pos hok];simp [h.la]
 have tl:(o.turn bs).s.length=k+3:=by show(flp _ _).length=_;rw [flp_len,h.ls]
 have tal:(o.turn bs).a.length=k:=by show(flp _ _).length=_;rw [flp_len,h.la]
 have tt:∀ j,j<k->(o.turn bs).x j<=(o.turn bs).tot j:=fun j hj=>hc.tot j (by rw [tl];omega);refine⟨?_,hel,fun j hj=>⟨?_,?_⟩⟩
 . unfold Ob.dB
   rw [if_pos hok,h.la];refine ext_gi (by simp [h.b]) fun j hj=>?_;have hj:j<k:=by simpa using hj
   rw [gi_range _ hj,gi_ib bs j (by rw [h.b];exact hj)];unfold Ob.bT;have h1:=tt j hj;have h2:=hc.x j (by rw [tl];omega);rw [ht.tot j (by rw [h.ls];omega)]at h1;have hbt:(cW bs j).bt=bq (bs[j]'(by rw [h.b];exact hj)):=by
    show bq ((inW bs).getD j false)=_;rw [inW_lo bs j (by rw [h.b];exact hj)];simp [List.getD,show j<bs.length from by rw [h.b];exact hj]
   rw [hbt]at h1;generalize bs[j]'_=b at *;cases b
   . simp [bq]at h1;simp [ib];omega
   . have h1:(o.turn bs).x j<=o.tot j*(1 - 2*1):=h1
     show(if o.tot j<0 then(1:Int) else 0)=1;rw [if_pos (by omega)]
 . have e:gi (o.turn bs).dE j=gi (flp o.dE bs) j:=by rw [hE]
   rw [gi_flp]at e;rw [<- e];unfold Ob.dE;rw [if_pos (turn_ok hok bs),tal,gi_range _ hj];unfold Ob.eT;refine ext_nonneg ?_;have h1:=tt j hj;unfold Ob.x at h1;rw [if_pos (by show j<(o.turn bs).a.length;rw [tal];exact hj)]at h1;omega
 . unfold Ob.dE
   rw [if_pos hok,h.la,gi_range _ hj];exact ext_bd _
def obH(vs:List Int)(k code:Nat)(a:List Int):Ob:=⟨pk vs (Tu.sysL k code),pk vs (Tu.parI k code),a⟩
def cdN(h:Nat):Nat:=if h % 2=1 then 1 else 2
def bkL(k code:Nat):List Int:=if code=1 then Tu.ordL k else Tu.invL k
noncomputable def apN (vs:List Int) (k:Nat):Nat->List Int
 | 0=>List.replicate k 0
 | h+1=>pk (obH vs k (cdN (h+1)) (apN vs k h)).dE (bkL k (cdN (h+1)))
noncomputable def obN (vs:List Int) (k h:Nat):Ob:=obH vs k (cdN (h+1)) (apN vs k h)
noncomputable def decN (vs:List Int) (k h:Nat):List Int:=if cdN (h+1)=1 then(obN vs k h).dB else pk (obN vs k h).dB (Tu.invL k)
theorem sys_len(k code:Nat):(Tu.sysL k code).length=k+3:=by simp [Tu.sysL,Tu.stepsP_len]
theorem par_len(k code:Nat):(Tu.parI k code).length=k+3:=by simp [Tu.parI,Tu.stepsP_len]
theorem cnt2(f:Nat->Nat)(i j t:Nat)(hij:i<j)(hi:f i=t)(hj:f j=t):∀ k,j<k->2<=((List.range k).map f).count t
 | 0,h=>by omega
 | k+1,h=>by
   rw [List.range_succ,List.map_append,List.count_append];by_cases e:j=k
   . subst e
     have h1:0<((List.range j).map f).count t:=List.count_pos_iff.2 (List.mem_map.2 ⟨i,List.mem_range.2 hij,hi⟩);have h2:[f j].count t=1:=by rw [hj];simp
     rw [List.map_cons,List.map_nil,h2];omega
   . have:=cnt2 f i j t hij hi hj k (by omega)
     omega
section
variable {k u : Nat} (hk : k = Tu.szK u)
include hk
theorem pi_inj(i j:Nat)(hi:i<k)(hj:j<k)(e:Tu.piN k i=Tu.piN k j):i=j:=by
 have hp:=Tu.perm_map hk;have h1:=hp.2 (Tu.piN k i) (hp.1 i hi);rcases Nat.lt_trichotomy i j with h | h | h
 . have:=cnt2 (Tu.piN k) i j _ h rfl e.symm k hj
   omega
 . exact h
 . have:=cnt2 (Tu.piN k) j i _ h e.symm rfl k hi
   omega
theorem inv_gi(i:Nat)(hi:i<k):gi (Tu.invL k) (Tu.piN k i)=(i:Int):=Tu.invT_gi (Tu.perm_map hk).1 (fun i j=>pi_inj hk i j) k (Nat.le_refl _) i hi
theorem pi_inv(i:Nat)(hi:i<k):∃ j,j<k/\Tu.piN k j=i/\gi (Tu.invL k) i=(j:Int):=by
 obtain⟨j,hj,e⟩:=Tu.pi_onto u i (by rw [<- hk];exact hi);rw [<- hk]at hj e;exact⟨j,hj,e,by rw [<- e];exact inv_gi hk j hj⟩
theorem sys_bd{code:Nat}(hc:code=1\/code=2){j:Nat}(hj:j<k+3):∃ p:Nat,gi (Tu.sysL k code) j=(p:Int)/\p<3*(k+4):=by
 have hm:=gi_mem (Tu.sysL k code) j (by rw [sys_len];exact hj);obtain⟨v,hv⟩:∃ v,gi (Tu.sysL k code) j=v:=⟨_,rfl⟩
 rw [hv]at hm ⊢;rw [Tu.sysL_eq]at hm;rcases List.mem_append.1 hm with h | h
 . unfold Tu.sysP at h
   obtain⟨q,hq,rfl⟩:=List.mem_map.1 h;have hq:=List.mem_range.1 hq;rw [Tu.osL_gi k code q hc hq];refine⟨_,rfl,?_⟩;split
   . omega
   . have:=(Tu.perm_map hk).1 q hq;omega
 . have ha:Tu.atN k code<=k+2:=by unfold Tu.atN;omega
   simp only [List.mem_cons,List.not_mem_nil,or_false]at h;rcases h with rfl | rfl | rfl
   . exact⟨_,rfl,by omega⟩
   . exact⟨_,rfl,by omega⟩
   . exact⟨_,rfl,by omega⟩
omit hk in
theorem par_bd{code:Nat}(hc:code=1\/code=2){j:Nat}(hj:j<k+3):∃ p:Nat,gi (Tu.parI k code) j=(p:Int)/\p<3*(k+4):=by
 have hm:=gi_mem (Tu.parI k code) j (by rw [par_len];exact hj);obtain⟨v,hv⟩:∃ v,gi (Tu.parI k code) j=v:=⟨_,rfl⟩
 rw [hv]at hm ⊢;rw [Tu.parI_eq]at hm;rcases List.mem_append.1 hm with h | h
 . unfold Tu.parP at h
   obtain⟨q,hq,rfl⟩:=List.mem_map.1 h;have hq:=List.mem_range.1 hq;refine⟨_,rfl,?_⟩;rcases hc with rfl | rfl<;>omega
 . have ha:Tu.atN k code<=k+2:=by unfold Tu.atN;omega
   simp only [List.mem_cons,List.not_mem_nil,or_false]at h;rcases h with rfl | rfl | rfl
   . exact⟨_,rfl,by omega⟩
   . exact⟨_,rfl,by omega⟩
   . exact⟨_,rfl,by omega⟩
def Sgn(vs:List Int)(k:Nat)(x:List Bool)(m:Nat->Int):Prop:=∀ q,q<3*(k+4)->gi vs q=m q*(1 - 2*(bq (Tu.gB (Tu.wrd x) q):Int))/\1<=m q/\m q<=127
theorem ob_rgt{x:List Bool}{vs:List Int}{m:Nat->Int}{code:Nat}{a:List Int}(hx:x.length=k)(hc:code=1\/code=2)(hv:Sgn vs k x m)(hal:a.length=k)
 (ha:∀ j,j<k->0<=gi a j*(1 - 2*(bq ((Tu.inC x code).getD j false):Int))/\-127<=gi a j/\gi a j<=127) :
 Rgt (obH vs k code a) k (Tu.inC x code) (fun j=>m (gi (Tu.sysL k code) j).toNat) (fun j=>m (gi (Tu.parI k code) j).toNat):=by
 have hb:=Tu.szK_bd u;rw [<- hk]at hb;refine⟨by rw [Tu.inC_len,hx],by omega,by omega,by show(pk _ _).length=_;rw [pk_len,sys_len],by show(pk _ _).length=_;rw [pk_len,par_len],hal,fun j hj=>?_,fun j hj=>?_,ha⟩
 . obtain⟨p,e,hp⟩:=sys_bd hk hc hj
   obtain⟨h1,h2,h3⟩:=hv p hp;have hs:Tu.gB (Tu.selB (Tu.wrd x) (Tu.sysL k code)) j=Tu.gB (inW (Tu.inC x code)) j:=by rw [Tu.sel_sys hx hk hc];rfl
   have hw:Tu.gB (Tu.selB (Tu.wrd x) (Tu.sysL k code)) j=Tu.gB (Tu.wrd x) p:=by
    unfold Tu.selB Tu.gB;rw [List.getD_eq_getElem?_getD,List.getElem?_map,List.getElem?_eq_getElem (by rw [sys_len];exact hj),<- gi_eq _ _ (by rw [sys_len];exact hj),e];simp [List.getD]
   rw [hw]at hs;show gi (pk vs _) j=_/\_;rw [gi_pk (by rw [sys_len];exact hj),e,Int.toNat_natCast,h1,hs];exact⟨rfl,h2,h3⟩
 . obtain⟨p,e,hp⟩:=par_bd (k:=k) hc hj
   obtain⟨h1,h2,h3⟩:=hv p hp;have hs:Tu.gB (Tu.selB (Tu.wrd x) (Tu.parI k code)) j=Tu.gB (outW (Tu.inC x code)) j:=by rw [Tu.sel_par hx hc];rfl
   have hw:Tu.gB (Tu.selB (Tu.wrd x) (Tu.parI k code)) j=Tu.gB (Tu.wrd x) p:=by
    unfold Tu.selB Tu.gB;rw [List.getD_eq_getElem?_getD,List.getElem?_map,List.getElem?_eq_getElem (by rw [par_len];exact hj),<- gi_eq _ _ (by rw [par_len];exact hj),e];simp [List.getD]
   rw [hw]at hs;show gi (pk vs _) j=_/\_;rw [gi_pk (by rw [par_len];exact hj),e,Int.toNat_natCast,h1,hs];exact⟨rfl,h2,h3⟩
theorem mix_get{x:List Bool}(hx:x.length=k){j:Nat}(hj:j<k):(Tu.mixB x).getD j false=x.getD (Tu.piN k j) false:=by
 subst hx;unfold Tu.mixB;simp [List.getD,hj]
theorem clean_two{x:List Bool}{vs:List Int}{m:Nat->Int}(hx:x.length=k)(hv:Sgn vs k x m):decN vs k 0=x.map ib/\decN vs k 1=x.map ib:=by
 have r1:=ob_rgt hk hx (.inl rfl) hv (a:=List.replicate k 0) (List.length_replicate ..) (fun j hj=>by rw [gi_zero];omega);obtain⟨d1,l1,e1⟩:=clean_plain r1;have ha:∀ j,j<k->gi (apN vs k 1) j=gi (obH vs k 1 (List.replicate k 0)).dE (Tu.piN k j):=fun j hj=>by
  show gi (pk _ (Tu.ordL k)) j=_;rw [gi_pk (by rw [Tu.ordL_len];exact hj)];congr 1;rw [gi_eq _ _ (by rw [Tu.ordL_len];exact hj)];simp [Tu.ordL]
 have hal:(apN vs k 1).length=k:=by show(pk _ (Tu.ordL k)).length=k;rw [pk_len,Tu.ordL_len]
 have r2:=ob_rgt hk hx (.inr rfl) hv (a:=apN vs k 1) hal (fun j hj=>by
  rw [ha j hj];show 0<=_*(1 - 2*(bq ((Tu.mixB x).getD j false):Int))/\_;rw [mix_get hk hx hj]
  exact e1 _ ((Tu.perm_map hk).1 j hj))
 obtain⟨d2,-,-⟩:=clean_plain r2;refine⟨d1,?_⟩;show pk (obH vs k 2 (apN vs k 1)).dB (Tu.invL k)=_;rw [d2];have il:(Tu.invL k).length=k:=Tu.invT_len k k;refine ext_gi (by rw [pk_len,il];simp [hx]) fun i hi=>?_;have hi:i<k:=by rw [pk_len,il]at hi;exact hi
 obtain⟨j,hj,e2,e3⟩:=pi_inv hk i hi;rw [gi_pk (by rw [il];exact hi),e3,Int.toNat_natCast];show gi ((Tu.mixB x).map ib) j=_;rw [gi_ib _ _ (by rw [Tu.mixB_len,hx];exact hj),gi_ib _ _ (by rw [hx];exact hi)];have:=mix_get hk hx hj;rw [e2]at this;simp only [List.getD_eq_getElem?_getD]at this;rw [List.getElem?_eq_getElem (by rw [Tu.mixB_len,hx];exact hj),List.getElem?_eq_getElem (by rw [hx];exact hi)]at this;simp only [Option.getD_some]at this;rw [this]
end
end Go.Proofs.YthmhogdceolkdaaGreat