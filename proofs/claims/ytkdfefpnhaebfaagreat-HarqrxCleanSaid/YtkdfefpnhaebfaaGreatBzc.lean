/- Bundle. Conditions: none. -/
import Derived.Test.YtkdfefpnhaebfaaGreatBzb
set_option linter.unusedVariables false
set_option linter.unusedSimpArgs false
set_option linter.unusedSectionVars false
namespace Go.Proofs.YtkdfefpnhaebfaaGreat
open Go.RowKit
set_option linter.unusedSectionVars false
def nU(s:Nat):Nat:=3*(kS s+4) - 2*fS s
theorem ks_nat{s:Nat}(h1:1≤s)(h2:s≤472):kS s=Cr.lo (s+24)∧fS s=Cr.fi (s+24)∧s+24+fS s=kS s∧fS s<kS s∧40≤kS s∧kS s≤496:=by
 have h:=kS_bd (s:=(s:Int)) (by omega) (by omega)
 obtain⟨e1,e2,e3,e4,e5,e6,e7⟩:=one_lay (b:=s+24) (by omega) (by omega)
 have k:kS s=Cr.lo (s+24):=by unfold kS;rw [Int.toNat_natCast]
 have f:fS s=Cr.fi (s+24):=by unfold fS;rw [Int.toNat_natCast]
 exact⟨k,f,by rw [k,f];exact e4,h.2.2,h.1,h.2.1⟩
theorem zb_full{s:Nat}(h1:1≤s)(h2:s≤472):Cr.szB (kS s) 1048576=3*Cr.nB (kS s)∧b1 s 1048576=Cr.bufL (kS s) (fS s):=by
 obtain⟨k,f,-,-,h5,h6⟩:=ks_nat h1 h2
 have hn:=Cr.nB_le (k:=kS s) (by omega)
 have e:Cr.szB (kS s) 1048576=3*Cr.nB (kS s):=by
  unfold Cr.szB
  rw [if_neg (by omega)]
 refine⟨e,?_⟩
 unfold b1
 rw [Int.toNat_natCast,← k,← f,e,List.take_of_length_le (by unfold Cr.bufL;rw [Cr.bufT_len];exact Nat.le_refl _)]
theorem us_full{s:Nat}(h1:1≤s)(h2:s≤472):Cr.usC (b1 s 1048576)≠0:=by
 obtain⟨k,f,-,h4,h5,h6⟩:=ks_nat h1 h2
 rw [(zb_full h1 h2).2,Cr.usC_ne]
 obtain⟨x,hx,he⟩:=vX_on (k:=kS s) (f:=fS s) (p:=fS s) h4 (by omega) (by unfold isF;omega)
 exact⟨x,by unfold Cr.bufL;rw [Cr.bufT_len];exact hx,by unfold Cr.bufL;rw [Cr.bufT_gi _ _ _ _ hx,he];omega⟩
theorem sl_lap{s:Nat}(h1:1≤s)(h2:s≤472)(rv:Nat):(slP s 1048576 rv (nU s)).length=nU s∧(slP s 1048576 rv (nU s)).Pairwise (· ≠ ·)∧∀ x,x ∈ slP s 1048576 rv (nU s)↔x ∈ posU (kS s) (fS s):=by
 obtain⟨k,f,-,h4,h5,h6⟩:=ks_nat h1 h2
 obtain⟨z1,z2⟩:=zb_full h1 h2
 have hl:=lap (k:=kS s) (f:=fS s) (st:=Cr.stS (kS s) (3*Cr.nB (kS s)) rv) h4
 have e:slP s 1048576 rv (nU s)=Cr.selL (Cr.bufL (kS s) (fS s)) (Cr.stS (kS s) (3*Cr.nB (kS s)) rv) (3*Cr.nB (kS s)) (3*Cr.nB (kS s)):=by
  unfold slP
  rw [z1,z2]
  exact(Cr.pick_of (by unfold Cr.bufL;rw [Cr.bufT_len]) (.inr (by rw [← z2];exact us_full h1 h2)) hl.1).symm
 rw [e]
 exact hl
theorem nodup_gi{l:List Int}(h:l.Pairwise (· ≠ ·)){i j:Nat}(hi:i<l.length)(hj:j<l.length)(e:gi l i=gi l j):i=j:=by
 rw [List.pairwise_iff_getElem]at h
 rw [gi_eq l i hi,gi_eq l j hj]at e
 rcases Nat.lt_trichotomy i j with h1 | h1 | h1
 · exact absurd e (h i j hi hj h1)
 · exact h1
 · exact absurd e.symm (h j i hj hi h1)
theorem cmb_off{ps l vs:List Int}{N q:Nat}(hl:vs.length=N)(hq:q<N):∀ t,(∀ j,j<t→(gi ps j).toNat≠q)→gi (cmbL ps l vs t) q=gi vs q
 | 0,_=>rfl
 | t+1,h=>by
   have ih:=cmb_off hl hq (ps:=ps) (l:=l) t (fun j hj=>h j (by omega))
   show gi (List.set _ _ _) q=_
   rw [gi_set' _ _ _ _ (by rw [cmbL_len,hl];exact hq),if_neg (h t (by omega)),ih]
theorem cmb_at{ps l vs:List Int}{N q j:Nat}(hl:vs.length=N)(hq:q<N)(he:(gi ps j).toNat=q):∀ t,j<t→(∀ i,i<t→i≠j→(gi ps i).toNat≠q)→gi (cmbL ps l vs t) q=addI (gi vs q) (gi l j)
 | t+1,ht,h=>by
   show gi (List.set _ _ _) q=_
   rw [gi_set' _ _ _ _ (by rw [cmbL_len,hl];exact hq)]
   rcases Nat.lt_succ_iff_lt_or_eq.1 ht with h1 | rfl
   · rw [if_neg (h t (by omega) (by omega))]
     exact cmb_at hl hq he t h1 (fun i hi=>h i (by omega))
   · rw [if_pos he,he,cmb_off hl hq j (fun i hi=>h i (by omega) (by omega))]
theorem stp_zero:∀ l:List Bool,(∀ b ∈ l,b=false)→l.foldl stp s0=s0
 | [],_=>rfl
 | b :: l,h=>by
   have hb:=h b (List.mem_cons_self ..)
   subst hb
   show l.foldl stp (stp s0 false)=s0
   rw [show stp s0 false=s0 by decide]
   exact stp_zero l (fun b hb=>h b (List.mem_cons_of_mem _ hb))
theorem par_zero{x:List Bool}{f q:Nat}(hf:f≤x.length)(hz:∀ i,i<f→Tu.gB x i=false)(hq:q<f):Tu.gB (parL s0 x) q=false:=by
 unfold Tu.gB at *
 rw [parL_get x s0 q (by omega),hz q hq,stp_zero _ (fun b hb=>?_)]
 · decide
 · obtain⟨i,hi,rfl⟩:=List.getElem_of_mem hb
   have hi2:i<q:=by rw [List.length_take]at hi;omega
   have:=hz i (by omega)
   rw [List.getElem_take]
   simpa [List.getD,show i<x.length by omega] using this
theorem wrd_fill{x:List Bool}{k f q:Nat}(hx:x.length=k)(hf:f<k)(hz:∀ i,i<f→Tu.gB x i=false)(hq:isF k f q):Tu.gB (Tu.wrd x) q=false:=by
 rcases hq with h | ⟨h1,h2⟩
 · rw [Tu.wg0 hx (by omega)];exact hz q h
 · rw [Tu.wg2 hx (j:=q - (k+4)) (by omega) (by omega)]
   exact par_zero (by omega) hz (by omega)
theorem bq0:((bq false:Nat):Int)=0:=rfl
theorem bq1:((bq true:Nat):Int)=1:=rfl
theorem clean2{s rv half:Nat}{mg:Int}{x:List Bool}(h1:1≤s)(h2:s≤472)(hx:x.length=kS s)(hz:∀ q,q<fS s→Tu.gB x q=false)(hm:1≤mg∧mg≤127)(hh:1≤half∧half≤64)(a b:Nat)(ys:List Int)
 (hy:∀ j,j<nU s→gi ys j=(if j=a∨j=b then -1 else 1)*idI mg (gi ((Tu.wrd x).map ib) (gi (slP s 1048576 rv (nU s)) j).toNat)) (hc:Cr.chkErr 1 (x.map ib)=0) :
 bZ (half:Int) (zI s 1048576) rv (nU s) ys=some (x.map ib):=by
 obtain⟨k,f,hsk,h4,h5,h6⟩:=ks_nat h1 h2
 obtain⟨r,hr⟩:=kS_szK (s:=(s:Int)) (by omega) (by omega)
 obtain⟨l1,l2,l3⟩:=sl_lap h1 h2 rv
 have hlen:(frL (kS s) (fS s)).length=3*(kS s+4):=by simp [frL]
 generalize hK:kS s=K at *
 generalize hF:fS s=F at *
 have hn:nU s=3*(K+4) - 2*F:=by unfold nU;rw [hK,hF]
 generalize nU s=n at *
 generalize hps:slP s 1048576 rv n=ps at *
 have hpos:∀ j,j<n→∃ p:Nat,gi ps j=(p:Int)∧p<3*(K+4)∧¬ isF K F p:=fun j hj=>(posU_mem h4).1 ((l3 _).1 (gi_mem ps j (by omega)))
 have hvl:(cmbL ps ys (frL K F) n).length=3*(K+4):=by rw [cmbL_len,hlen]
 have hfr:∀ q,q<3*(K+4)→gi (frL K F) q=if q<F∨(K+4≤q∧q<K+4+F) then 127 else 0:=fun q hq=>by
  unfold frL
  rw [gi_range _ hq]
  rfl
 have hfill:∀ q,q<3*(K+4)→isF K F q→gi (cmbL ps ys (frL K F) n) q=127∧Tu.gB (Tu.wrd x) q=false:=fun q hq hf=>by
  refine⟨?_,wrd_fill hx h4 hz hf⟩
  rw [cmb_off hlen hq n (fun j hj e=>?_),hfr q hq,if_pos (show q<F∨(K+4≤q∧q<K+4+F) from hf)]
  obtain⟨p,e1,-,e3⟩:=hpos j hj
  rw [e1,Int.toNat_natCast]at e
  exact e3 (e ▸ hf)
 have hat:∀ q,q<3*(K+4)→¬ isF K F q→∃ j,j<n∧gi ps j=(q:Int)∧gi (cmbL ps ys (frL K F) n) q=(if j=a∨j=b then -1 else 1)*idI mg (bq (Tu.gB (Tu.wrd x) q)):=fun q hq hf=>by
  obtain⟨j,hj,e⟩:=List.getElem_of_mem ((l3 (q:Int)).2 ((posU_mem h4).2 ⟨q,rfl,hq,hf⟩))
  have hjn:j<n:=by omega
  have e2:gi ps j=(q:Int):=by rw [gi_eq ps j hj];exact e
  refine⟨j,hjn,e2,?_⟩
  rw [cmb_at hlen hq (j:=j) (by rw [e2,Int.toNat_natCast]) n hjn (fun i hi hne e3=>?_),hfr q hq,if_neg (show ¬ (q<F∨(K+4≤q∧q<K+4+F)) from hf),hy j hjn,e2,Int.toNat_natCast,gi_ibs _ _ (by rw [Tu.wrd_len,hx];exact hq)]
  · generalize Tu.gB (Tu.wrd x) q=c
    have hbd:-127≤(if j=a∨j=b then(-1:Int) else 1)*idI mg (bq c)∧(if j=a∨j=b then(-1:Int) else 1)*idI mg (bq c)≤127:=by
     unfold idI
     cases c<;>simp only [bq0,bq1]<;>split<;>omega
    unfold addI
    rw [clI_in hbd,show clI 0=0 from rfl,Int.zero_add,clI_in hbd]
  · obtain⟨p,e4,-,-⟩:=hpos i hi
    rw [e4,Int.toNat_natCast]at e3
    exact hne (nodup_gi l2 (by omega) hj (by rw [e4,e2,e3]))
 have hg:∀ q,q<3*(K+4)→-mg≤gi (cmbL ps ys (frL K F) n) q*(1 - 2*(bq (Tu.gB (Tu.wrd x) q):Int))∧gi (cmbL ps ys (frL K F) n) q*(1 - 2*(bq (Tu.gB (Tu.wrd x) q):Int))≤127∧(q≠(gi ps a).toNat→q≠(gi ps b).toNat→mg≤gi (cmbL ps ys (frL K F) n) q*(1 - 2*(bq (Tu.gB (Tu.wrd x) q):Int))):=fun q hq=>by
  by_cases hf:isF K F q
  · obtain⟨e1,e2⟩:=hfill q hq hf
    rw [e1,e2,bq0]
    omega
  · obtain⟨j,hj,e1,e2⟩:=hat q hq hf
    rw [e2]
    generalize Tu.gB (Tu.wrd x) q=c
    unfold idI
    by_cases hab:j=a∨j=b
    · rw [if_pos hab]
      refine⟨?_,?_,fun n1 n2=>?_⟩
      · cases c<;>simp only [bq0,bq1]<;>omega
      · cases c<;>simp only [bq0,bq1]<;>omega
      · rcases hab with rfl | rfl
        · exact absurd (by rw [e1,Int.toNat_natCast]) n1
        · exact absurd (by rw [e1,Int.toNat_natCast]) n2
    · rw [if_neg hab]
      cases c<;>simp only [bq0,bq1]<;>omega
 have hv:∀ q,gi (cmbL ps ys (frL K F) n) q=gi (cmbL ps ys (frL K F) n) q*(1 - 2*(bq (Tu.gB (Tu.wrd x) q):Int))*(1 - 2*(bq (Tu.gB (Tu.wrd x) q):Int)):=fun q=>by
  cases Tu.gB (Tu.wrd x) q<;>simp [bq]
 have hd:=holdg_one hr hm hx (gi ps a).toNat (gi ps b).toNat _ hg (fun q _=>hv q)
 have hsoft:∀ q,q<3*(K+4)→(-127≤gi (cmbL ps ys (frL K F) n) q∧gi (cmbL ps ys (frL K F) n) q≤127)∧gi (cmbL ps ys (frL K F) n) q≠0:=fun q hq=>by
  by_cases hf:isF K F q
  · rw [(hfill q hq hf).1];omega
  · obtain⟨j,hj,e1,e2⟩:=hat q hq hf
    rw [e2]
    generalize Tu.gB (Tu.wrd x) q=c
    unfold idI
    cases c<;>simp only [bq0,bq1]<;>split<;>omega
 obtain⟨hE,hko⟩:=wr_ok (K:=1) (most:=(half:Int)) hr hvl (fun q hq=>(hsoft q hq).1) (by omega) (by omega)
 have hf:fdN (cmbL ps ys (frL K F) n) 1 ((half:Nat):Int)=some 0:=fd_of hko (by omega) (by unfold okN;rw [if_neg (by omega),hd,hc];rfl) (fun q hq=>by omega)
 obtain⟨i1,i2,i3⟩:=it_of hko hE hf
 unfold bZ vsZ zI
 dsimp only
 rw [hK,hF,hps]
 unfold dcB
 dsimp only
 rw [knC_all _ (fun q hq=>(hsoft q hq).2),if_neg (by omega),if_pos i1,i3,hd]
/-! ### the code block of a transport block -/
def wL(xs:List Int):List Int:=List.replicate (fS (xs.length:Nat)) 0 ++ (xs ++ Cr.crcSum 1 xs)
section
variable {xs : List Int} (hb : Cr.Bit xs) (h1 : 1 ≤ xs.length) (h2 : xs.length ≤ 472)
include hb h1 h2
theorem wL_len:(wL xs).length=kS (xs.length:Nat):=by
 have:=ks_nat h1 h2
 unfold wL
 rw [List.length_append,List.length_append,List.length_replicate,Cr.crcSum_len]
 have e:Cr.sLen 1=24:=rfl
 omega
theorem wL_bit:Cr.Bit (wL xs):=Cr.bit_app (Cr.bit_zeros _) (Cr.bit_app hb (Cr.bit_sum (by decide) hb))
theorem wL_chk:Cr.chkErr 1 (wL xs)=0:=by
 have e:Cr.sLen 1=24:=rfl
 have hl:(Cr.crcSum 1 xs).length=24:=Cr.crcSum_len 1 xs
 have hL:(wL xs).length - 24=(List.replicate (fS (xs.length:Nat)) (0:Int) ++ xs).length:=by
  unfold wL
  simp only [List.length_append,List.length_replicate,hl]
  omega
 have hA:wL xs=(List.replicate (fS (xs.length:Nat)) 0 ++ xs) ++ Cr.crcSum 1 xs:=by unfold wL;rw [List.append_assoc]
 unfold Cr.chkErr
 rw [if_neg (by decide),if_pos (Cr.bit_valid (wL_bit hb h1 h2)),if_neg (by rw [e,hA,List.length_append,hl];omega),e,hL,hA,List.take_left,List.drop_left,if_pos (Cr.leading (by decide) hb _)]
theorem wL_seg:Cr.segs (xs.length+24) (List.replicate (Cr.fi (xs.length+24)) 0 ++ (xs ++ Cr.crcSum 1 xs)) 1=[wL xs]:=by
 have hk:=ks_nat h1 h2
 have hl:=wL_len hb h1 h2
 obtain⟨z1,z2⟩:=sz_one (b:=xs.length+24) (by omega) (by omega)
 unfold Cr.segs
 rw [show List.range 1=[0] from rfl,List.map_cons,List.map_nil,z1]
 unfold Cr.segB Cr.ck
 rw [if_pos (by omega),if_pos (by omega),← hk.2.1]
 show [((wL xs).drop 0).take _]=_
 rw [List.drop_zero,List.take_of_length_le (by rw [hl,hk.1];exact Nat.le_refl _)]
theorem wL_te:tE1 (xs.length:Nat) (wL xs)=0∧tR1 (xs.length:Nat) (wL xs)=xs:=by
 have hk:=ks_nat h1 h2
 have hl:=wL_len hb h1 h2
 have hbC:Cr.bC (xs.length+24)=1:=Cr.bC_one (by omega)
 have hSG:Cr.SG (xs.length+24) (List.replicate (Cr.fi (xs.length+24)) 0 ++ (xs ++ Cr.crcSum 1 xs)) [⟨none,(wL xs).length,0,wL xs⟩]:=by
  refine⟨?_,?_,by omega,?_,?_⟩
  · rw [hbC,wL_seg hb h1 h2];rfl
  · intro t ht
    rw [List.mem_singleton]at ht
    rw [ht]
  · rw [Cr.off_all (by omega),← hk.2.1]
    show(wL xs).length=_
    rw [hl]
    omega
  · have:=wL_bit hb h1 h2
    unfold wL at this
    rw [hk.2.1]at this
    exact this
 obtain⟨j1,j2⟩:=Cr.SG.ok hSG (by rw [List.take_append_of_le_length (by simp),List.take_of_length_le (by simp)])
 have hd:(List.replicate (Cr.fi (xs.length+24)) (0:Int) ++ (xs ++ Cr.crcSum 1 xs)).drop (Cr.fi (xs.length+24))=xs ++ Cr.crcSum 1 xs:=by
  have:=List.drop_left (l₁:=List.replicate (Cr.fi (xs.length+24)) (0:Int)) (l₂:=xs ++ Cr.crcSum 1 xs)
  rw [List.length_replicate]at this
  exact this
 rw [hd]at j2
 have e24:((xs.length:Int)+24).toNat=xs.length+24:=by omega
 have q1:Cr.jE ((xs.length:Int)+24) [⟨none,(wL xs).length,0,wL xs⟩]=0:=by
  unfold Cr.jE
  rw [if_neg (by omega),e24]
  exact j1
 have q2:Cr.jR ((xs.length:Int)+24) [⟨none,(wL xs).length,0,wL xs⟩]=xs ++ Cr.crcSum 1 xs:=by
  unfold Cr.jR
  rw [if_neg (by omega),e24]
  exact j2
 obtain⟨b1,b2⟩:=Cr.back (k:=1) (by decide) hb
 unfold tE1 tR1 Cr.tE Cr.tR
 have n1:¬ (((xs.length:Nat):Int)<1∨79536<((xs.length:Nat):Int)):=by omega
 rw [if_neg n1,if_neg n1]
 rw [if_pos q1,if_pos q1,q2]
 exact⟨b1,b2⟩
theorem wL_bool:(Tu.toB (wL xs)).map ib=wL xs:=by
 have hy:=wL_bit hb h1 h2
 refine Tu.toB_ib _ (fun y h=>?_) (Cr.bit_valid hy)
 rcases hy y h with h | h<;>omega
theorem wL_enc:Tu.encW (wL xs)=(Tu.wrd (Tu.toB (wL xs))).map ib:=by
 obtain⟨r,hr⟩:=kS_szK (s:=((xs.length:Nat):Int)) (by omega) (by omega)
 have hvb:ValidB (wL xs)=true:=Cr.bit_valid (wL_bit hb h1 h2)
 unfold Tu.encW
 rw [if_pos (by rw [wL_len hb h1 h2,hr];exact Tu.szK_valid r),if_pos hvb]
 rfl
theorem wL_fill(q:Nat)(hq:q<fS (xs.length:Nat)):Tu.gB (Tu.toB (wL xs)) q=false:=by
 have h:gi (wL xs) q=0:=by
  unfold wL gi
  rw [List.getD_eq_getElem?_getD,List.getElem?_append_left (by simpa using hq),List.getElem?_replicate,if_pos hq]
  rfl
 unfold Tu.gB Tu.toB
 have hl:q<(wL xs).length:=by rw [wL_len hb h1 h2];have:=ks_nat h1 h2;omega
 rw [List.getD_eq_getElem?_getD,List.getElem?_map,List.getElem?_eq_getElem hl,← gi_eq _ _ hl,h]
 rfl
theorem ex_lap(g rv:Nat)(hg:2*g=nU xs.length):Cr.exE (xs.length+24) 1048576 1 g 2 xs=0∧Cr.exD (xs.length+24) 1048576 1 g 2 rv xs=(slP (xs.length:Nat) 1048576 rv (nU xs.length)).map fun p=>gi ((Tu.wrd (Tu.toB (wL xs))).map ib) p.toNat:=by
 have hk:=ks_nat h1 h2
 have hE:Cr.bE xs=0:=by
  unfold Cr.bE
  rw [if_neg (by omega),if_pos (Cr.bit_valid hb)]
 have hY:Cr.Byt xs:=fun y hy=>by rcases hb y hy with h | h<;>omega
 obtain⟨d1,-,-⟩:=Cr.bD_eq hE hY
 obtain⟨z1,z2⟩:=sz_one (b:=xs.length+24) (by omega) (by omega)
 have hbf:Cr.bfE (xs.length+24) 1048576 0=b1 (xs.length:Nat) 1048576:=by
  unfold Cr.bfE b1
  rw [z1,z2,Int.toNat_natCast]
 have hno:∀ q,q<1→¬ Cr.bad49 (xs.length+24) 1048576 1 g 2 q:=fun q hq h=>by
  have e0:q=0:=by omega
  subst e0
  have h3:=h.1
  rw [Cr.uS_bfE,hbf]at h3
  exact us_full h1 h2 h3
 obtain⟨e1,e2⟩:=Cr.ex_ok (rv:=rv) hE hno
 refine⟨e1,?_⟩
 have hsh:Cr.shN 1 g 2 0=nU xs.length:=by
  unfold Cr.shN
  rw [Nat.mod_one,if_pos (by omega),Nat.div_one]
  omega
 rw [e2,show List.range 1=[0] from rfl,List.flatMap_cons,List.flatMap_nil,List.append_nil]
 unfold Cr.rowX Cr.rowE
 rw [d1,Cr.bC_one (by omega),wL_seg hb h1 h2,hsh,hbf,z1,← hk.1]
 show(Cr.pick _ _ _ _).map (fun p=>gi (Tu.encW (wL xs)) p.toNat)=_
 rw [wL_enc hb h1 h2]
 rfl
end
end Go.Proofs.YtkdfefpnhaebfaaGreat
namespace Go.Proofs.YtkdfefpnhaebfaaGreat
set_option maxRecDepth 100000
set_option maxHeartbeats 1000000
open Go.RowKit
attribute [local go_sem] Oper.semAt_some
theorem mapped_own(p1 p2:Value)(g:Nat→Int)(n:Nat)(w:World)(hn:n≤1000000)
 (hcl:∀ j:Nat,j<n→∀ wr,Below w.heap.size w wr→Calls Tryz.prog 39 #[.int .i64 (j:Int),p1,p2] wr fun e w'=>e= .returned (.int .i64 (g j))∧Below wr.heap.size wr w') :
 Calls Tryz.prog 38 #[.int .i64 0,.int .i64 (n:Int),.func (.func 39) #[] #[p1,p2]] w fun e w'=>∃ R,e= .returned (.tuple #[.slice R n n,.int .i64 0])∧∃ c,Own .i64 3 w' w.heap.size R n c ((List.range n).map g)∧Below w.heap.size w w':=by
 have HC:=Lib.hid hcl
 clear hcl
 go_enter Tryz.func38,Tryz.ntmps38
 go_wp2_with fail
 go_step3
 go_wp2_with fail
 go_loopw [8,13] (fun b i wr=>MpI w n g b i wr) (fun _ i _=>n - (intOf i).toNat)
 case atStart=>exact⟨0,none,0,Nat.zero_le _,rfl,rfl,Own.nilv _ _ _ _,Below.refl _ _⟩
 case round =>
  obtain⟨j,R,c,hj,rfl,rfl,hO,hB⟩:=hrel
  have HO:=Lib.hid hO
  have HB:=Lib.hid hB
  by_cases hlt:j<n
  · have HX:=Lib.hid (HC.out j hlt wr hB)
    clear hO hB
    go_wp2_with fail
    refine HX.out.mono ?_
    rintro e w1 ⟨rfl,hB1⟩
    have HO1:=Lib.hid (Ownv.below HO.out hB1)
    have HB1:=Lib.hid (HB.out.trans (hB1.mono HB.out.size))
    clear hB1
    obtain⟨v,hv⟩:∃ v,v=g j:=⟨_,rfl⟩
    rw [← hv]
    have HV:=Lib.hid hv
    clear hv
    go_wp2_with (at_builtin
                 refine list_of rfl fun K hK=>wp_app1 (w:=w1) (base:=w.heap.size) _ _ 39 rfl el22 rfl (.int .i64 v) rfl rfl HO1.out (by omega) (by omega) HB1.out.size ?_
                 intro A2 c2 w2 h1 h2
                 have HO2:=Lib.hid h1
                 have HG2:=Lib.hid h2
                 clear h1 h2
                 refine hK _ _ ?_
                 clear hK K)
    go_roundw
    case rel=>exact⟨j+1,A2,c2,by omega,by go_num,rfl,Own.of_eq HO2.out rfl (by rw [List.range_succ,List.map_append,List.map_append,HV.out];rfl),HB1.out.grown HG2.out HB1.out.size (fun k hk=>Ownv.ob' HO1.out hk)⟩
    case measure=>simp [intOf];omega
  · obtain rfl:n=j:=by omega
    have hsl:=fun W=>Rdv.slhm (Own.rd hO) el22 .i64 .i64 (Rdv.le (Own.rd hO)) W
    clear hO hB
    go_wp2
    rw [Exit.noGoto_ret]
    go_ret2
    exact⟨R,rfl,c,HO.out,HB.out⟩
theorem ideal_own(A:Option Addr)(n c:Nat)(bits:List Int)(m:Int)(w:World)(hr:Rd .u8 w A n c bits)(hv:Cr.ValidB bits=true)(h0:∀ x ∈ bits,0≤x)(hm:0≤m∧m≤127)(hn:n≤200000) :
 Calls Tryz.prog 14 #[.slice A n c,.int .i64 m] w fun e w'=>∃ R,e= .returned (.tuple #[.slice R n n,.int .i64 0])∧∃ c,Own .i64 3 w' w.heap.size R n c (idL m bits)∧Below w.heap.size w w':=by
 obtain⟨W0,hW0⟩:∃ W0,W0=(w.alloc (.cells #[.slice A n c] 28)).alloc (.cells #[.int .i64 m] 3):=⟨_,rfl⟩
 have hb0:Below w.heap.size w W0:=by rw [hW0];exact((Below.refl _ w).alloc (Nat.le_refl _) _).alloc (by simp) _
 have xB:Blk W0 w.heap.size 28 [.slice A n c]:=by rw [hW0];exact(Blk.new w [.slice A n c] _ rfl).alloc _
 have xM:Blk W0 (w.heap.size+1) 3 [.int .i64 m]:=by rw [hW0];exact Blk.new (w.alloc _) [.int .i64 m] 3 (by simp)
 have HR0:=Lib.hid (Rdv.below hr hb0)
 have HW0:=Lib.hid hW0
 have HXB:=Lib.hid xB
 have HXM:=Lib.hid xM
 have HB0:=Lib.hid hb0
 have HV:=Lib.hid hv
 have HBT:=Lib.hid (fun i (hi:i<n)=>show gi bits i=0∨gi bits i=1 from by
  have hl:=Rd.len hr
  have hmem:=gi_mem bits i (by omega)
  have ha:=h0 _ hmem
  have hb:=(List.all_eq_true.1 hv) _ hmem
  simp at hb
  omega)
 have HLN:=Lib.hid (Rd.len hr)
 have d0:decide (m ≥ 0)=true:=by simp;omega
 have d1:decide (m≤127)=true:=by simp;omega
 have HM:=Lib.hid hm
 clear hb0 xB xM hr hv h0 hm
 go_enter Tryz.func14,Tryz.ntmps14
 go_wp2_with fail
 rw [← HW0.out]
 obtain⟨BB,hBB⟩:∃ BB,BB=w.heap.size:=⟨_,rfl⟩
 obtain⟨MB,hMB⟩:∃ MB,MB=w.heap.size+1:=⟨_,rfl⟩
 rw [← hMB]at HXM ⊢
 rw [← hBB]at HXB ⊢
 have HBB:=Lib.hid hBB
 clear hBB hMB HW0 hW0
 have HS:Hid (W0.drew.cell? ⟨MB,0,none⟩=some (.int .i64 m)∧W0.drew.cell? ⟨BB,0,none⟩=some (.slice A n c)):=Lib.hid ⟨HXM.out.cell (j:=0) rfl,HXB.out.cell (j:=0) rfl⟩
 have HBI:=Lib.hid (Cr.sbinary_any A n c bits W0.drew (Rdv.drew HR0.out))
 rw [if_pos HV.out]at HBI
 have HF1:=Lib.hid (first2_any (some ⟨W0.heap.size,0,none⟩) 2 0 0 (W0.drew.alloc (.cells #[.int .i64 0,.int .i64 0] 24)) ((Ownv.lit (base:=0) W0.drew #[.int .i64 0,.int .i64 0] 24 rfl (Nat.zero_le _) (by show 2≤maxLen;unfold maxLen;omega)).rd))
 rw [if_pos rfl]at HF1
 refine Q_start (fun W9=>W9.cell? ⟨MB,0,none⟩=some (.int .i64 m)∧W9.cell? ⟨BB,0,none⟩=some (.slice A n c)) 8 12 ?_
 refine Q_T 0 7 1 (.int .i64 m) [6,5,2,1] rfl HS.out (.inl ⟨by rfl,fun W hS=>by obtain⟨s0,s1⟩:=hS;go_simp⟩) ?_
 simp only [z0,z1,z2]
 refine Q_W 1 8 3 (.bool true) rfl HS.out ?_
 simp only [z0,z1,z2]
 refine Q_W 2 9 7 (.bool true) rfl HS.out ?_
 simp only [z0,z1,z2]
 refine Q_T 3 10 15 (.int .i64 m) [6,5,4] rfl HS.out (.inl ⟨by rfl,fun W hS=>by obtain⟨s0,s1⟩:=hS;go_simp⟩) ?_
 simp only [z0,z1,z2]
 refine Q_W 4 11 31 (.bool true) rfl HS.out ?_
 simp only [z0,z1,z2]
 refine Q_W 5 12 63 (.bool true) rfl HS.out ?_
 simp only [z0,z1,z2]
 refine Q_T 7 14 191 (.slice A n c) [] rfl HS.out (.inl ⟨by rfl,fun W hS=>by obtain⟨s0,s1⟩:=hS;go_simp⟩) ?_
 simp only [z0,z1,z2]
 refine Q_1S 6 255 rfl (fun K hK=>?_)
 go_simp
 refine(sarg_any true _).mono ?_
 rintro e w1 ⟨rfl,rfl⟩
 refine hK _ _ HS.out ?_
 clear hK K
 refine Q_1 8 511 rfl (fun K hK=>?_)
 go_simp
 refine HBI.out.mono ?_
 rintro e w1 ⟨rfl,rfl⟩
 refine hK _ _ ?_
 clear hK K
 refine Q_1 9 1023 rfl (fun K hK=>?_)
 go_simp
 refine hK _ _ ?_
 clear hK K
 refine Q_1 10 2047 rfl (fun K hK=>?_)
 go_simp
 refine HF1.out.mono ?_
 rintro e w1 ⟨rfl,rfl⟩
 refine hK _ _ ?_
 clear hK K
 refine Q_1 11 4095 rfl (fun K hK=>?_)
 go_simp
 refine hK _ _ ?_
 clear hK K
 refine Q_end ?_
 have HB1:Hid (Below W0.heap.size W0 (W0.alloc (.cells #[.int .i64 0,.int .i64 0] 24)).drew):=Lib.hid ((Below.refl _ W0).alloc (Nat.le_refl _) _).drew
 generalize (W0.alloc (.cells #[.int .i64 0,.int .i64 0] 24)).drew=W1 at *
 have HXB1:=Lib.hid (HXB.out.below HB1.out)
 have HXM1:=Lib.hid (HXM.out.below HB1.out)
 have HR1:=Lib.hid (Rdv.below HR0.out HB1.out)
 have cB:=HXB1.out.cell (j:=0) (v:=.slice A n c) rfl
 have HMP:=Lib.hid (mapped_own (.pointer (some ⟨MB,0,none⟩)) (.pointer (some ⟨BB,0,none⟩)) (fun j=>idI m (gi bits j)) n W1 (by omega) (fun j hj wr hB=>ideal1_any MB BB A n c bits m j wr (HXM1.out.below hB) (HXB1.out.below hB) (Rdv.below HR1.out hB) hj (HBT.out j hj) HM.out))
 have hmf:∀ (fn:Fn) (first cap:Array Value) (w:World),(Instr.makeFunc fn first cap).run Tryz.prog w= .ok (.func fn first cap) w:=fun _ _ _ _=>rfl
 clear d0 d1
 go_wp2_with fail
 refine HMP.out.mono ?_
 rintro e w3 ⟨R,rfl,cR,hR,hB⟩
 have HR:=Lib.hid hR
 have HB3:=Lib.hid hB
 clear hR hB
 go_wp2
 go_ret2
 have hB9:=HB0.out.trans ((HB1.out.trans (HB3.out.mono HB1.out.size)).mono HB0.out.size)
 have hE:idL m bits=(List.range n).map (fun j=>idI m (gi bits j)):=by
  rw [← HLN.out]
  refine ext_gi (by simp [idL]) fun i hi=>?_
  have hi2:i<bits.length:=by simpa [idL] using hi
  rw [gi_range _ hi2]
  unfold idL
  rw [gi_eq _ _ (by simpa using hi2),List.getElem_map,← gi_eq _ _ hi2]
 exact⟨R,rfl,cR,by rw [hE];exact Ownv.mono HR.out (Nat.le_trans HB0.out.size HB1.out.size),hB9⟩
end Go.Proofs.YtkdfefpnhaebfaaGreat
