/- Bundle. Conditions: none. -/
import Derived.Test.YtkdfefpnhaebfaaGreatBwobn
import Derived.Test.YtkdfefpnhaebfaaGreatBwobo
set_option linter.unusedVariables false
set_option linter.unusedSimpArgs false
namespace Go.Proofs.YtkdfefpnhaebfaaGreat
open Go.RowKit
attribute [local go_sem] Oper.semAt_some
set_option maxRecDepth 100000
set_option maxHeartbeats 8000000
def kS(s:Int):Nat:=Cr.lo (s.toNat+24)
def fS(s:Int):Nat:=Cr.fi (s.toNat+24)
def slP(s l:Int)(rv n:Nat):List Int:=Cr.pick (b1 s l) (Cr.stS (kS s) (Cr.szB (kS s) l) rv) (Cr.szB (kS s) l) n
structure Zs where
 st:Int
 sz:Int
 lm:Int
 vs:List Int
 cnt:Int
 b:Option (List Int)
def zI(s l:Int):Zs:=⟨1,s,l,frL (kS s) (fS s),0,none⟩
def vsZ(z:Zs)(rv n:Nat)(ys:List Int):List Int:=cmbL (slP z.sz z.lm rv n) ys z.vs n
noncomputable def bZ (half:Int) (z:Zs) (rv n:Nat) (ys:List Int):Option (List Int):=dcB (vsZ z rv n ys) (kS z.sz) (fS z.sz) half z.b
noncomputable def nxZ (half:Int) (z:Zs) (rv n:Nat) (ys:List Int):Zs:=⟨fnS 1 z.sz (bZ half z rv n ys),z.sz,z.lm,vsZ z rv n ys,z.cnt+n,fnB z.sz (bZ half z rv n ys)⟩
structure HzP (W:World) (base P:Nat) (half:Int) (z:Zs) (N:Nat) (F:List Nat):Prop where
 h:∃ G cap D V vc R r rc rest,F=[G,D,blk V]∧HqP W base P half z.st z.sz z.lm G cap D (kS z.sz) (fS z.sz) V vc z.vs z.cnt R r rc rest z.b
 s:1≤z.sz∧z.sz≤472
 l:1≤z.lm
 c:0≤z.cnt∧z.cnt≤(N:Int)
 t:z.st=1∨z.st=2
 b:∀ x,z.b=some x→x.length≤1000
def RcQ(w:World)(base P:Nat)(half:Int)(z:Zs)(rv n:Nat)(ys:List Int)(F:List Nat)(N:Nat)(e:Ending)(w':World):Prop :=
 ∃ A' n' c' F',e= .returned (.tuple #[.slice A' n' c',.int .i64 (fnK z.sz (bZ half z rv n ys)),.int .i64 0])∧Rd .u8 w' A' n' c' (fnO z.sz (bZ half z rv n ys))∧Below base w w'∧HzP w' base P half (nxZ half z rv n ys) (N+n) F' ∧
  (∀ q,q<w.heap.size→q≠P→q ∉ F→w'.heap[q]?=w.heap[q]?)∧(∀ x,x ∈ F'→x ∈ F∨w.heap.size≤x)
theorem rdv_heq{W W':World}{A:Option Addr}{n c:Nat}{vs:List Value}(h:Rdv W A n c vs)(hs:W.heap.size≤W'.heap.size)(hk:A≠none→blk A<W.heap.size→W'.heap[blk A]?=W.heap[blk A]?):Rdv W' A n c vs:=by
 refine⟨h.len,h.le,h.cm,h.nil,h.spot,fun hc a ha=>Nat.lt_of_lt_of_le (h.lt hc a ha) hs,fun j v hj=>?_⟩
 rw [← h.at_ j v hj]
 have hlt:j<n:=by rw [← h.len];exact(List.getElem?_eq_some_iff.1 hj).1
 have hle:=h.le
 obtain⟨b,o,rfl,hb'⟩:=h.ptr (by omega)
 exact World.cell?_of_block (hk (by simp) hb')
theorem dcB_len{vs:List Int}{k f:Nat}{half:Int}{b:Option (List Int)}(hv:vs.length≤1500)(hb:∀ x,b=some x→x.length≤1000):∀ x,dcB vs k f half b=some x→x.length≤1000:=by
 intro x hx
 unfold dcB at hx
 cases b with
 | some y=>exact hb x hx
 | none =>
   dsimp only at hx
   split at hx
   · cases hx
   · split at hx
     · rename_i h1 h2
       have h3:=it_lenK h2 hv
       have:=Option.some.inj hx
       rw [← this,h3.1]
       unfold kOf
       omega
     · cases hx
theorem fnB_len{sz:Int}{b:Option (List Int)}(hb:∀ x,b=some x→x.length≤1000):∀ x,fnB sz b=some x→x.length≤1000:=by
 intro x hx
 unfold fnB at hx
 cases b with
 | none=>cases hx
 | some y =>
   dsimp only at hx
   split at hx
   · exact hb x hx
   · cases hx
theorem fnS_cases(sz:Int)(b:Option (List Int)):fnS 1 sz b=1∨fnS 1 sz b=2:=by
 unfold fnS
 cases b with
 | none=>exact .inl rfl
 | some y =>
   dsimp only
   split
   · exact .inr rfl
   · exact .inl rfl
theorem btp_len{W:World}{R:Option Addr}{r rc:Nat}{b:Option (List Int)}(h:BtP W R r rc b)(hb:∀ x,b=some x→x.length≤1000):r≤100000:=by
 cases b with
 | none=>rw [h.2.1];omega
 | some x=>have h1:=hb x rfl;have h2:=Rd.len h.2.2;omega
theorem lo_small{b:Nat}(h1:1≤b)(h:b≤496):∃ u,Cr.lo b=40+8*u∧u≤57:=by
 unfold Cr.lo
 rw [Cr.av_one (by omega)]
 by_cases h2:b≤40
 · refine⟨0,?_,by omega⟩
   have e:Cr.ix b=0:=by unfold Cr.ix;rw [if_pos h2]
   unfold Cr.nx
   rw [e]
   rfl
 · have e:Cr.ix b=(b - 33) / 8:=by unfold Cr.ix;rw [if_neg h2,if_pos (by omega)]
   refine⟨(b - 33) / 8,?_,by omega⟩
   unfold Cr.nx Cr.SZ
   rw [e,if_pos (by omega)]
theorem kS_bd{s:Int}(h1:1≤s)(h2:s≤472):40≤kS s∧kS s≤496∧fS s<kS s:=by
 obtain⟨e1,e2,e3,e4,e5,e6,e7⟩:=one_lay (b:=s.toNat+24) (by omega) (by omega)
 obtain⟨u,hu,hu2⟩:=lo_small (b:=s.toNat+24) (by omega) (by omega)
 exact⟨e5,by unfold kS;omega,e7⟩
theorem b1_len{s l:Int}(hl:1≤l):Cr.szB (kS s) l=(b1 s l).length:=by
 have hzb:=Cr.szB_bd (kS s) hl
 unfold b1
 rw [List.length_take,show(Cr.bufL (Cr.lo (s.toNat+24)) (Cr.fi (s.toNat+24))).length=3*Cr.nB (kS s) from by unfold Cr.bufL;exact Cr.bufT_len _ _ _]
 unfold kS at hzb ⊢
 omega
theorem spE_zero{s bt md l rv:Int}{n:Nat}(h:spE s bt md l rv n=0):Cr.VC s bt md l rv=true∧(n:Int)=bt∧(n=0∨Cr.usC (b1 s l)≠0):=by
 unfold spE at h
 split at h
 · cases h
 · rename_i h1
   split at h
   · cases h
   · rename_i h2
     refine⟨?_,?_,by omega⟩
     · cases hv:Cr.VC s bt md l rv with
       | true=>rfl
       | false=>exact absurd (.inl hv) h1
     · apply Classical.byContradiction
       intro h3
       exact h1 (.inr h3)
theorem rcE_zero{st sz lm s bt md l rv:Int}{fresh:Bool}{ys:List Int}{n:Nat}(h:rcE st sz lm s bt md l rv fresh ys n=0):spE s bt md l rv n=0∧SoftB ys=true∧((fresh=true∨st=0)∨(s=sz∧l=lm)):=by
 unfold rcE at h
 split at h
 · cases h
 · rename_i h1
   split at h
   · cases h
   · rename_i h2
     refine⟨h,by simpa using (not_or.1 h1).2,?_⟩
     cases fresh with
     | true=>exact .inl (.inl rfl)
     | false =>
       by_cases hst:st=0
       · exact .inl (.inr hst)
       · by_cases h3:s=sz∧l=lm
         · exact .inr h3
         · exact absurd ⟨⟨rfl,hst⟩,Classical.or_iff_not_imp_left.2 (fun h4 h5=>h3 ⟨Classical.not_not.1 h4,h5⟩)⟩ h2
theorem recv_done{w:World}{base P:Nat}{half sz lm:Int}{A0:Option Addr}{n0 c0:Nat}(h:PrP w base P half 2 sz lm A0 n0 c0)(h0:half≠0)(bt md rv:Int)(A:Option Addr)(n c:Nat)(ys:List Int)(hy:Rd .i64 w A n c ys)(hs:sz≤472)(hE:rcE 2 sz lm sz bt md lm rv false ys n=0) :
 Calls Tryz.prog 15 #[.pointer (some ⟨P,0,none⟩),.agg #[.int .i64 sz,.int .i64 bt,.int .i64 md,.int .i64 lm,.int .i64 rv],.bool false,.slice A n c] w fun e w'=>e= .returned (.tuple #[.slice none 0 0,.int .i64 1,.int .i64 0])∧Below w.heap.size w w':=by
 obtain⟨hsp,hsb,-⟩:=rcE_zero hE
 have HN0:=Lib.hid (pnone_any (h.below (bal (Below.refl w.heap.size w) (.cells #[.int .i64 sz,.int .i64 bt,.int .i64 md,.int .i64 lm,.int .i64 rv] 36))) h0)
 have HB1:=Lib.hid (bal (Below.refl w.heap.size w) (.cells #[.int .i64 sz,.int .i64 bt,.int .i64 md,.int .i64 lm,.int .i64 rv] 36))
 have HP1:=Lib.hid (h.below HB1.out)
 have hC1:=Blk.new w [.int .i64 sz,.int .i64 bt,.int .i64 md,.int .i64 lm,.int .i64 rv] 36 rfl
 have HC1:=Lib.hid hC1
 have HY1:=Lib.hid (Rdv.below hy HB1.out)
 have HSP:=Lib.hid (split1 sz bt md lm rv A n c ys (w.alloc (.cells #[.int .i64 sz,.int .i64 bt,.int .i64 md,.int .i64 lm,.int .i64 rv] 36)) HY1.out (by omega))
 unfold SpQ at HSP
 rw [hsp]at HSP
 have HV:=Lib.hid (fun W hW=>svalid_any A n c ys W hW)
 rw [hsb]at HV
 clear h h0 hy hs hE hsp hsb
 go_enter Tryz.func15,Tryz.ntmps15
 go_wp2_with fail
 refine HN0.out.mono ?_
 rintro e wx ⟨rfl,hwx⟩
 rw [← hwx]
 clear hwx
 generalize w.alloc (.cells #[.int .i64 sz,.int .i64 bt,.int .i64 md,.int .i64 lm,.int .i64 rv] 36)=w1 at *
 go_wp2_with (refine ldrow (cs:=[.int .i64 sz,.int .i64 bt,.int .i64 md,.int .i64 lm,.int .i64 rv]) rfl 36 (.tmp 5) rfl rfl hC1 _ Tryz.underlying36 rfl (by rw [infoCf];rfl) ?_)
 refine HSP.out.mono ?_
 rintro e w2 ⟨hB2,PA,nP,cP,rfl,hok⟩
 have HP2:=Lib.hid (HP1.out.below hB2)
 have HC2:=Lib.hid (HC1.out.below hB2)
 have HB2:=Lib.hid (HB1.out.trans (hB2.mono HB1.out.size))
 have HY2:=Lib.hid (Rdv.below HY1.out hB2)
 have cst:=HP2.out.p.cell (j:=1) (v:=.int .i64 2) rfl
 have csz:=HP2.out.p.cell (j:=2) (v:=.int .i64 sz) rfl
 have clm:=HP2.out.p.cell (j:=3) (v:=.int .i64 lm) rfl
 have cs:=HC2.out.cell (j:=0) (v:=.int .i64 sz) rfl
 have cl:=HC2.out.cell (j:=3) (v:=.int .i64 lm) rfl
 go_wp2_with fail
 refine(HV.out w2 HY2.out).mono ?_
 rintro e w3 ⟨rfl,hB3⟩
 have csz:=(HP2.out.below hB3).p.cell (j:=2) (v:=.int .i64 sz) rfl
 have clm:=(HP2.out.below hB3).p.cell (j:=3) (v:=.int .i64 lm) rfl
 have cst:=(HP2.out.below hB3).p.cell (j:=1) (v:=.int .i64 2) rfl
 have cs:=(HC2.out.below hB3).cell (j:=0) (v:=.int .i64 sz) rfl
 have cl:=(HC2.out.below hB3).cell (j:=3) (v:=.int .i64 lm) rfl
 have q5:(sz != sz)=false:=bne_f rfl
 have q6:(lm != lm)=false:=bne_f rfl
 have HB3:=Lib.hid (HB2.out.trans (hB3.mono HB2.out.size))
 clear hB3
 go_wp2_with fail
 go_quiet (fail)
 go_wp2
 go_ret3
 exact⟨rfl,HB3.out.trans (Qt.below ⟨_,rfl⟩ _)⟩
theorem recv_begin{w:World}{base P:Nat}{half st sz lm:Int}{A0:Option Addr}{n0 c0:Nat}(h:PrP w base P half st sz lm A0 n0 c0)(h0:half≠0)(hb:base≤w.heap.size)(sn rn:Nat)(bt md l:Int)(fresh:Bool)(A:Option Addr)(n c:Nat)(ys:List Int)(hy:Rd .i64 w A n c ys)(hs:sn≤472)(hE:rcE st sz lm (sn:Int) bt md l (rn:Int) fresh ys n=0)(hbeg:fresh=true∨st=0) :
 Calls Tryz.prog 15 #[.pointer (some ⟨P,0,none⟩),.agg #[.int .i64 (sn:Int),.int .i64 bt,.int .i64 md,.int .i64 l,.int .i64 (rn:Int)],.bool fresh,.slice A n c] w (RcQ w base P half (zI (sn:Int) l) rn n ys [] 0):=by
 obtain⟨hsp,hsb,-⟩:=rcE_zero hE
 obtain⟨hvc,hnb,hus⟩:=spE_zero hsp
 obtain⟨v1,v2,v3,v4,v5,v6⟩:=vc_inv hvc
 have HN0:=Lib.hid (pnone_any (h.below (bal (Below.refl w.heap.size w) (.cells #[.int .i64 (sn:Int),.int .i64 bt,.int .i64 md,.int .i64 l,.int .i64 (rn:Int)] 36))) h0)
 have HB1:=Lib.hid (bal (Below.refl w.heap.size w) (.cells #[.int .i64 (sn:Int),.int .i64 bt,.int .i64 md,.int .i64 l,.int .i64 (rn:Int)] 36))
 have HP1:=Lib.hid (h.below HB1.out)
 have hC1:=Blk.new w [.int .i64 (sn:Int),.int .i64 bt,.int .i64 md,.int .i64 l,.int .i64 (rn:Int)] 36 rfl
 have HC1:=Lib.hid hC1
 have HY1:=Lib.hid (Rdv.below hy HB1.out)
 have HSP:=Lib.hid (split1 (sn:Int) bt md l (rn:Int) A n c ys (w.alloc (.cells #[.int .i64 (sn:Int),.int .i64 bt,.int .i64 md,.int .i64 l,.int .i64 (rn:Int)] 36)) HY1.out (by omega))
 have HPW:=Lib.hid h.p.lt
 have HBS:=Lib.hid hb
 have HKB:=Lib.hid (kS_bd (s:=(sn:Int)) (by omega) (by omega))
 have HSS:Hid (1≤(sn:Int)∧(sn:Int)≤472):=Lib.hid ⟨by omega,by omega⟩
 have HL1:=Lib.hid v5
 have HRN:Hid (rn≤3):=Lib.hid (by omega)
 have HNN:Hid (n≤131072):=Lib.hid (by omega)
 have HUS:=Lib.hid hus
 have HSB:=Lib.hid hsb
 have HCN:Hid (0≤(0:Int)∧(0:Int)≤900000000):=Lib.hid (by omega)
 have HCC:Hid (0≤(0:Int)∧(0:Int)≤((0:Nat):Int)):=Lib.hid (by omega)
 have HBL:Hid (∀ x:List Int,none=some x→x.length≤1000):=Lib.hid (fun x hx=>by cases hx)
 have HST:=Lib.hid (fun W (hW:PrP W base P half st sz lm A0 n0 c0) (hbW:base≤W.heap.size)=>start_any hW hbW sn bt md l (rn:Int) (by omega) (by omega) v5)
 unfold SpQ at HSP
 rw [hsp]at HSP
 have HV:=Lib.hid (fun W hW=>svalid_any A n c ys W hW)
 rw [hsb]at HV
 clear h h0 hy hs hE hsp hsb hvc hnb hus v1 v2 v3 v4 v5 v6 hb
 cases fresh with
 | true =>
   clear hbeg
   go_enter Tryz.func15,Tryz.ntmps15
   go_wp2_with fail
   refine HN0.out.mono ?_
   rintro e wx ⟨rfl,hwx⟩
   rw [← hwx]
   clear hwx
   generalize w.alloc (.cells #[.int .i64 (sn:Int),.int .i64 bt,.int .i64 md,.int .i64 l,.int .i64 (rn:Int)] 36)=w1 at *
   go_wp2_with (refine ldrow (cs:=[.int .i64 (sn:Int),.int .i64 bt,.int .i64 md,.int .i64 l,.int .i64 (rn:Int)]) rfl 36 (.tmp 5) rfl rfl hC1 _ Tryz.underlying36 rfl (by rw [infoCf];rfl) ?_)
   refine HSP.out.mono ?_
   rintro e w2 ⟨hB2,PA,nP,cP,rfl,hok⟩
   have HP2:=Lib.hid (HP1.out.below hB2)
   have HC2:=Lib.hid (HC1.out.below hB2)
   have HB2:=Lib.hid (HB1.out.trans (hB2.mono HB1.out.size))
   have HY2:=Lib.hid (Rdv.below HY1.out hB2)
   have cst:=HP2.out.p.cell (j:=1) (v:=.int .i64 st) rfl
   have csz:=HP2.out.p.cell (j:=2) (v:=.int .i64 sz) rfl
   have clm:=HP2.out.p.cell (j:=3) (v:=.int .i64 lm) rfl
   have cs:=HC2.out.cell (j:=0) (v:=.int .i64 (sn:Int)) rfl
   have cl:=HC2.out.cell (j:=3) (v:=.int .i64 l) rfl
   obtain⟨rfl,hPAf,Q,qc,hpa,hqr,hqf⟩:=hok trivial
   go_wp2_with fail
   refine(HV.out w2 HY2.out).mono ?_
   rintro e w3 ⟨rfl,hB3⟩
   have hB23:=hB3
   go_wp2_with fail
   go_quiet (fail)
   have HB4:Hid (Below w.heap.size w (w3.drewN nq)):=Lib.hid ((HB2.out.trans (hB3.mono HB2.out.size)).trans (Qt.below ⟨nq,rfl⟩ _))
   have HP4:Hid (PrP (w3.drewN nq) base P half st sz lm A0 n0 c0):=Lib.hid ⟨(HP2.out.below hB3).p.drewN nq,HP2.out.d⟩
   have hC4:=(HC2.out.below hB3).drewN nq
   have HPA4:=Lib.hid (Rdv.drewN (Rdv.below hpa hB3) nq)
   have HQR4:=Lib.hid (Rdv.drewN (Rdv.below hqr hB3) nq)
   have HZ4:Hid (w2.heap.size≤(w3.drewN nq).heap.size):=Lib.hid hB3.size
   have HPF:Hid (w.heap.size≤blk PA∧(Q≠none→w.heap.size≤blk Q∧blk Q<w2.heap.size)):=Lib.hid ⟨Nat.le_trans HB1.out.size hPAf,fun hA=>⟨Nat.le_trans HB1.out.size (hqf hA).1,(hqf hA).2⟩⟩
   generalize w3.drewN nq=w4 at *
   have HC4:=Lib.hid hC4
   clear hB3 hB23 hpa hqr hqf hPAf cst csz clm cs cl hB2
   go_wp2_with (refine ldrow (cs:=[.int .i64 (sn:Int),.int .i64 bt,.int .i64 md,.int .i64 l,.int .i64 (rn:Int)]) rfl 36 (.tmp 5) rfl rfl hC4 _ Tryz.underlying36 rfl (by rw [infoCf];rfl) ?_)
   refine(HST.out w4 HP4.out (Nat.le_trans HBS.out HB4.out.size)).mono ?_
   rintro e w5 ⟨⟨v,rfl⟩,hB5,hK5,G,cap,D,V,rest,hfr,hPB,hDm⟩
   obtain⟨vc,hvc⟩:∃ vc,vc=3*(kS (sn:Int)+4):=⟨_,rfl⟩
   have HQ5:Hid (HqP w5 base P half 1 (sn:Int) l G cap D (kS (sn:Int)) (fS (sn:Int)) V vc (frL (kS (sn:Int)) (fS (sn:Int))) 0 none 0 0 rest none):=Lib.hid ⟨hPB,by rw [hvc];exact hDm,⟨rfl,rfl,rfl⟩,fun h=>absurd rfl h⟩
   have hPw:=HPW.out
   have hs45:w4.heap.size≤w5.heap.size:=hB5.size
   have hw4:w.heap.size≤w4.heap.size:=HB4.out.size
   have HB5:Hid (Below base w w5):=Lib.hid ((HB4.out.mono HBS.out).trans hB5)
   have HC5:Hid (Blk w5 w.heap.size 36 [.int .i64 (sn:Int),.int .i64 bt,.int .i64 md,.int .i64 l,.int .i64 (rn:Int)]):=Lib.hid ((hK5 _ hC4.lt (by omega)).trans hC4)
   have HPA5:=Lib.hid (rdv_heq HPA4.out hs45 (fun hA hlt=>hK5 _ hlt (by have:=HPF.out.1;omega)))
   have HQR5:Hid (Rd .i64 w5 Q n qc ys):=Lib.hid (rdv_heq HQR4.out hs45 (fun hA hlt=>hK5 _ hlt (by have:=(HPF.out.2 hA).1;omega)))
   have HK5:Hid (∀ q,q<w.heap.size→q≠P→w5.heap[q]?=w.heap[q]?):=Lib.hid (fun q hq hP=>(hK5 q (by omega) hP).trans (HB4.out.block q hq))
   have HQV:Hid (Q≠none→blk Q≠blk V):=Lib.hid (fun hA=>by have h1:=HPF.out.2 hA;have h2:=HZ4.out;have h3:=hfr.2.2;omega)
   have HNF:Hid (∀ q,q<w.heap.size→q ∉ ([]:List Nat)→q≠G∧q≠D∧q≠blk V):=Lib.hid (fun q hq _=>by obtain⟨g1,g2,g3⟩:=hfr;exact⟨by omega,by omega,by omega⟩)
   have HFR:Hid (∀ x,x ∈ [G,D,blk V]→x ∈ ([]:List Nat)∨w.heap.size≤x):=Lib.hid (fun x hx=>by obtain⟨g1,g2,g3⟩:=hfr;simp at hx;right;omega)
   clear hC4 hB5 hK5 hfr hPB hDm hvc hPw hs45 hw4 hok
   have cst5:=HQ5.out.a.p.p.cell (j:=1) (v:=.int .i64 1) rfl
   have crv:=HC5.out.cell (j:=4) (v:=.int .i64 (rn:Int)) rfl
   have HW5:Hid (base≤w5.heap.size):=Lib.hid (Nat.le_trans HBS.out HB5.out.size)
   go_wp2_with fail
   refine(combine_any HQ5.out HW5.out ⟨HKB.out.1,HKB.out.2.1⟩ HKB.out.2.2 HL1.out rn n HRN.out HNN.out HCN.out HUS.out PA cP Q qc ys HPA5.out HQR5.out HSB.out HQV.out).mono ?_
   rintro e w6 ⟨⟨v6,rfl⟩,hB6,hK6,T,R6,r6,rc6,hT,hQ6⟩
   have hpick:Cr.selL (b1 (sn:Int) l) (Cr.stS (kS (sn:Int)) (Cr.szB (kS (sn:Int)) l) rn) (Cr.szB (kS (sn:Int)) l) T=slP (sn:Int) l rn n:=Cr.pick_of (b1_len HL1.out) HUS.out hT
   have hQ6:HqP w6 base P half 1 (sn:Int) l G cap D (kS (sn:Int)) (fS (sn:Int)) V vc (cmbL (Cr.selL (b1 (sn:Int) l) (Cr.stS (kS (sn:Int)) (Cr.szB (kS (sn:Int)) l) rn) (Cr.szB (kS (sn:Int)) l) T) ys (frL (kS (sn:Int)) (fS (sn:Int))) n) (0+n) R6 r6 rc6 rest (dcB (cmbL (Cr.selL (b1 (sn:Int) l) (Cr.stS (kS (sn:Int)) (Cr.szB (kS (sn:Int)) l) rn) (Cr.szB (kS (sn:Int)) l) T) ys (frL (kS (sn:Int)) (fS (sn:Int))) n) (kS (sn:Int)) (fS (sn:Int)) half none):=hQ6
   rw [hpick]at hQ6
   have hlen:=Rd.len (Own.rd hQ6.d.v)
   have hdl:=dcB_len (k:=kS (sn:Int)) (f:=fS (sn:Int)) (half:=half) (b:=none) (by rw [hlen];have:=HKB.out;omega:(cmbL (slP (sn:Int) l rn n) ys (frL (kS (sn:Int)) (fS (sn:Int))) n).length≤1500) HBL.out
   have HDL:=Lib.hid hdl
   have HQ6:=Lib.hid hQ6
   have HB6:=Lib.hid (HB5.out.trans hB6)
   have HK6:=Lib.hid hK6
   have HS6:Hid (w5.heap.size≤w6.heap.size):=Lib.hid hB6.size
   have HF:=Lib.hid (finish_any hQ6 (Nat.le_trans HBS.out HB6.out.size) (btp_len hQ6.t hdl))
   clear hT hQ6 hpick hlen hdl hB6 hK6 cst5 crv
   go_wp2_with fail
   refine HF.out.mono ?_
   rintro e w7 ⟨A7,n7,c7,R7,r7,rc7,rfl,hR7,hB7,hK7,hQ7⟩
   have HR7:=Lib.hid hR7
   have HB7:=Lib.hid (HB6.out.trans hB7)
   have HK7:=Lib.hid hK7
   have HQ7:=Lib.hid hQ7
   clear hR7 hB7 hK7 hQ7
   go_wp2
   go_ret3
   refine⟨A7,n7,c7,[G,D,blk V],rfl,HR7.out,HB7.out,⟨⟨G,cap,D,V,_,R7,r7,rc7,rest,rfl,HQ7.out⟩,HSS.out,HL1.out,?_,fnS_cases _ _,fnB_len HDL.out⟩,fun q hq hP hF=>?_,HFR.out⟩
   · have:=HCC.out
     show 0≤0+(n:Int)∧0+(n:Int)≤((0+n:Nat):Int)
     omega
   · have h5:q<w5.heap.size:=Nat.lt_of_lt_of_le hq HB5.out.size
     obtain⟨hG,hD,hV⟩:=HNF.out q hq hF
     exact((HK7.out q (Nat.lt_of_lt_of_le h5 HS6.out) hP hG).trans (HK6.out q h5 hG hD hV)).trans (HK5.out q hq hP)
 | false =>
   have q3:(st == 0)=true:=by simp [hbeg.resolve_left (by decide)]
   clear hbeg
   go_enter Tryz.func15,Tryz.ntmps15
   go_wp2_with fail
   refine HN0.out.mono ?_
   rintro e wx ⟨rfl,hwx⟩
   rw [← hwx]
   clear hwx
   generalize w.alloc (.cells #[.int .i64 (sn:Int),.int .i64 bt,.int .i64 md,.int .i64 l,.int .i64 (rn:Int)] 36)=w1 at *
   go_wp2_with (refine ldrow (cs:=[.int .i64 (sn:Int),.int .i64 bt,.int .i64 md,.int .i64 l,.int .i64 (rn:Int)]) rfl 36 (.tmp 5) rfl rfl hC1 _ Tryz.underlying36 rfl (by rw [infoCf];rfl) ?_)
   refine HSP.out.mono ?_
   rintro e w2 ⟨hB2,PA,nP,cP,rfl,hok⟩
   have HP2:=Lib.hid (HP1.out.below hB2)
   have HC2:=Lib.hid (HC1.out.below hB2)
   have HB2:=Lib.hid (HB1.out.trans (hB2.mono HB1.out.size))
   have HY2:=Lib.hid (Rdv.below HY1.out hB2)
   have cst:=HP2.out.p.cell (j:=1) (v:=.int .i64 st) rfl
   have csz:=HP2.out.p.cell (j:=2) (v:=.int .i64 sz) rfl
   have clm:=HP2.out.p.cell (j:=3) (v:=.int .i64 lm) rfl
   have cs:=HC2.out.cell (j:=0) (v:=.int .i64 (sn:Int)) rfl
   have cl:=HC2.out.cell (j:=3) (v:=.int .i64 l) rfl
   obtain⟨rfl,hPAf,Q,qc,hpa,hqr,hqf⟩:=hok trivial
   go_wp2_with fail
   refine(HV.out w2 HY2.out).mono ?_
   rintro e w3 ⟨rfl,hB3⟩
   have hB23:=hB3
   go_wp2_with fail
   go_quiet (fail)
   have HB4:Hid (Below w.heap.size w (w3.drewN nq)):=Lib.hid ((HB2.out.trans (hB3.mono HB2.out.size)).trans (Qt.below ⟨nq,rfl⟩ _))
   have HP4:Hid (PrP (w3.drewN nq) base P half st sz lm A0 n0 c0):=Lib.hid ⟨(HP2.out.below hB3).p.drewN nq,HP2.out.d⟩
   have hC4:=(HC2.out.below hB3).drewN nq
   have HPA4:=Lib.hid (Rdv.drewN (Rdv.below hpa hB3) nq)
   have HQR4:=Lib.hid (Rdv.drewN (Rdv.below hqr hB3) nq)
   have HZ4:Hid (w2.heap.size≤(w3.drewN nq).heap.size):=Lib.hid hB3.size
   have HPF:Hid (w.heap.size≤blk PA∧(Q≠none→w.heap.size≤blk Q∧blk Q<w2.heap.size)):=Lib.hid ⟨Nat.le_trans HB1.out.size hPAf,fun hA=>⟨Nat.le_trans HB1.out.size (hqf hA).1,(hqf hA).2⟩⟩
   generalize w3.drewN nq=w4 at *
   have HC4:=Lib.hid hC4
   clear hB3 hB23 hpa hqr hqf hPAf cst csz clm cs cl hB2
   go_wp2_with (refine ldrow (cs:=[.int .i64 (sn:Int),.int .i64 bt,.int .i64 md,.int .i64 l,.int .i64 (rn:Int)]) rfl 36 (.tmp 5) rfl rfl hC4 _ Tryz.underlying36 rfl (by rw [infoCf];rfl) ?_)
   refine(HST.out w4 HP4.out (Nat.le_trans HBS.out HB4.out.size)).mono ?_
   rintro e w5 ⟨⟨v,rfl⟩,hB5,hK5,G,cap,D,V,rest,hfr,hPB,hDm⟩
   obtain⟨vc,hvc⟩:∃ vc,vc=3*(kS (sn:Int)+4):=⟨_,rfl⟩
   have HQ5:Hid (HqP w5 base P half 1 (sn:Int) l G cap D (kS (sn:Int)) (fS (sn:Int)) V vc (frL (kS (sn:Int)) (fS (sn:Int))) 0 none 0 0 rest none):=Lib.hid ⟨hPB,by rw [hvc];exact hDm,⟨rfl,rfl,rfl⟩,fun h=>absurd rfl h⟩
   have hPw:=HPW.out
   have hs45:w4.heap.size≤w5.heap.size:=hB5.size
   have hw4:w.heap.size≤w4.heap.size:=HB4.out.size
   have HB5:Hid (Below base w w5):=Lib.hid ((HB4.out.mono HBS.out).trans hB5)
   have HC5:Hid (Blk w5 w.heap.size 36 [.int .i64 (sn:Int),.int .i64 bt,.int .i64 md,.int .i64 l,.int .i64 (rn:Int)]):=Lib.hid ((hK5 _ hC4.lt (by omega)).trans hC4)
   have HPA5:=Lib.hid (rdv_heq HPA4.out hs45 (fun hA hlt=>hK5 _ hlt (by have:=HPF.out.1;omega)))
   have HQR5:Hid (Rd .i64 w5 Q n qc ys):=Lib.hid (rdv_heq HQR4.out hs45 (fun hA hlt=>hK5 _ hlt (by have:=(HPF.out.2 hA).1;omega)))
   have HK5:Hid (∀ q,q<w.heap.size→q≠P→w5.heap[q]?=w.heap[q]?):=Lib.hid (fun q hq hP=>(hK5 q (by omega) hP).trans (HB4.out.block q hq))
   have HQV:Hid (Q≠none→blk Q≠blk V):=Lib.hid (fun hA=>by have h1:=HPF.out.2 hA;have h2:=HZ4.out;have h3:=hfr.2.2;omega)
   have HNF:Hid (∀ q,q<w.heap.size→q ∉ ([]:List Nat)→q≠G∧q≠D∧q≠blk V):=Lib.hid (fun q hq _=>by obtain⟨g1,g2,g3⟩:=hfr;exact⟨by omega,by omega,by omega⟩)
   have HFR:Hid (∀ x,x ∈ [G,D,blk V]→x ∈ ([]:List Nat)∨w.heap.size≤x):=Lib.hid (fun x hx=>by obtain⟨g1,g2,g3⟩:=hfr;simp at hx;right;omega)
   clear hC4 hB5 hK5 hfr hPB hDm hvc hPw hs45 hw4 hok
   have cst5:=HQ5.out.a.p.p.cell (j:=1) (v:=.int .i64 1) rfl
   have crv:=HC5.out.cell (j:=4) (v:=.int .i64 (rn:Int)) rfl
   have HW5:Hid (base≤w5.heap.size):=Lib.hid (Nat.le_trans HBS.out HB5.out.size)
   go_wp2_with fail
   refine(combine_any HQ5.out HW5.out ⟨HKB.out.1,HKB.out.2.1⟩ HKB.out.2.2 HL1.out rn n HRN.out HNN.out HCN.out HUS.out PA cP Q qc ys HPA5.out HQR5.out HSB.out HQV.out).mono ?_
   rintro e w6 ⟨⟨v6,rfl⟩,hB6,hK6,T,R6,r6,rc6,hT,hQ6⟩
   have hpick:Cr.selL (b1 (sn:Int) l) (Cr.stS (kS (sn:Int)) (Cr.szB (kS (sn:Int)) l) rn) (Cr.szB (kS (sn:Int)) l) T=slP (sn:Int) l rn n:=Cr.pick_of (b1_len HL1.out) HUS.out hT
   have hQ6:HqP w6 base P half 1 (sn:Int) l G cap D (kS (sn:Int)) (fS (sn:Int)) V vc (cmbL (Cr.selL (b1 (sn:Int) l) (Cr.stS (kS (sn:Int)) (Cr.szB (kS (sn:Int)) l) rn) (Cr.szB (kS (sn:Int)) l) T) ys (frL (kS (sn:Int)) (fS (sn:Int))) n) (0+n) R6 r6 rc6 rest (dcB (cmbL (Cr.selL (b1 (sn:Int) l) (Cr.stS (kS (sn:Int)) (Cr.szB (kS (sn:Int)) l) rn) (Cr.szB (kS (sn:Int)) l) T) ys (frL (kS (sn:Int)) (fS (sn:Int))) n) (kS (sn:Int)) (fS (sn:Int)) half none):=hQ6
   rw [hpick]at hQ6
   have hlen:=Rd.len (Own.rd hQ6.d.v)
   have hdl:=dcB_len (k:=kS (sn:Int)) (f:=fS (sn:Int)) (half:=half) (b:=none) (by rw [hlen];have:=HKB.out;omega:(cmbL (slP (sn:Int) l rn n) ys (frL (kS (sn:Int)) (fS (sn:Int))) n).length≤1500) HBL.out
   have HDL:=Lib.hid hdl
   have HQ6:=Lib.hid hQ6
   have HB6:=Lib.hid (HB5.out.trans hB6)
   have HK6:=Lib.hid hK6
   have HS6:Hid (w5.heap.size≤w6.heap.size):=Lib.hid hB6.size
   have HF:=Lib.hid (finish_any hQ6 (Nat.le_trans HBS.out HB6.out.size) (btp_len hQ6.t hdl))
   clear hT hQ6 hpick hlen hdl hB6 hK6 cst5 crv
   go_wp2_with fail
   refine HF.out.mono ?_
   rintro e w7 ⟨A7,n7,c7,R7,r7,rc7,rfl,hR7,hB7,hK7,hQ7⟩
   have HR7:=Lib.hid hR7
   have HB7:=Lib.hid (HB6.out.trans hB7)
   have HK7:=Lib.hid hK7
   have HQ7:=Lib.hid hQ7
   clear hR7 hB7 hK7 hQ7
   go_wp2
   go_ret3
   refine⟨A7,n7,c7,[G,D,blk V],rfl,HR7.out,HB7.out,⟨⟨G,cap,D,V,_,R7,r7,rc7,rest,rfl,HQ7.out⟩,HSS.out,HL1.out,?_,fnS_cases _ _,fnB_len HDL.out⟩,fun q hq hP hF=>?_,HFR.out⟩
   · have:=HCC.out
     show 0≤0+(n:Int)∧0+(n:Int)≤((0+n:Nat):Int)
     omega
   · have h5:q<w5.heap.size:=Nat.lt_of_lt_of_le hq HB5.out.size
     obtain⟨hG,hD,hV⟩:=HNF.out q hq hF
     exact((HK7.out q (Nat.lt_of_lt_of_le h5 HS6.out) hP hG).trans (HK6.out q h5 hG hD hV)).trans (HK5.out q hq hP)
end Go.Proofs.YtkdfefpnhaebfaaGreat
namespace Go.Proofs.YtkdfefpnhaebfaaGreat
open Go.RowKit
theorem gi_ibs(l:List Bool)(q:Nat)(h:q<l.length):gi (l.map ib) q=(bq (Tu.gB l q):Int):=by
 unfold gi Tu.gB
 rw [List.getD_eq_getElem?_getD,List.getD_eq_getElem?_getD,List.getElem?_map,List.getElem?_eq_getElem h]
 show ib l[q]=(bq l[q]:Int)
 cases l[q]<;>rfl
theorem wr_ok{ys:List Int}{K most:Int}{k r:Nat}(hk:k=Tu.szK r)(hl:ys.length=3*(k+4))(hs:∀ q,q<3*(k+4)→-127≤gi ys q∧gi ys q≤127)(hK:0≤K∧K≤4)(hm:1≤most∧most≤64):wrE ys K most=0∧kOf ys=k:=by
 have hko:kOf ys=k:=by unfold kOf;omega
 refine⟨?_,hko⟩
 have hsb:SoftB ys=true:=all_gi.2 fun j hj=>by simpa using hs j (by omega)
 have hv:Tu.validK ((ys.length:Int) / 3 - 4)=true:=by
  rw [show (ys.length:Int) / 3 - 4=((k:Nat):Int) by omega,hk];exact Tu.szK_valid r
 unfold wrE
 rw [if_neg ?_,if_pos hsb]
 rintro(q | q | q | q | q | q)
 · omega
 · rw [hv]at q;cases q
 all_goals omega
def RtS(vs W:List Int)(N:Nat):Prop:=∀ q,q<N→(gi W q=0∨gi W q=1)∧0≤gi vs q*(1 - 2*gi W q)∧-127≤gi vs q∧gi vs q≤127
theorem add_rt{a m b:Int}(hb:b=0∨b=1)(ha:0≤a*(1 - 2*b)∧-127≤a∧a≤127)(hm:1≤m∧m≤127):0≤addI a (idI m b)*(1 - 2*b)∧-127≤addI a (idI m b)∧addI a (idI m b)≤127:=by
 refine⟨?_,clI_bd _⟩
 unfold addI
 rcases hb with rfl | rfl
 · rw [show idI m 0=m by unfold idI;omega,clI_in ha.2,clI_in (show -127≤m∧m≤127 by omega)]
   unfold clI
   split<;>(try split)<;>omega
 · rw [show idI m 1 = -m by unfold idI;omega,clI_in ha.2,clI_in (show -127≤-m∧-m≤127 by omega)]
   unfold clI
   split<;>(try split)<;>omega
theorem cmb_rt{ps l vs W:List Int}{N m:Nat}{mg:Int}(hl:vs.length=N)(hv:RtS vs W N)(hm:1≤mg∧mg≤127)(hp:∀ j,j<m→∃ p:Nat,gi ps j=(p:Int)∧p<N)(hx:∀ j,j<m→gi l j=idI mg (gi W (gi ps j).toNat)):∀ j,j≤m→RtS (cmbL ps l vs j) W N
 | 0,_=>hv
 | j+1,h=>by
   have ih:=cmb_rt hl hv hm hp hx j (by omega)
   obtain⟨p,e,hpn⟩:=hp j (by omega)
   have h2:=hx j (by omega)
   rw [e,Int.toNat_natCast]at h2
   intro q hq
   have hE:gi (cmbL ps l vs (j+1)) q=if p=q then addI (gi (cmbL ps l vs j) p) (idI mg (gi W p)) else gi (cmbL ps l vs j) q:=by
    show gi (List.set _ _ _) q=_
    rw [e,Int.toNat_natCast,h2,gi_set' _ _ _ _ (by rw [cmbL_len,hl];exact hq)]
   rw [hE]
   split
   · rename_i hpq
     subst hpq
     exact⟨(ih p hpn).1,add_rt (ih p hpn).1 (ih p hpn).2 hm⟩
   · exact ih q hq
theorem send_rt{ps vs W:List Int}{N m:Nat}{mg:Int}(hl:vs.length=N)(hv:RtS vs W N)(hm:1≤mg∧mg≤127)(hp:∀ j,j<m→∃ p:Nat,gi ps j=(p:Int)∧p<N)(hpl:ps.length=m):RtS (cmbL ps (idL mg (ps.map fun p=>gi W p.toNat)) vs m) W N :=
 cmb_rt hl hv hm hp (fun j hj=>by
  have h1:j<ps.length:=by omega
  rw [gi_eq (idL mg _) j (by simp [idL];omega),gi_eq ps j h1]
  simp [idL]) m (Nat.le_refl m)
theorem rts_fresh{W:List Int}{k:Nat}(hw:∀ x ∈ W,x=0∨x=1)(hl:W.length=3*(k+4)):RtS (frL k 0) W (3*(k+4)):=fun q hq=>by
 have h0:gi (frL k 0) q=0:=by
  unfold frL
  rw [gi_range _ hq]
  unfold frI
  rw [if_neg (by omega)]
 rw [h0]
 exact⟨hw _ (by rw [gi_eq W q (by omega)];exact List.getElem_mem _),by omega⟩
theorem idL_soft{mg:Int}{W:List Int}(hm:1≤mg∧mg≤127)(hw:∀ x ∈ W,x=0∨x=1):SoftB (idL mg W)=true:=all_gi.2 fun j hj=>by
 have hj2:j<W.length:=by simpa [idL] using hj
 have h1:gi (idL mg W) j=idI mg (gi W j):=by rw [gi_eq _ _ hj,gi_eq _ _ hj2];simp [idL]
 rw [h1]
 have h2:=hw _ (List.getElem_mem hj2)
 rw [← gi_eq _ _ hj2]at h2
 unfold idI
 rcases h2 with h2 | h2<;>rw [h2]<;>simp<;>omega
theorem sgn_of{vs:List Int}{x:List Bool}{k:Nat}(hx:x.length=k)(hv:RtS vs ((Tu.wrd x).map ib) (3*(k+4)))(hu:∀ q,q<3*(k+4)→gi vs q≠0):Sgn vs k x (fun q=>gi vs q*(1 - 2*(bq (Tu.gB (Tu.wrd x) q):Int))):=fun q hq=>by
 obtain⟨h1,h2,h3⟩:=hv q hq
 have h4:=hu q hq
 rw [gi_ibs _ _ (by rw [Tu.wrd_len,hx];exact hq)]at h1 h2
 dsimp only
 generalize (bq (Tu.gB (Tu.wrd x) q):Int)=b at *
 rcases h1 with rfl | rfl
 · refine⟨by omega,by omega,by omega⟩
 · refine⟨by omega,by omega,by omega⟩
theorem comb_it{vs:List Int}{x:List Bool}{k r m:Nat}{K:Int}(hk:k=Tu.szK r)(hx:x.length=k)(hl:vs.length=3*(k+4))(hv:RtS vs ((Tu.wrd x).map ib) (3*(k+4)))(hu:∀ q,q<3*(k+4)→gi vs q≠0)(hK:1≤K∧K≤4)(hm:1≤m∧m≤64)(hc:Cr.chkErr K (x.map ib)=0):itE vs K (m:Int)=0∧itD vs K (m:Int)=x.map ib:=by
 have hS:=sgn_of hx hv hu
 obtain⟨hE,hko⟩:=wr_ok (K:=K) (most:=(m:Int)) hk hl (fun q hq=>(hv q hq).2.2) (by omega) (by omega)
 obtain⟨d0,-⟩:=clean_two hk hx hS
 have hf:fdN vs K ((m:Nat):Int)=some 0:=fd_of hko (by omega) (by unfold okN;rw [if_neg (by omega),d0,hc];rfl) (fun q hq=>by omega)
 obtain⟨i1,i2,i3⟩:=it_of hko hE hf
 exact⟨i1,i3.trans d0⟩
theorem add_nz{a m b:Int}(hb:b=0∨b=1)(ha:0≤a*(1 - 2*b)∧-127≤a∧a≤127)(hm:1≤m∧m≤127):addI a (idI m b)≠0:=by
 unfold addI
 rcases hb with rfl | rfl
 · rw [show idI m 0=m by unfold idI;omega,clI_in ha.2,clI_in (show -127≤m∧m≤127 by omega)]
   unfold clI
   split<;>(try split)<;>omega
 · rw [show idI m 1 = -m by unfold idI;omega,clI_in ha.2,clI_in (show -127≤-m∧-m≤127 by omega)]
   unfold clI
   split<;>(try split)<;>omega
theorem cmb_nz{ps l vs W:List Int}{N m:Nat}{mg:Int}(hl:vs.length=N)(hv:RtS vs W N)(hm:1≤mg∧mg≤127)(hp:∀ j,j<m→∃ p:Nat,gi ps j=(p:Int)∧p<N)(hx:∀ j,j<m→gi l j=idI mg (gi W (gi ps j).toNat)):∀ j,j≤m→∀ q,q<N→(gi vs q≠0∨∃ i,i<j∧gi ps i=(q:Int))→gi (cmbL ps l vs j) q≠0
 | 0,_,q,_,h=>by
   rcases h with h | ⟨i,hi,_⟩
   · exact h
   · omega
 | j+1,h,q,hq,hor=>by
   have ih:=cmb_nz hl hv hm hp hx j (by omega) q hq
   have hr:=cmb_rt hl hv hm hp hx j (by omega)
   obtain⟨p,e,hpn⟩:=hp j (by omega)
   have h2:=hx j (by omega)
   rw [e,Int.toNat_natCast]at h2
   have hE:gi (cmbL ps l vs (j+1)) q=if p=q then addI (gi (cmbL ps l vs j) p) (idI mg (gi W p)) else gi (cmbL ps l vs j) q:=by
    show gi (List.set _ _ _) q=_
    rw [e,Int.toNat_natCast,h2,gi_set' _ _ _ _ (by rw [cmbL_len,hl];exact hq)]
   rw [hE]
   split
   · exact add_nz (hr p hpn).1 (hr p hpn).2 hm
   · rename_i hne
     refine ih ?_
     rcases hor with h0 | ⟨i,hi,hie⟩
     · exact .inl h0
     · by_cases hij:i=j
       · subst hij
         rw [e]at hie
         omega
       · exact .inr ⟨i,by omega,hie⟩
theorem knC_all{vs:List Int}:∀ j,(∀ q,q<j→gi vs q≠0)→Cr.knC vs j=j
 | 0,_=>rfl
 | j+1,h=>by
   simp only [Cr.knC]
   rw [knC_all j (fun q hq=>h q (by omega)),if_pos (h j (by omega))]
theorem knC_none{vs:List Int}:∀ j,(∀ q,q<j→gi vs q=0)→Cr.knC vs j=0
 | 0,_=>rfl
 | j+1,h=>by
   simp only [Cr.knC]
   rw [knC_none j (fun q hq=>h q (by omega)),if_neg (fun h9=>h9 (h j (by omega)))]
theorem slP_pos{s l:Int}{rv n:Nat}(hl:1≤l)(j:Nat)(hj:j<(slP s l rv n).length):∃ p:Nat,gi (slP s l rv n) j=(p:Int)∧p<3*(kS s+4):=by
 have hm:=gi_mem _ j hj
 unfold slP Cr.pick at hm
 have h1:=List.mem_of_mem_take hm
 obtain⟨h2,h3⟩:=Cr.selL_mem (Cr.szB_bd (kS s) hl).1 (Nat.le_of_eq (b1_len hl)) _ _ h1
 have h4:=Cr.bufL_bd (kS s) (fS s) (Cr.szB (kS s) l) _ h3
 exact⟨(gi (slP s l rv n) j).toNat,by unfold slP Cr.pick;omega,by unfold slP Cr.pick;omega⟩
theorem kS_szK{s:Int}(h1:1≤s)(h2:s≤472):∃ r,kS s=Tu.szK r:=by
 obtain⟨u,hu,hu2⟩:=lo_small (b:=s.toNat+24) (by omega) (by omega)
 exact⟨u,by unfold kS Tu.szK;omega⟩
theorem clean0{s l:Int}{rv n half:Nat}{mg:Int}{x:List Bool}(hs:1≤s∧s≤472)(hl:1≤l)(hf:fS s=0)(hx:x.length=kS s)(hm:1≤mg∧mg≤127)(hh:1≤half∧half≤64)(hn:(slP s l rv n).length=n)
 (hcov:∀ q,q<3*(kS s+4)→∃ i,i<n∧gi (slP s l rv n) i=(q:Int)) (hc:Cr.chkErr 1 (x.map ib)=0) :
 bZ (half:Int) (zI s l) rv n (idL mg ((slP s l rv n).map fun p=>gi ((Tu.wrd x).map ib) p.toNat))=some (x.map ib):=by
 obtain⟨r,hr⟩:=kS_szK hs.1 hs.2
 have hwl:((Tu.wrd x).map ib).length=3*(kS s+4):=by rw [List.length_map,Tu.wrd_len,hx]
 have hw:∀ y ∈ (Tu.wrd x).map ib,y=0∨y=1:=fun y hy=>by
  obtain⟨b,-,rfl⟩:=List.mem_map.1 hy
  cases b
  · exact .inl rfl
  · exact .inr rfl
 have h0:=rts_fresh hw hwl
 have hp:∀ j,j<n→∃ p:Nat,gi (slP s l rv n) j=(p:Int)∧p<3*(kS s+4):=fun j hj=>slP_pos hl j (by rw [hn];exact hj)
 have hlen:(frL (kS s) 0).length=3*(kS s+4):=by simp [frL]
 have hR:=send_rt hlen h0 hm hp hn
 have hxx:∀ j,j<n→gi (idL mg ((slP s l rv n).map fun p=>gi ((Tu.wrd x).map ib) p.toNat)) j=idI mg (gi ((Tu.wrd x).map ib) (gi (slP s l rv n) j).toNat):=fun j hj=>by
  have h1:j<(slP s l rv n).length:=by omega
  rw [gi_eq (idL mg _) j (by simp [idL];omega),gi_eq (slP s l rv n) j h1]
  simp [idL]
 have hN:=cmb_nz hlen h0 hm hp hxx n (Nat.le_refl n)
 have hvl:(cmbL (slP s l rv n) (idL mg ((slP s l rv n).map fun p=>gi ((Tu.wrd x).map ib) p.toNat)) (frL (kS s) 0) n).length=3*(kS s+4):=by rw [cmbL_len,hlen]
 have hnz:∀ q,q<3*(kS s+4)→gi (cmbL (slP s l rv n) (idL mg ((slP s l rv n).map fun p=>gi ((Tu.wrd x).map ib) p.toNat)) (frL (kS s) 0) n) q≠0:=fun q hq=>hN q hq (.inr (hcov q hq))
 obtain⟨i1,i2⟩:=comb_it (m:=half) hr hx hvl hR hnz (by omega) hh hc
 unfold bZ vsZ zI
 dsimp only
 rw [hf]
 unfold dcB
 dsimp only
 rw [knC_all _ hnz,if_neg (by omega),if_pos i1,i2]
def xs16:List Int:=[1,0,1,1,0,0,1,0,1,1,1,0,0,0,1,0]
def x40:List Int:=[1,0,1,1,0,0,1,0,1,1,1,0,0,0,1,0,0,1,1,1,0,0,0,1,0,0,0,1,0,1,0,1,0,0,1,0,0,0,0,0]
theorem k16:kS 16=40∧fS 16=0∧Cr.szB 40 1000=192∧Cr.stS 40 192 0=4:=by decide +kernel
theorem bd16:Cr.bD xs16=[x40]:=by decide +kernel
theorem ex16:Cr.exE 40 1000 1 66 2 xs16=0:=by decide +kernel
theorem us16:Cr.usC (b1 16 1000)≠0:=by decide +kernel
theorem ck16:Cr.chkErr 1 x40=0:=by decide +kernel
theorem te16:tE1 16 x40=0∧tR1 16 x40=xs16:=by decide +kernel
theorem sn16:Cr.shN 1 66 2 0=132:=by decide +kernel
theorem sel16:(Cr.selL (b1 16 1000) 4 192 192).length=132∧((List.range 132).all fun q=>(Cr.selL (b1 16 1000) 4 192 192).contains (q:Int))=true:=by decide +kernel
theorem slP16:slP 16 1000 0 132=Cr.selL (b1 16 1000) 4 192 192:=by
 obtain⟨e1,e2,e3,e4⟩:=k16
 unfold slP
 rw [e1,e3,e4]
 exact(Cr.pick_of (by rw [← b1_len (by omega),e1,e3]) (.inr us16) sel16.1).symm
theorem cov16:(slP 16 1000 0 132).length=132∧∀ q:Nat,q<132→∃ i,i<132∧gi (slP 16 1000 0 132) i=(q:Int):=by
 rw [slP16]
 refine⟨sel16.1,fun q hq=>?_⟩
 have h1:=List.all_eq_true.1 sel16.2 q (List.mem_range.2 hq)
 have h2:(q:Int) ∈ Cr.selL (b1 16 1000) 4 192 192:=by simpa using h1
 obtain⟨i,hi,he⟩:=List.getElem_of_mem h2
 exact⟨i,by rw [← sel16.1];exact hi,by rw [gi_eq _ i hi];exact he⟩
def x40b:List Bool:=Tu.toB x40
theorem x40_ib:x40b.map ib=x40:=by decide +kernel
theorem enc16:Tu.encW x40=(Tu.wrd x40b).map ib:=by
 unfold Tu.encW
 rw [if_pos (by decide +kernel),if_pos (by decide +kernel)]
 rfl
theorem exD16:Cr.exD 40 1000 1 66 2 0 xs16=(slP 16 1000 0 132).map fun p=>gi ((Tu.wrd x40b).map ib) p.toNat:=by
 obtain⟨z1,z2⟩:=sz_one (b:=40) (by omega) (by omega)
 unfold Cr.exD
 rw [if_pos ex16,show List.range 1=[0] from rfl,List.flatMap_cons,List.flatMap_nil,List.append_nil]
 unfold Cr.rowX Cr.rowE Cr.bfE
 rw [bd16,sn16,z1,z2]
 show(Cr.pick _ _ _ 132).map (fun p=>gi (Tu.encW x40) p.toNat)=_
 rw [enc16]
 rfl
theorem bZ16(half:Nat)(mg:Int)(hh:1≤half∧half≤64)(hm:1≤mg∧mg≤127):bZ (half:Int) (zI 16 1000) 0 132 (idL mg (Cr.exD 40 1000 1 66 2 0 xs16))=some x40:=by
 rw [exD16,← x40_ib]
 exact clean0 (by omega) (by omega) k16.2.1 (by rw [k16.1];rfl) hm hh cov16.1 (by rw [k16.1];exact cov16.2) (by rw [x40_ib];exact ck16)
theorem exD16_len:(Cr.exD 40 1000 1 66 2 0 xs16).length=132:=by rw [exD16,List.length_map];exact cov16.1
theorem exD16_bit:∀ y ∈ Cr.exD 40 1000 1 66 2 0 xs16,y=0∨y=1:=fun y hy=>by
 rw [exD16]at hy
 obtain⟨p,-,rfl⟩:=List.mem_map.1 hy
 by_cases h:p.toNat<((Tu.wrd x40b).map ib).length
 · rw [gi_eq _ _ h]
   have h2:=List.getElem_mem h
   obtain⟨b,-,hb⟩:=List.mem_map.1 h2
   rw [← hb]
   cases b
   · exact .inl rfl
   · exact .inr rfl
 · left
   unfold gi
   rw [List.getD_eq_getElem?_getD,List.getElem?_eq_none (by omega)]
   rfl
theorem vc16:Cr.VC 16 132 2 1000 0=true:=by decide +kernel
theorem sp16:spE 16 132 2 1000 0 132=0:=by
 unfold spE
 rw [if_neg (by rw [vc16];simp),if_neg (fun h=>us16 h.1)]
attribute [local go_sem] Oper.semAt_some
set_option maxRecDepth 100000
theorem sixteen_any(w:World):Calls Tryz.prog 22 #[] w fun e w'=>∃ A,e= .returned (.slice A 16 16)∧Rd .u8 w' A 16 16 xs16∧(A≠none→w.heap.size≤blk A)∧Below w.heap.size w w':=by
 have h:=Ownv.lit (base:=w.heap.size) w #[.int .u8 1,.int .u8 0,.int .u8 1,.int .u8 1,.int .u8 0,.int .u8 0,.int .u8 1,.int .u8 0,.int .u8 1,.int .u8 1,.int .u8 1,.int .u8 0,.int .u8 0,.int .u8 0,.int .u8 1,.int .u8 0] 5 rfl (Nat.le_refl _) (by show 16≤maxLen;unfold maxLen;omega)
 have HR:=Lib.hid h
 go_enter Tryz.func22,Tryz.ntmps22
 go_wp2
 go_ret
 exact⟨_,rfl,HR.out.rd,fun hA=>(Ownv.blk_of HR.out hA).1,bal (Below.refl _ w) _⟩
theorem byt16:Cr.Byt xs16:=by unfold Cr.Byt;decide
theorem encode16(A:Option Addr)(c:Nat)(w:World)(hx:Rd .u8 w A 16 c xs16):Calls Tryz.prog 13 #[.agg #[.int .i64 16,.int .i64 132,.int .i64 2,.int .i64 1000,.int .i64 0],.slice A 16 c] w fun e w'=>∃ A' c',e= .returned (.tuple #[.slice A' 132 c',.int .i64 0])∧Rd .u8 w' A' 132 c' (Cr.exD 40 1000 1 66 2 0 xs16)∧Below w.heap.size w w':=by
 refine(Cr.enc_ok 16 1 66 2 0 1000 A 16 c xs16 w (by omega) (by omega) (by decide +kernel) (.inl rfl) (by omega) (by omega) (by omega) rfl hx byt16).mono ?_
 rintro e w' ⟨A',n',c',rfl,hO,hB⟩
 have hn:n'=132:=by rw [← Rd.len (Own.rd hO)];exact exD16_len
 subst hn
 exact⟨A',c',by rw [show Cr.exE (16+24) 1000 1 66 2 xs16=0 from ex16],Own.rd hO,hB⟩
theorem pdecoded_any{w:World}{base P:Nat}{half st sz lm:Int}{G cap D:Nat}{need:Int}{R:Option Addr}{r rc:Nat}{rest:List Value}(h:PrB w base P half st sz lm G cap D need R r rc rest)(h0:half≠0) :
 Calls Tryz.prog 24 #[.pointer (some ⟨P,0,none⟩)] w fun e w'=>e= .returned (.int .i64 (if R.isSome=true then 1 else 0))∧Below w.heap.size w w':=by
 have HN:=Lib.hid (pnone_any h.p h0)
 have c4:=h.p.p.cell (j:=4) (v:=.slice (some ⟨G,0,none⟩) 1 cap) rfl
 have hix:=fun W=>ixK G cap W
 have hG:Blk w G 103 ([.pointer (some ⟨D,0,none⟩),.int .i64 need,.slice R r rc] ++ rest):=h.g
 have hX:Blk (w.alloc (.cells #[.pointer (some ⟨D,0,none⟩),.int .i64 need,.slice R r rc] 103)) w.heap.size 103 [.pointer (some ⟨D,0,none⟩),.int .i64 need,.slice R r rc]:=Blk.new w _ _ rfl
 have HDC:=Lib.hid (fun W=>decoded_any (.pointer (some ⟨D,0,none⟩)) need R r rc W)
 have HB0:=Lib.hid (bal (Below.refl w.heap.size w) (.cells #[.pointer (some ⟨D,0,none⟩),.int .i64 need,.slice R r rc] 103))
 clear h h0
 cases hb:R.isSome<;>simp only [hb]at HDC<;>(
  clear hb
  go_enter Tryz.func24,Tryz.ntmps24
  go_wp2_with fail
  refine HN.out.mono ?_
  rintro e w1 ⟨rfl,rfl⟩
  go_wp2_with fail
  refine wp_loop_rounds 3 ?_
  rw [rounds_succ]
  go_wp2_with (first
   | (refine ldpre (cs:=[.pointer (some ⟨D,0,none⟩),.int .i64 need,.slice R r rc]) rfl 103 (.tmp 14) rfl rfl hG _ Tryz.underlying103 rfl (by rw [infoBk];rfl) ?_)
   | (refine ldrow (cs:=[.pointer (some ⟨D,0,none⟩),.int .i64 need,.slice R r rc]) rfl 103 (.tmp 4) rfl rfl hX _ Tryz.underlying103 rfl (by rw [infoBk];rfl) ?_))
  refine(HDC.out _).mono ?_
  rintro e w2 ⟨rfl,hB⟩
  have HB:=Lib.hid (HB0.out.trans (hB.mono HB0.out.size))
  clear hB hX hG c4
  go_wp2_with fail
  rw [rounds_succ]
  go_wp2
  go_ret
  exact⟨rfl,HB.out⟩)
end Go.Proofs.YtkdfefpnhaebfaaGreat
