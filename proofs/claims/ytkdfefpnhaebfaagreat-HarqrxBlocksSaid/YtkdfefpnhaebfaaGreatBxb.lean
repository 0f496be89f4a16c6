/- Bundle. Conditions: none. -/
import Derived.Test.YtkdfefpnhaebfaaGreatBxa
import Derived.Test.YtkdfefpnhaebfaaGreatBwobn
import Derived.Test.YtkdfefpnhaebfaaGreatBwobo
import Derived.Test.YtkdfefpnhaebfaaGreatBwobp
import Derived.Test.YtkdfefpnhaebfaaGreatBwobq
import Derived.Deep.Slices
import Derived.Lib.SmallJoins
set_option linter.unusedVariables false
set_option linter.unusedSimpArgs false
set_option linter.unusedSectionVars false
namespace Go.Proofs.YtkdfefpnhaebfaaGreat
set_option maxRecDepth 100000
set_option maxHeartbeats 8000000
open Go.RowKit
attribute [local go_sem] Oper.semAt_some
theorem spE_cases(s bt md l rv:Int)(n:Nat):spE s bt md l rv n=0∨spE s bt md l rv n=2∨spE s bt md l rv n=10:=by
 unfold spE
 split
 · exact .inr (.inl rfl)
 · split
   · exact .inr (.inr rfl)
   · exact .inl rfl
theorem recv_no{w:World}{base P:Nat}{half st sz lm:Int}{A0:Option Addr}{n0 c0:Nat}(h:PrP w base P half st sz lm A0 n0 c0)(h0:half≠0)(s bt md l rv:Int)(fresh:Bool)(A:Option Addr)(n c:Nat)(ys:List Int)(hy:Rd .i64 w A n c ys)(hs:s≤472)(hE:rcE st sz lm s bt md l rv fresh ys n≠0) :
 Calls Tryz.prog 15 #[.pointer (some ⟨P,0,none⟩),.agg #[.int .i64 s,.int .i64 bt,.int .i64 md,.int .i64 l,.int .i64 rv],.bool fresh,.slice A n c] w fun e w'=>e= .returned (.tuple #[.slice none 0 0,.int .i64 0,.int .i64 (rcE st sz lm s bt md l rv fresh ys n)])∧Below w.heap.size w w':=by
 have HN0:=Lib.hid (pnone_any (h.below (bal (Below.refl w.heap.size w) (.cells #[.int .i64 s,.int .i64 bt,.int .i64 md,.int .i64 l,.int .i64 rv] 36))) h0)
 have HB1:=Lib.hid (bal (Below.refl w.heap.size w) (.cells #[.int .i64 s,.int .i64 bt,.int .i64 md,.int .i64 l,.int .i64 rv] 36))
 have HP1:=Lib.hid (h.below HB1.out)
 have hC1:=Blk.new w [.int .i64 s,.int .i64 bt,.int .i64 md,.int .i64 l,.int .i64 rv] 36 rfl
 have HC1:=Lib.hid hC1
 have HY1:=Lib.hid (Rdv.below hy HB1.out)
 have HSP:=Lib.hid (split1 s bt md l rv A n c ys (w.alloc (.cells #[.int .i64 s,.int .i64 bt,.int .i64 md,.int .i64 l,.int .i64 rv] 36)) HY1.out (by omega))
 have hsp:=spE_cases s bt md l rv n
 obtain⟨E,hEe⟩:∃ E,E=rcE st sz lm s bt md l rv fresh ys n:=⟨_,rfl⟩
 rw [← hEe]at hE ⊢
 unfold rcE at hEe
 unfold SpQ at HSP
 generalize spE s bt md l rv n=sp at *
 by_cases h2:sp=2
 · rw [if_pos (.inl h2)]at hEe
   subst h2
   subst hEe
   clear h h0 hy hs hE hsp
   cases fresh<;>(
    go_enter Tryz.func15,Tryz.ntmps15
    go_wp2_with fail
    refine HN0.out.mono ?_
    rintro e wx ⟨rfl,hwx⟩
    rw [← hwx]
    clear hwx
    generalize w.alloc (.cells #[.int .i64 s,.int .i64 bt,.int .i64 md,.int .i64 l,.int .i64 rv] 36)=w1 at *
    go_wp2_with (refine ldrow (cs:=[.int .i64 s,.int .i64 bt,.int .i64 md,.int .i64 l,.int .i64 rv]) rfl 36 (.tmp 5) rfl rfl hC1 _ Tryz.underlying36 rfl (by rw [infoCf];rfl) ?_)
    refine HSP.out.mono ?_
    rintro e w2 ⟨hB2,PA,nP,cP,rfl,hok⟩
    have HP2:=Lib.hid (HP1.out.below hB2)
    have HC2:=Lib.hid (HC1.out.below hB2)
    have HB2:=Lib.hid (HB1.out.trans (hB2.mono HB1.out.size))
    have HY2:=Lib.hid (Rdv.below HY1.out hB2)
    have cst:=HP2.out.p.cell (j:=1) (v:=.int .i64 st) rfl
    have csz:=HP2.out.p.cell (j:=2) (v:=.int .i64 sz) rfl
    have clm:=HP2.out.p.cell (j:=3) (v:=.int .i64 lm) rfl
    have cs:=HC2.out.cell (j:=0) (v:=.int .i64 s) rfl
    have cl:=HC2.out.cell (j:=3) (v:=.int .i64 l) rfl
    go_wp2
    go_ret3
    exact⟨rfl,HB2.out⟩)
 · have HV:=Lib.hid (fun W hW=>svalid_any A n c ys W hW)
   have q2:=beq_f h2
   by_cases hv:SoftB ys=false
   · rw [if_pos (.inr hv)]at hEe
     rw [hv]at HV
     subst hEe
     clear h h0 hy hs hE hsp h2
     cases fresh<;>(
      go_enter Tryz.func15,Tryz.ntmps15
      go_wp2_with fail
      refine HN0.out.mono ?_
      rintro e wx ⟨rfl,hwx⟩
      rw [← hwx]
      clear hwx
      generalize w.alloc (.cells #[.int .i64 s,.int .i64 bt,.int .i64 md,.int .i64 l,.int .i64 rv] 36)=w1 at *
      go_wp2_with (refine ldrow (cs:=[.int .i64 s,.int .i64 bt,.int .i64 md,.int .i64 l,.int .i64 rv]) rfl 36 (.tmp 5) rfl rfl hC1 _ Tryz.underlying36 rfl (by rw [infoCf];rfl) ?_)
      refine HSP.out.mono ?_
      rintro e w2 ⟨hB2,PA,nP,cP,rfl,hok⟩
      have HP2:=Lib.hid (HP1.out.below hB2)
      have HC2:=Lib.hid (HC1.out.below hB2)
      have HB2:=Lib.hid (HB1.out.trans (hB2.mono HB1.out.size))
      have HY2:=Lib.hid (Rdv.below HY1.out hB2)
      have cst:=HP2.out.p.cell (j:=1) (v:=.int .i64 st) rfl
      have csz:=HP2.out.p.cell (j:=2) (v:=.int .i64 sz) rfl
      have clm:=HP2.out.p.cell (j:=3) (v:=.int .i64 lm) rfl
      have cs:=HC2.out.cell (j:=0) (v:=.int .i64 s) rfl
      have cl:=HC2.out.cell (j:=3) (v:=.int .i64 l) rfl
      go_wp2_with fail
      refine(HV.out w2 HY2.out).mono ?_
      rintro e w3 ⟨rfl,hB3⟩
      have HB3:=Lib.hid (HB2.out.trans (hB3.mono HB2.out.size))
      clear hB3
      go_wp2
      go_ret3
      exact⟨rfl,HB3.out⟩)
   · rw [Bool.not_eq_false]at hv
     rw [hv]at HV
     rw [if_neg (by rintro(h | h);exact h2 h;rw [hv]at h;cases h)]at hEe
     by_cases hm:(fresh=false∧st≠0)∧(s≠sz∨l≠lm)
     · rw [if_pos hm]at hEe
       obtain⟨⟨rfl,hst⟩,hm⟩:=hm
       have q3:=beq_f hst
       subst hEe
       clear h h0 hy hs hE hsp h2 hv
       by_cases hsz:s=sz
       · have hlm:l≠lm:=hm.resolve_left (fun h=>h hsz)
         have q5:(s != sz)=false:=bne_f hsz
         have q6:(l != lm)=true:=bne_t hlm
         clear hsz hlm hm hst
         go_enter Tryz.func15,Tryz.ntmps15
         go_wp2_with fail
         refine HN0.out.mono ?_
         rintro e wx ⟨rfl,hwx⟩
         rw [← hwx]
         clear hwx
         generalize w.alloc (.cells #[.int .i64 s,.int .i64 bt,.int .i64 md,.int .i64 l,.int .i64 rv] 36)=w1 at *
         go_wp2_with (refine ldrow (cs:=[.int .i64 s,.int .i64 bt,.int .i64 md,.int .i64 l,.int .i64 rv]) rfl 36 (.tmp 5) rfl rfl hC1 _ Tryz.underlying36 rfl (by rw [infoCf];rfl) ?_)
         refine HSP.out.mono ?_
         rintro e w2 ⟨hB2,PA,nP,cP,rfl,hok⟩
         have HP2:=Lib.hid (HP1.out.below hB2)
         have HC2:=Lib.hid (HC1.out.below hB2)
         have HB2:=Lib.hid (HB1.out.trans (hB2.mono HB1.out.size))
         have HY2:=Lib.hid (Rdv.below HY1.out hB2)
         have cst:=HP2.out.p.cell (j:=1) (v:=.int .i64 st) rfl
         have csz:=HP2.out.p.cell (j:=2) (v:=.int .i64 sz) rfl
         have clm:=HP2.out.p.cell (j:=3) (v:=.int .i64 lm) rfl
         have cs:=HC2.out.cell (j:=0) (v:=.int .i64 s) rfl
         have cl:=HC2.out.cell (j:=3) (v:=.int .i64 l) rfl
         go_wp2_with fail
         refine(HV.out w2 HY2.out).mono ?_
         rintro e w3 ⟨rfl,hB3⟩
         have csz:=(HP2.out.below hB3).p.cell (j:=2) (v:=.int .i64 sz) rfl
         have clm:=(HP2.out.below hB3).p.cell (j:=3) (v:=.int .i64 lm) rfl
         have cs:=(HC2.out.below hB3).cell (j:=0) (v:=.int .i64 s) rfl
         have cl:=(HC2.out.below hB3).cell (j:=3) (v:=.int .i64 l) rfl
         have HB3:=Lib.hid (HB2.out.trans (hB3.mono HB2.out.size))
         clear hB3 cst
         go_wp2_with fail
         go_quiet (fail)
         go_wp2
         go_ret3
         exact⟨rfl,HB3.out.trans (Qt.below ⟨_,rfl⟩ _)⟩
       · have q5:(s != sz)=true:=bne_t hsz
         clear hsz hm hst
         go_enter Tryz.func15,Tryz.ntmps15
         go_wp2_with fail
         refine HN0.out.mono ?_
         rintro e wx ⟨rfl,hwx⟩
         rw [← hwx]
         clear hwx
         generalize w.alloc (.cells #[.int .i64 s,.int .i64 bt,.int .i64 md,.int .i64 l,.int .i64 rv] 36)=w1 at *
         go_wp2_with (refine ldrow (cs:=[.int .i64 s,.int .i64 bt,.int .i64 md,.int .i64 l,.int .i64 rv]) rfl 36 (.tmp 5) rfl rfl hC1 _ Tryz.underlying36 rfl (by rw [infoCf];rfl) ?_)
         refine HSP.out.mono ?_
         rintro e w2 ⟨hB2,PA,nP,cP,rfl,hok⟩
         have HP2:=Lib.hid (HP1.out.below hB2)
         have HC2:=Lib.hid (HC1.out.below hB2)
         have HB2:=Lib.hid (HB1.out.trans (hB2.mono HB1.out.size))
         have HY2:=Lib.hid (Rdv.below HY1.out hB2)
         have cst:=HP2.out.p.cell (j:=1) (v:=.int .i64 st) rfl
         have csz:=HP2.out.p.cell (j:=2) (v:=.int .i64 sz) rfl
         have clm:=HP2.out.p.cell (j:=3) (v:=.int .i64 lm) rfl
         have cs:=HC2.out.cell (j:=0) (v:=.int .i64 s) rfl
         have cl:=HC2.out.cell (j:=3) (v:=.int .i64 l) rfl
         go_wp2_with fail
         refine(HV.out w2 HY2.out).mono ?_
         rintro e w3 ⟨rfl,hB3⟩
         have csz:=(HP2.out.below hB3).p.cell (j:=2) (v:=.int .i64 sz) rfl
         have clm:=(HP2.out.below hB3).p.cell (j:=3) (v:=.int .i64 lm) rfl
         have cs:=(HC2.out.below hB3).cell (j:=0) (v:=.int .i64 s) rfl
         have cl:=(HC2.out.below hB3).cell (j:=3) (v:=.int .i64 l) rfl
         have HB3:=Lib.hid (HB2.out.trans (hB3.mono HB2.out.size))
         clear hB3 cst
         go_wp2_with fail
         go_quiet (fail)
         go_wp2
         go_ret3
         exact⟨rfl,HB3.out.trans (Qt.below ⟨_,rfl⟩ _)⟩
     · rw [if_neg hm]at hEe
       obtain rfl:sp=10:=by omega
       subst hEe
       clear h h0 hy hs hE hsp h2 hv
       cases fresh with
       | true =>
         clear hm
         go_enter Tryz.func15,Tryz.ntmps15
         go_wp2_with fail
         refine HN0.out.mono ?_
         rintro e wx ⟨rfl,hwx⟩
         rw [← hwx]
         clear hwx
         generalize w.alloc (.cells #[.int .i64 s,.int .i64 bt,.int .i64 md,.int .i64 l,.int .i64 rv] 36)=w1 at *
         go_wp2_with (refine ldrow (cs:=[.int .i64 s,.int .i64 bt,.int .i64 md,.int .i64 l,.int .i64 rv]) rfl 36 (.tmp 5) rfl rfl hC1 _ Tryz.underlying36 rfl (by rw [infoCf];rfl) ?_)
         refine HSP.out.mono ?_
         rintro e w2 ⟨hB2,PA,nP,cP,rfl,hok⟩
         have HP2:=Lib.hid (HP1.out.below hB2)
         have HC2:=Lib.hid (HC1.out.below hB2)
         have HB2:=Lib.hid (HB1.out.trans (hB2.mono HB1.out.size))
         have HY2:=Lib.hid (Rdv.below HY1.out hB2)
         have cst:=HP2.out.p.cell (j:=1) (v:=.int .i64 st) rfl
         have csz:=HP2.out.p.cell (j:=2) (v:=.int .i64 sz) rfl
         have clm:=HP2.out.p.cell (j:=3) (v:=.int .i64 lm) rfl
         have cs:=HC2.out.cell (j:=0) (v:=.int .i64 s) rfl
         have cl:=HC2.out.cell (j:=3) (v:=.int .i64 l) rfl
         go_wp2_with fail
         refine(HV.out w2 HY2.out).mono ?_
         rintro e w3 ⟨rfl,hB3⟩
         have csz:=(HP2.out.below hB3).p.cell (j:=2) (v:=.int .i64 sz) rfl
         have clm:=(HP2.out.below hB3).p.cell (j:=3) (v:=.int .i64 lm) rfl
         have cs:=(HC2.out.below hB3).cell (j:=0) (v:=.int .i64 s) rfl
         have cl:=(HC2.out.below hB3).cell (j:=3) (v:=.int .i64 l) rfl
         have HB3:=Lib.hid (HB2.out.trans (hB3.mono HB2.out.size))
         clear hB3 cst
         go_wp2_with fail
         go_quiet (fail)
         go_wp2
         go_ret3
         exact⟨rfl,HB3.out.trans (Qt.below ⟨_,rfl⟩ _)⟩
       | false =>
         by_cases hst:st=0
         · have q3:(st == 0)=true:=by simp [hst]
           clear hm hst
           go_enter Tryz.func15,Tryz.ntmps15
           go_wp2_with fail
           refine HN0.out.mono ?_
           rintro e wx ⟨rfl,hwx⟩
           rw [← hwx]
           clear hwx
           generalize w.alloc (.cells #[.int .i64 s,.int .i64 bt,.int .i64 md,.int .i64 l,.int .i64 rv] 36)=w1 at *
           go_wp2_with (refine ldrow (cs:=[.int .i64 s,.int .i64 bt,.int .i64 md,.int .i64 l,.int .i64 rv]) rfl 36 (.tmp 5) rfl rfl hC1 _ Tryz.underlying36 rfl (by rw [infoCf];rfl) ?_)
           refine HSP.out.mono ?_
           rintro e w2 ⟨hB2,PA,nP,cP,rfl,hok⟩
           have HP2:=Lib.hid (HP1.out.below hB2)
           have HC2:=Lib.hid (HC1.out.below hB2)
           have HB2:=Lib.hid (HB1.out.trans (hB2.mono HB1.out.size))
           have HY2:=Lib.hid (Rdv.below HY1.out hB2)
           have cst:=HP2.out.p.cell (j:=1) (v:=.int .i64 st) rfl
           have csz:=HP2.out.p.cell (j:=2) (v:=.int .i64 sz) rfl
           have clm:=HP2.out.p.cell (j:=3) (v:=.int .i64 lm) rfl
           have cs:=HC2.out.cell (j:=0) (v:=.int .i64 s) rfl
           have cl:=HC2.out.cell (j:=3) (v:=.int .i64 l) rfl
           go_wp2_with fail
           refine(HV.out w2 HY2.out).mono ?_
           rintro e w3 ⟨rfl,hB3⟩
           have csz:=(HP2.out.below hB3).p.cell (j:=2) (v:=.int .i64 sz) rfl
           have clm:=(HP2.out.below hB3).p.cell (j:=3) (v:=.int .i64 lm) rfl
           have cs:=(HC2.out.below hB3).cell (j:=0) (v:=.int .i64 s) rfl
           have cl:=(HC2.out.below hB3).cell (j:=3) (v:=.int .i64 l) rfl
           have HB3:=Lib.hid (HB2.out.trans (hB3.mono HB2.out.size))
           clear hB3 cst
           go_wp2_with fail
           go_quiet (fail)
           go_wp2
           go_ret3
           exact⟨rfl,HB3.out.trans (Qt.below ⟨_,rfl⟩ _)⟩
         · have q3:=beq_f hst
           have q5:(s != sz)=false:=bne_f (by apply Classical.byContradiction;intro h9;exact hm ⟨⟨rfl,hst⟩,.inl h9⟩)
           have q6:(l != lm)=false:=bne_f (by apply Classical.byContradiction;intro h9;exact hm ⟨⟨rfl,hst⟩,.inr h9⟩)
           clear hm hst
           go_enter Tryz.func15,Tryz.ntmps15
           go_wp2_with fail
           refine HN0.out.mono ?_
           rintro e wx ⟨rfl,hwx⟩
           rw [← hwx]
           clear hwx
           generalize w.alloc (.cells #[.int .i64 s,.int .i64 bt,.int .i64 md,.int .i64 l,.int .i64 rv] 36)=w1 at *
           go_wp2_with (refine ldrow (cs:=[.int .i64 s,.int .i64 bt,.int .i64 md,.int .i64 l,.int .i64 rv]) rfl 36 (.tmp 5) rfl rfl hC1 _ Tryz.underlying36 rfl (by rw [infoCf];rfl) ?_)
           refine HSP.out.mono ?_
           rintro e w2 ⟨hB2,PA,nP,cP,rfl,hok⟩
           have HP2:=Lib.hid (HP1.out.below hB2)
           have HC2:=Lib.hid (HC1.out.below hB2)
           have HB2:=Lib.hid (HB1.out.trans (hB2.mono HB1.out.size))
           have HY2:=Lib.hid (Rdv.below HY1.out hB2)
           have cst:=HP2.out.p.cell (j:=1) (v:=.int .i64 st) rfl
           have csz:=HP2.out.p.cell (j:=2) (v:=.int .i64 sz) rfl
           have clm:=HP2.out.p.cell (j:=3) (v:=.int .i64 lm) rfl
           have cs:=HC2.out.cell (j:=0) (v:=.int .i64 s) rfl
           have cl:=HC2.out.cell (j:=3) (v:=.int .i64 l) rfl
           go_wp2_with fail
           refine(HV.out w2 HY2.out).mono ?_
           rintro e w3 ⟨rfl,hB3⟩
           have csz:=(HP2.out.below hB3).p.cell (j:=2) (v:=.int .i64 sz) rfl
           have clm:=(HP2.out.below hB3).p.cell (j:=3) (v:=.int .i64 lm) rfl
           have cs:=(HC2.out.below hB3).cell (j:=0) (v:=.int .i64 s) rfl
           have cl:=(HC2.out.below hB3).cell (j:=3) (v:=.int .i64 l) rfl
           have HB3:=Lib.hid (HB2.out.trans (hB3.mono HB2.out.size))
           clear hB3 cst
           go_wp2_with fail
           go_quiet (fail)
           go_wp2
           go_ret3
           exact⟨rfl,HB3.out.trans (Qt.below ⟨_,rfl⟩ _)⟩
end Go.Proofs.YtkdfefpnhaebfaaGreat
namespace Go.Proofs.YtkdfefpnhaebfaaGreat
open Go.RowKit
attribute [local go_sem] Oper.semAt_some
theorem HzP.below{W W':World}{base P:Nat}{half:Int}{z:Zs}{N:Nat}{F:List Nat}(h:HzP W base P half z N F)(hB:Below W.heap.size W W'):HzP W' base P half z N F:=by
 obtain⟨G,cap,D,V,vc,R,r,rc,rest,hF,hq⟩:=h.h
 exact⟨⟨G,cap,D,V,vc,R,r,rc,rest,hF,hq.below hB⟩,h.s,h.l,h.c,h.t,h.b⟩
end Go.Proofs.YtkdfefpnhaebfaaGreat
namespace Go.Proofs.YtkdfefpnhaebfaaGreat
set_option maxRecDepth 100000
set_option maxHeartbeats 8000000
open Go.RowKit
attribute [local go_sem] Oper.semAt_some
theorem recv_more{w:World}{base P:Nat}{half:Int}{z:Zs}{N:Nat}{F:List Nat}(hz:HzP w base P half z N F)(h1:z.st=1)(h0:half≠0)(hb:base≤w.heap.size)(hN:N≤800000000)(rn:Nat)(bt md:Int)(A:Option Addr)(n c:Nat)(ys:List Int)(hy:Rd .i64 w A n c ys)(hE:rcE z.st z.sz z.lm z.sz bt md z.lm (rn:Int) false ys n=0) :
 Calls Tryz.prog 15 #[.pointer (some ⟨P,0,none⟩),.agg #[.int .i64 z.sz,.int .i64 bt,.int .i64 md,.int .i64 z.lm,.int .i64 (rn:Int)],.bool false,.slice A n c] w (RcQ w base P half z rn n ys F N):=by
 obtain⟨st,sz,lm,vs,cnt,b⟩:=z
 obtain⟨⟨G,cap,D,V,vc,R,r,rc,rest,rfl,hq⟩,hs,hl,hcn,-,hbl⟩:=hz
 simp only at *
 subst h1
 have h:=hq.a.p
 obtain⟨hsp,hsb,-⟩:=rcE_zero hE
 obtain⟨hvc,hnb,hus⟩:=spE_zero hsp
 obtain⟨v1,v2,v3,v4,v5,v6⟩:=vc_inv hvc
 have HN0:=Lib.hid (pnone_any (h.below (bal (Below.refl w.heap.size w) (.cells #[.int .i64 sz,.int .i64 bt,.int .i64 md,.int .i64 lm,.int .i64 (rn:Int)] 36))) h0)
 have HB1:=Lib.hid (bal (Below.refl w.heap.size w) (.cells #[.int .i64 sz,.int .i64 bt,.int .i64 md,.int .i64 lm,.int .i64 (rn:Int)] 36))
 have HP1:=Lib.hid (h.below HB1.out)
 have hC1:=Blk.new w [.int .i64 sz,.int .i64 bt,.int .i64 md,.int .i64 lm,.int .i64 (rn:Int)] 36 rfl
 have HC1:=Lib.hid hC1
 have HY1:=Lib.hid (Rdv.below hy HB1.out)
 have HSP:=Lib.hid (split1 sz bt md lm (rn:Int) A n c ys (w.alloc (.cells #[.int .i64 sz,.int .i64 bt,.int .i64 md,.int .i64 lm,.int .i64 (rn:Int)] 36)) HY1.out (by omega))
 have HBS:=Lib.hid hb
 have HQ:=Lib.hid hq
 have HKB:=Lib.hid (kS_bd hs.1 hs.2)
 have HSS:=Lib.hid hs
 have HL1:=Lib.hid v5
 have HRN:Hid (rn≤3):=Lib.hid (by omega)
 have HNN:Hid (n≤131072):=Lib.hid (by omega)
 have HUS:=Lib.hid hus
 have HSB:=Lib.hid hsb
 have HCN:Hid (0≤cnt∧cnt≤900000000):=Lib.hid (by omega)
 have HCC:=Lib.hid hcn
 have HBL:=Lib.hid hbl
 unfold SpQ at HSP
 rw [hsp]at HSP
 have HV:=Lib.hid (fun W hW=>svalid_any A n c ys W hW)
 rw [hsb]at HV
 clear h h0 hy hs hE hsp hsb hvc hnb hus v1 v2 v3 v4 v5 v6 hb hq hl hcn hbl
 go_enter Tryz.func15,Tryz.ntmps15
 go_wp2_with fail
 refine HN0.out.mono ?_
 rintro e wx ⟨rfl,hwx⟩
 rw [← hwx]
 clear hwx
 generalize w.alloc (.cells #[.int .i64 sz,.int .i64 bt,.int .i64 md,.int .i64 lm,.int .i64 (rn:Int)] 36)=w1 at *
 go_wp2_with (refine ldrow (cs:=[.int .i64 sz,.int .i64 bt,.int .i64 md,.int .i64 lm,.int .i64 (rn:Int)]) rfl 36 (.tmp 5) rfl rfl hC1 _ Tryz.underlying36 rfl (by rw [infoCf];rfl) ?_)
 refine HSP.out.mono ?_
 rintro e w2 ⟨hB2,PA,nP,cP,rfl,hok⟩
 have HP2:=Lib.hid (HP1.out.below hB2)
 have HC2:=Lib.hid (HC1.out.below hB2)
 have HB2:=Lib.hid (HB1.out.trans (hB2.mono HB1.out.size))
 have HY2:=Lib.hid (Rdv.below HY1.out hB2)
 have cst:=HP2.out.p.cell (j:=1) (v:=.int .i64 1) rfl
 have csz:=HP2.out.p.cell (j:=2) (v:=.int .i64 sz) rfl
 have clm:=HP2.out.p.cell (j:=3) (v:=.int .i64 lm) rfl
 have cs:=HC2.out.cell (j:=0) (v:=.int .i64 sz) rfl
 have cl:=HC2.out.cell (j:=3) (v:=.int .i64 lm) rfl
 obtain⟨rfl,hPAf,Q,qc,hpa,hqr,hqf⟩:=hok trivial
 go_wp2_with fail
 refine(HV.out w2 HY2.out).mono ?_
 rintro e w3 ⟨rfl,hB3⟩
 have csz3:=(HP2.out.below hB3).p.cell (j:=2) (v:=.int .i64 sz) rfl
 have clm3:=(HP2.out.below hB3).p.cell (j:=3) (v:=.int .i64 lm) rfl
 have cs3:=(HC2.out.below hB3).cell (j:=0) (v:=.int .i64 sz) rfl
 have cl3:=(HC2.out.below hB3).cell (j:=3) (v:=.int .i64 lm) rfl
 have q5:(sz != sz)=false:=bne_f rfl
 have q6:(lm != lm)=false:=bne_f rfl
 go_wp2_with fail
 go_quiet (fail)
 have HB4:Hid (Below w.heap.size w (w3.drewN nq)):=Lib.hid ((HB2.out.trans (hB3.mono HB2.out.size)).trans (Qt.below ⟨nq,rfl⟩ _))
 have HC5:=Lib.hid ((HC2.out.below hB3).drewN nq)
 have HPA5:=Lib.hid (Rdv.drewN (Rdv.below hpa hB3) nq)
 have HQR5:Hid (Rd .i64 (w3.drewN nq) Q n qc ys):=Lib.hid (Rdv.drewN (Rdv.below hqr hB3) nq)
 have HPF:Hid (Q≠none→w.heap.size≤blk Q):=Lib.hid (fun hA=>Nat.le_trans HB1.out.size (hqf hA).1)
 generalize w3.drewN nq=w5 at *
 have HQ5:Hid (HqP w5 base P half 1 sz lm G cap D (kS sz) (fS sz) V vc vs cnt R r rc rest b):=Lib.hid (HQ.out.below HB4.out)
 have HB5:Hid (Below base w w5):=Lib.hid (HB4.out.mono HBS.out)
 have HK5:Hid (∀ q,q<w.heap.size→q≠P→w5.heap[q]?=w.heap[q]?):=Lib.hid (fun q hq _=>HB4.out.block q hq)
 have HQV:Hid (Q≠none→blk Q≠blk V):=Lib.hid (fun hA=>by have h1:=HPF.out hA;have h2:=(Ownv.blk_of HQ.out.d.v HQ.out.d.ne).2;omega)
 have HNF:Hid (∀ q,q<w.heap.size→q ∉ [G,D,blk V]→q≠G∧q≠D∧q≠blk V):=Lib.hid (fun q hq h=>by simpa using h)
 have HFR:Hid (∀ x,x ∈ [G,D,blk V]→x ∈ [G,D,blk V]∨w.heap.size≤x):=Lib.hid (fun x hx=>.inl hx)
 clear hB3 hpa hqr hqf hPAf cst csz clm cs cl hB2 csz3 clm3 cs3 cl3 q5 q6 hok
 have cst5:=HQ5.out.a.p.p.cell (j:=1) (v:=.int .i64 1) rfl
 have crv:=HC5.out.cell (j:=4) (v:=.int .i64 (rn:Int)) rfl
 have HW5:Hid (base≤w5.heap.size):=Lib.hid (Nat.le_trans HBS.out HB5.out.size)
 go_wp2_with fail
 refine(combine_any HQ5.out HW5.out ⟨HKB.out.1,HKB.out.2.1⟩ HKB.out.2.2 HL1.out rn n HRN.out HNN.out HCN.out HUS.out PA cP Q qc ys HPA5.out HQR5.out HSB.out HQV.out).mono ?_
 rintro e w6 ⟨⟨v6,rfl⟩,hB6,hK6,T,R6,r6,rc6,hT,hQ6⟩
 have hpick:Cr.selL (b1 sz lm) (Cr.stS (kS sz) (Cr.szB (kS sz) lm) rn) (Cr.szB (kS sz) lm) T=slP sz lm rn n:=Cr.pick_of (b1_len HL1.out) HUS.out hT
 have hQ6:HqP w6 base P half 1 sz lm G cap D (kS sz) (fS sz) V vc (cmbL (Cr.selL (b1 sz lm) (Cr.stS (kS sz) (Cr.szB (kS sz) lm) rn) (Cr.szB (kS sz) lm) T) ys vs n) (cnt+n) R6 r6 rc6 rest (dcB (cmbL (Cr.selL (b1 sz lm) (Cr.stS (kS sz) (Cr.szB (kS sz) lm) rn) (Cr.szB (kS sz) lm) T) ys vs n) (kS sz) (fS sz) half b):=hQ6
 rw [hpick]at hQ6
 have hlen:=Rd.len (Own.rd hQ6.d.v)
 have hdl:=dcB_len (k:=kS sz) (f:=fS sz) (half:=half) (b:=b) (by rw [hlen];have:=HKB.out;omega:(cmbL (slP sz lm rn n) ys vs n).length≤1500) HBL.out
 have HDL:=Lib.hid hdl
 have HQ6:=Lib.hid hQ6
 have HB6:=Lib.hid (HB5.out.trans hB6)
 have HK6:=Lib.hid hK6
 have HS6:Hid (w5.heap.size≤w6.heap.size):=Lib.hid hB6.size
 have HF:=Lib.hid (finish_any hQ6 (Nat.le_trans HBS.out HB6.out.size) (btp_len hQ6.t hdl))
 clear hT hQ6 hpick hlen hdl hB6 hK6 cst5 crv
 go_wp2_with fail
 refine HF.out.mono ?_
 rintro e w7 ⟨A7,n7,c7,R7,r7,rc7,rfl,hR7,hB7,hK7,hQ7⟩
 have HR7:=Lib.hid hR7
 have HB7:=Lib.hid (HB6.out.trans hB7)
 have HK7:=Lib.hid hK7
 have HQ7:=Lib.hid hQ7
 clear hR7 hB7 hK7 hQ7
 go_wp2
 go_ret3
 refine⟨A7,n7,c7,[G,D,blk V],rfl,HR7.out,HB7.out,⟨⟨G,cap,D,V,_,R7,r7,rc7,rest,rfl,HQ7.out⟩,HSS.out,HL1.out,?_,fnS_cases _ _,fnB_len HDL.out⟩,fun q hq hP hF=>?_,HFR.out⟩
 · have:=HCC.out
   show 0≤cnt+(n:Int)∧cnt+(n:Int)≤((N+n:Nat):Int)
   omega
 · have h5:q<w5.heap.size:=Nat.lt_of_lt_of_le hq HB5.out.size
   obtain⟨hG,hD,hV⟩:=HNF.out q hq hF
   exact((HK7.out q (Nat.lt_of_lt_of_le h5 HS6.out) hP hG).trans (HK6.out q h5 hG hD hV)).trans (HK5.out q hq hP)
end Go.Proofs.YtkdfefpnhaebfaaGreat
namespace Go.Proofs.YtkdfefpnhaebfaaGreat
open Go.RowKit Go.ChangeShapes Go.WideShapes Go.Deep Go.Joins
set_option maxRecDepth 100000
structure ActV where
 kd:Int
 s:Int
 bt:Int
 md:Int
 lm:Int
 rv:Int
 fr:Bool
 A:Option Addr
 n:Nat
 c:Nat
 xs:List Int
def ActV.cf(a:ActV):List Value:=[.int .i64 a.s,.int .i64 a.bt,.int .i64 a.md,.int .i64 a.lm,.int .i64 a.rv]
def ActV.cells(a:ActV):List Value:=[.int .i64 a.kd,.int .i64 a.s,.int .i64 a.bt,.int .i64 a.md,.int .i64 a.lm,.int .i64 a.rv,.bool a.fr,.slice a.A a.n a.c]
structure ActV.ok (a:ActV) (w:World):Prop where
 v:Rd .i64 w a.A a.n a.c a.xs
 s:(Lit.int .i64 a.s).wf=true
 bt:(Lit.int .i64 a.bt).wf=true
 md:(Lit.int .i64 a.md).wf=true
 lm:(Lit.int .i64 a.lm).wf=true
 rv:(Lit.int .i64 a.rv).wf=true
 kd:(Lit.int .i64 a.kd).wf=true
theorem ActV.ok.below{a:ActV}{w w':World}(h:a.ok w)(hB:Below w.heap.size w w'):a.ok w':=⟨Rdv.below h.v hB,h.s,h.bt,h.md,h.lm,h.rv,h.kd⟩
section
variable {H : Type} {enc : TypeId × Value → H} {w : World} {base : Nat} {held : Bool}
theorem trod_ints{fuel:Nat}{cs:List Value}{x:DataW H × List MemPlace}(h:DataW.trod enc Tryz.prog w base (fun _=>true) held fuel 39 cs=some x) :
 ∃ A n c xs,cs=[.slice A n c]∧Rd .i64 w A n c xs:=by
 rcases open_ints Tryz.underlying39 Tryz.underlying3 (by kernel_rfl) h with⟨hcs,_⟩ | ⟨a,l,c,zs,hcs,_,hl,hm,hz,_,hcell,hwz⟩
 · exact⟨none,0,0,[],hcs,Rd.nilv _ _⟩
 · exact⟨some a,l,c,zs.take l,hcs,(rd_of_row (.inr ⟨a,rfl,hl,hm,by simpa using hz,hcell,hwz⟩)).1⟩
theorem trod_cf{fuel:Nat}{cs:List Value}{x:DataW H × List MemPlace}(h:DataW.trod enc Tryz.prog w base (fun _=>true) held fuel 36 cs=some x) :
 ∃ s bt md lm rv,cs=[.int .i64 s,.int .i64 bt,.int .i64 md,.int .i64 lm,.int .i64 rv]∧(Lit.int .i64 s).wf=true∧(Lit.int .i64 bt).wf=true∧(Lit.int .i64 md).wf=true∧(Lit.int .i64 lm).wf=true∧(Lit.int .i64 rv).wf=true:=by
 obtain⟨xs,n,_,rfl,hl,hlen,hf⟩:=DataW.trod_struct Tryz.underlying36 h
 have hc:Tryz.prog.cellsOf 36=5:=by kernel_rfl
 have k3:Tryz.prog.cellsOf 3=1:=by kernel_rfl
 have k38:Tryz.prog.cellsOf 34=1:=by kernel_rfl
 rw [hc]at hl
 match cs,hl,xs,hlen with
 | [c0,c1,c2,c3,c4],_,[y0,y1,y2,y3,y4],_ =>
   have g0:=hf 0 _ rfl
   have g1:=hf 1 _ rfl
   have g2:=hf 2 _ rfl
   have g3:=hf 3 _ rfl
   have g4:=hf 4 _ rfl
   simp [k3,k38]at g0 g1 g2 g3 g4
   obtain⟨s,e0,-,h0⟩:=DataW.trod_int Tryz.underlying3 g0
   obtain⟨bt,e1,-,h1⟩:=DataW.trod_int Tryz.underlying3 g1
   obtain⟨md,e2,-,h2⟩:=DataW.trod_int Tryz.underlying34 g2
   obtain⟨lm,e3,-,h3⟩:=DataW.trod_int Tryz.underlying3 g3
   obtain⟨rv,e4,-,h4⟩:=DataW.trod_int Tryz.underlying3 g4
   simp at e0 e1 e2 e3 e4
   subst e0 e1 e2 e3 e4
   exact⟨s,bt,md,lm,rv,rfl,h0,h1,h2,h3,h4⟩
theorem trod_act{fuel:Nat}{cs:List Value}{x:DataW H × List MemPlace}(h:DataW.trod enc Tryz.prog w base (fun _=>true) held fuel 52 cs=some x):∃ a:ActV,cs=a.cells∧a.ok w:=by
 obtain⟨y0,y1,y2,y3,n,-,hl,g0,g1,g2,g3⟩:=trod_struct4 Tryz.underlying52 h
 have hc:Tryz.prog.cellsOf 52=8:=by kernel_rfl
 have k3:Tryz.prog.cellsOf 3=1:=by kernel_rfl
 have k4:Tryz.prog.cellsOf 4=1:=by kernel_rfl
 have k5:Tryz.prog.cellsOf 36=5:=by kernel_rfl
 have k6:Tryz.prog.cellsOf 39=1:=by kernel_rfl
 rw [hc]at hl
 match cs,hl with
 | [c0,c1,c2,c3,c4,c5,c6,c7],_ =>
   simp [k3,k4,k5,k6]at g0 g1 g2 g3
   obtain⟨kd,e0,-,h0⟩:=DataW.trod_int Tryz.underlying3 g0
   obtain⟨s,bt,md,lm,rv,e1,h1,h2,h3,h4,h5⟩:=trod_cf g1
   obtain⟨fr,e2,-⟩:=DataW.trod_bool Tryz.underlying4 g2
   obtain⟨A,m,c,xs,e3,h6⟩:=trod_ints g3
   simp at e0 e1 e2 e3
   obtain⟨rfl,rfl,rfl,rfl,rfl⟩:=e1
   subst e0 e2 e3
   exact⟨⟨kd,s,bt,md,lm,rv,fr,A,m,c,xs⟩,rfl,h6,h1,h2,h3,h4,h5,h0⟩
end
end Go.Proofs.YtkdfefpnhaebfaaGreat
namespace Go.Proofs.YtkdfefpnhaebfaaGreat
open Go.RowKit
attribute [local go_sem] Oper.semAt_some
def NilV(W:World)(v:Value):Prop:=v= .pointer none∨∃ P,v= .pointer (some ⟨P,0,none⟩)∧Blk W P 72 [.int .i64 0,.int .i64 0,.int .i64 0,.int .i64 0,.slice none 0 0]
theorem NilV.below{W W':World}{v:Value}(h:NilV W v)(hB:Below W.heap.size W W'):NilV W' v:=by
 rcases h with h | ⟨P,h,hb⟩
 · exact .inl h
 · exact .inr ⟨P,h,hb.below hB⟩
end Go.Proofs.YtkdfefpnhaebfaaGreat
namespace Go.Proofs.YtkdfefpnhaebfaaGreat
open Go.RowKit
def zst:Option Zs→Int
 | none=>0
 | some z=>z.st
def zsz:Option Zs→Int
 | none=>0
 | some z=>z.sz
def zlm:Option Zs→Int
 | none=>0
 | some z=>z.lm
def PsZ(W:World)(base P:Nat)(half:Int)(zo:Option Zs)(N:Nat)(F:List Nat):Prop :=
 match zo with
 | none=>PrP W base P half 0 0 0 none 0 0∧F=[]
 | some z=>HzP W base P half z N F
theorem PsZ.p{W:World}{base P:Nat}{half:Int}{zo:Option Zs}{N:Nat}{F:List Nat}(h:PsZ W base P half zo N F):∃ A n c,PrP W base P half (zst zo) (zsz zo) (zlm zo) A n c:=by
 cases zo with
 | none=>exact⟨_,_,_,h.1⟩
 | some z =>
   obtain⟨G,cap,D,V,vc,R,r,rc,rest,-,hq⟩:=HzP.h h
   exact⟨_,_,_,hq.a.p⟩
theorem PsZ.below{W W':World}{base P:Nat}{half:Int}{zo:Option Zs}{N:Nat}{F:List Nat}(h:PsZ W base P half zo N F)(hB:Below W.heap.size W W'):PsZ W' base P half zo N F:=by
 cases zo with
 | none=>exact⟨PrP.below h.1 hB,h.2⟩
 | some z=>exact HzP.below h hB
def zOf(zo:Option Zs)(s l:Int)(fr:Bool):Zs :=
 match zo with
 | none=>zI s l
 | some z=>if fr=true∨z.st=0 then zI s l else z
noncomputable def stepZ (half:Int) (zo:Option Zs) (s bt md l rv:Int) (fr:Bool) (ys:List Int) (n:Nat):Option Zs :=
 if rcE (zst zo) (zsz zo) (zlm zo) s bt md l rv fr ys n≠0 then zo else if fr=false∧zst zo=2 then zo else some (nxZ half (zOf zo s l fr) rv.toNat n ys)
noncomputable def ackZ (half:Int) (zo:Option Zs) (s bt md l rv:Int) (fr:Bool) (ys:List Int) (n:Nat):Int :=
 if rcE (zst zo) (zsz zo) (zlm zo) s bt md l rv fr ys n≠0 then 0 else if fr=false∧zst zo=2 then 1 else fnK s (bZ half (zOf zo s l fr) rv.toNat n ys)
noncomputable def outZ (half:Int) (zo:Option Zs) (s bt md l rv:Int) (fr:Bool) (ys:List Int) (n:Nat):List Int :=
 if rcE (zst zo) (zsz zo) (zlm zo) s bt md l rv fr ys n≠0 then [] else if fr=false∧zst zo=2 then [] else fnO s (bZ half (zOf zo s l fr) rv.toNat n ys)
theorem recv_all{w:World}{base P:Nat}{half:Int}{zo:Option Zs}{N:Nat}{F:List Nat}(h:PsZ w base P half zo N F)(h0:half≠0)(hb:base≤w.heap.size)(hN:N≤800000000)(s bt md l rv:Int)(fr:Bool)(A:Option Addr)(n c:Nat)(ys:List Int)(hy:Rd .i64 w A n c ys)(hs:s≤472) :
 Calls Tryz.prog 15 #[.pointer (some ⟨P,0,none⟩),.agg #[.int .i64 s,.int .i64 bt,.int .i64 md,.int .i64 l,.int .i64 rv],.bool fr,.slice A n c] w fun e w' =>
  ∃ A' n' c' N' F',e= .returned (.tuple #[.slice A' n' c',.int .i64 (ackZ half zo s bt md l rv fr ys n),.int .i64 (rcE (zst zo) (zsz zo) (zlm zo) s bt md l rv fr ys n)])∧Rd .u8 w' A' n' c' (outZ half zo s bt md l rv fr ys n)∧Below base w w'∧PsZ w' base P half (stepZ half zo s bt md l rv fr ys n) N' F'∧N'≤N+n ∧
   (∀ q,q<w.heap.size→q≠P→q ∉ F→w'.heap[q]?=w.heap[q]?)∧(∀ x,x ∈ F'→x ∈ F∨w.heap.size≤x):=by
 obtain⟨A0,n0,c0,hp⟩:=h.p
 by_cases hE:rcE (zst zo) (zsz zo) (zlm zo) s bt md l rv fr ys n=0
 · obtain⟨hsp,hsb,hcs⟩:=rcE_zero hE
   obtain⟨hvc,-,-⟩:=spE_zero hsp
   obtain⟨v1,v2,v3,v4,v5,v6,v7⟩:=vc_inv hvc
   obtain⟨sn,rfl⟩:=Int.eq_ofNat_of_zero_le (show 0≤s by omega)
   obtain⟨rn,rfl⟩:=Int.eq_ofNat_of_zero_le v6
   have ea:ackZ half zo (sn:Int) bt md l (rn:Int) fr ys n=_:=if_neg (fun hh=>hh hE)
   have eo:outZ half zo (sn:Int) bt md l (rn:Int) fr ys n=_:=if_neg (fun hh=>hh hE)
   have es:stepZ half zo (sn:Int) bt md l (rn:Int) fr ys n=_:=if_neg (fun hh=>hh hE)
   simp only [Int.toNat_natCast]at ea eo es
   rw [hE]
   by_cases hd:fr=false∧zst zo=2
   · rw [if_pos hd]at ea eo es
     rw [ea,eo,es]
     clear ea eo es
     obtain⟨rfl,h2⟩:=hd
     have he:(sn:Int)=zsz zo∧l=zlm zo:=by
      rcases hcs with(hc | hc) | hc
      · cases hc
      · omega
      · exact hc
     rw [h2]at hp hE
     rw [he.1,he.2]at hE ⊢
     refine(recv_done hp h0 bt md (rn:Int) A n c ys hy (by rw [← he.1];exact hs) hE).mono ?_
     rintro e w' ⟨rfl,hB⟩
     exact⟨none,0,0,N,F,rfl,Rd.nilv _ _,hB.mono hb,h.below hB,Nat.le_add_right _ _,fun q hq _ _=>hB.block q hq,fun x hx=>.inl hx⟩
   · rw [if_neg hd]at ea eo es
     rw [ea,eo,es]
     clear ea eo es
     by_cases hbg:fr=true∨zst zo=0
     · have hz:zOf zo (sn:Int) l fr=zI (sn:Int) l:=by
        unfold zOf
        cases zo with
        | none=>rfl
        | some z=>exact if_pos hbg
       rw [hz]
       refine(recv_begin hp h0 hb sn rn bt md l fr A n c ys hy (by omega) hE hbg).mono ?_
       rintro e w' ⟨A',n',c',F',rfl,hR,hB,hZ,hK,hF⟩
       exact⟨A',n',c',_,F',rfl,hR,hB,hZ,by omega,fun q hq hp' _=>hK q hq hp' (by simp),fun x hx=>(hF x hx).imp (fun hh=>by simp at hh) id⟩
     · cases zo with
       | none=>exact absurd (.inr rfl) hbg
       | some z =>
         have hfr:fr=false:=by
          cases fr with
          | false=>rfl
          | true=>exact absurd (.inl rfl) hbg
         subst hfr
         have hz:zOf (some z) (sn:Int) l false=z:=if_neg hbg
         rw [hz]
         have he:(sn:Int)=z.sz∧l=z.lm:=by
          rcases hcs with(hc | hc) | hc
          · cases hc
          · exact absurd (.inr hc) hbg
          · exact hc
         have h1:z.st=1:=by
          rcases HzP.t h with h1 | h1
          · exact h1
          · exact absurd ⟨rfl,h1⟩ hd
         rw [he.1,he.2]at hE ⊢
         refine(recv_more h h1 h0 hb hN rn bt md A n c ys hy hE).mono ?_
         rintro e w' ⟨A',n',c',F',rfl,hR,hB,hZ,hK,hF⟩
         exact⟨A',n',c',_,F',rfl,hR,hB,hZ,by omega,hK,hF⟩
 · have ea:ackZ half zo s bt md l rv fr ys n=_:=if_pos hE
   have eo:outZ half zo s bt md l rv fr ys n=_:=if_pos hE
   have es:stepZ half zo s bt md l rv fr ys n=_:=if_pos hE
   rw [ea,eo,es]
   refine(recv_no hp h0 s bt md l rv fr A n c ys hy hs hE).mono ?_
   rintro e w' ⟨rfl,hB⟩
   exact⟨none,0,0,N,F,rfl,Rd.nilv _ _,hB.mono hb,h.below hB,Nat.le_add_right _ _,fun q hq _ _=>hB.block q hq,fun x hx=>.inl hx⟩
end Go.Proofs.YtkdfefpnhaebfaaGreat
namespace Go.Proofs.YtkdfefpnhaebfaaGreat
open Go.RowKit Go.ChangeShapes Go.WideShapes Go.Deep Go.Joins
set_option maxRecDepth 100000
instance:Inhabited ActV:=⟨⟨0,0,0,0,0,0,false,none,0,0,[]⟩⟩
structure ActsR (W:World) (A:Option Addr) (n c:Nat) (l:List ActV):Prop where
 len:l.length=n
 le:n≤c
 cm:c≤maxLen
 at_:∀ (j:Nat) a,l[j]?=some a→a.ok W∧∃ b o,A=some ⟨b,o,none⟩∧∀ (q:Nat) v,a.cells[q]?=some v→W.cell? ⟨b,o+8*j+q,none⟩=some v
theorem ActsR.below{W W':World}{A:Option Addr}{n c:Nat}{l:List ActV}(h:ActsR W A n c l)(hB:Below W.heap.size W W'):ActsR W' A n c l :=
 ⟨h.len,h.le,h.cm,fun j a hj=>⟨(h.at_ j a hj).1.below hB,by
   obtain⟨-,b,o,hA,hc⟩:=h.at_ j a hj
   exact⟨b,o,hA,fun q v hq=>cell_below (hc q v hq) hB⟩⟩⟩
section
variable {H : Type} {enc : TypeId × Value → H} {w : World} {base : Nat} {held : Bool}
theorem open_acts{r:Reach}{b0:Nat}{v:Value}{d:DataW H}{p:List MemPlace}(hv:Value.okWide Tryz.prog w r b0 49 v)(h:DataW.Trod enc Tryz.prog w base (fun _=>true) held 49 v d p) :
 ∃ A n c l,v= .slice A n c∧ActsR w A n c l:=by
 obtain⟨A,n,c,rfl⟩:=okWide_slice Tryz.underlying49 hv
 obtain⟨fuel,hf⟩:=h
 refine⟨A,n,c,?_⟩
 have hc8:Tryz.prog.cellsOf 52=8:=by kernel_rfl
 rcases open_slice Tryz.underlying49 hf with⟨hcs,_⟩ | ⟨a,len,cap,m,n',D,Pl,hcs,hb,hl,hm,hmm,_,hx⟩
 · simp [Value.cells]at hcs
   obtain⟨rfl,rfl,rfl⟩:=hcs
   exact⟨[],rfl,rfl,Nat.le_refl _,Nat.zero_le _,nofun⟩
 · simp [Value.cells]at hcs
   obtain⟨rfl,rfl,rfl⟩:=hcs
   have hmc:m=c:=by simpa using hmm
   have each:∀ i,i<n→∃ x:ActV,x.ok w∧∀ (q:Nat) v,x.cells[q]?=some v→w.cell? (a.add (i*8+q))=some v:=by
    intro i hi
    obtain⟨cs',h1,h2⟩:=hx i (by omega)
    rw [hc8]at h1
    obtain⟨_,hlen,hcell⟩:=World.cells?_some h1
    obtain⟨x,hxc,hok⟩:=trod_act h2
    refine⟨x,hok,fun q v hq=>?_⟩
    have hq8:q<8:=by
     have:=(List.getElem?_eq_some_iff.1 hq).1
     rw [← hxc,hlen]at this
     exact this
    have e:=hcell q hq8
    rw [add_add]at e
    rw [e,hxc]
    exact hq
   obtain⟨f,hf'⟩:=choose_lt each
   refine⟨(List.range n).map f,rfl,by simp,hl,hm,fun j x hj=>?_⟩
   have hjn:j<n:=by
    have:=(List.getElem?_eq_some_iff.1 hj).1
    simpa using this
   have hfx:f j=x:=by
    rw [List.getElem?_map,List.getElem?_range hjn]at hj
    simpa using hj
   obtain⟨g1,g2⟩:=hf' j hjn
   rw [hfx]at g1 g2
   obtain⟨b,o,s⟩:=a
   have hs:s=none:=by
    have h0:=(hf' 0 (by omega)).2 0 (.int .i64 (f 0).kd) rfl
    have:=World.cell?_spot h0
    simpa [Addr.add] using this
   subst hs
   refine⟨g1,b,o,rfl,fun q v hq=>?_⟩
   have:=g2 q v hq
   rw [add_lit]at this
   rw [show o+8*j+q=o+(j*8+q) by omega]
   exact this
end
theorem ixA(b o n c:Nat){j:Nat}(hj:j<n)(W:World):(Instr.indexAt 49 (.slice (some ⟨b,o,none⟩) n c) (.int .i64 (j:Int))).run Tryz.prog W= .ok (.pointer (some ⟨b,o+8*j,none⟩)) W:=by
 have h1:(0:Int)≤(j:Int)∧(j:Int)<(n:Int):=by omega
 have hs:(sizeOf 52).run Tryz.prog W= .ok 8 W:=by kernel_rfl
 simp only [Instr.indexAt,Sem.run_bind,run_underlying Tryz.underlying49,Result.andThen_ok,asIntOf,Sem.run_pure,if_pos h1,hs,Int.toNat_natCast]
 rw [add_lit,Nat.mul_comm]
end Go.Proofs.YtkdfefpnhaebfaaGreat
namespace Go.Proofs.YtkdfefpnhaebfaaGreat
set_option maxRecDepth 100000
open Go.RowKit
attribute [local go_sem] Oper.semAt_some
def fewB(l:List ActV)(m:Nat):Bool:=decide (l.length≤m) && l.all (fun a=>decide (a.n≤600∧a.s≤300))
theorem few_f{l:List ActV}{m j:Nat}{a:ActV}(hj:l[j]?=some a)(h:¬ (a.n≤600∧a.s≤300)):fewB l m=false:=by
 unfold fewB
 rw [Bool.and_eq_false_iff]
 right
 rw [List.all_eq_false]
 exact⟨a,List.mem_of_getElem? hj,by simpa using h⟩
theorem few_t{l:List ActV}{m:Nat}(hl:l.length≤m)(h:∀ (q:Nat) a,q<l.length→l[q]?=some a→a.n≤600∧a.s≤300):fewB l m=true:=by
 unfold fewB
 rw [Bool.and_eq_true,List.all_eq_true]
 refine⟨by simpa using hl,fun a ha=>?_⟩
 obtain⟨q,hq⟩:=List.getElem?_of_mem ha
 have:=h q a (List.getElem?_eq_some_iff.1 hq).1 hq
 simpa using this
def FwInv(w:World)(n:Nat)(l:List ActV)(i:Value)(wr:World):Prop:=∃ j:Nat,j≤n∧i= .int .i64 j∧(∀ (q:Nat) a,q<j→l[q]?=some a→a.n≤600∧a.s≤300)∧wr=w
theorem few_any(A:Option Addr)(n c:Nat)(l:List ActV)(m:Nat)(w:World)(h:ActsR w A n c l) :
 Calls Tryz.prog 18 #[.slice A n c,.int .i64 (m:Int)] w fun e w'=>e= .returned (.bool (fewB l m))∧w=w':=by
 have hln:=h.len
 have hcm:=h.cm
 have hle:=h.le
 unfold maxLen at hcm
 by_cases hm:(m:Int)<(n:Int)
 · have hf:fewB l m=false:=by
    unfold fewB
    rw [Bool.and_eq_false_iff]
    left
    simp;omega
   clear h hln hcm hle
   go_enter Tryz.func18,Tryz.ntmps18
   go_wp2
   go_ret
   first | exact⟨ret_bool hf.symm,rfl⟩ | exact⟨rfl,rfl⟩
 · have HLN:=Lib.hid hln
   have HM:Hid (n≤m):=Lib.hid (by omega)
   clear hln
   go_enter Tryz.func18,Tryz.ntmps18
   go_wp2
   go_loopw [5] (fun i wr=>FwInv w n l i wr) (fun i _=>n - (intOf i).toNat)
   case atStart=>exact⟨0,by omega,rfl,fun q a hq=>by omega,rfl⟩
   case round =>
    obtain⟨j,hj,rfl,hv,rfl⟩:=hrel
    have HV:=Lib.hid hv
    clear hv
    by_cases hlt:j<n
    · obtain⟨a,ha⟩:∃ a,l[j]?=some a:=⟨_,List.getElem?_eq_getElem (by rw [HLN.out];exact hlt)⟩
      obtain⟨-,b,o,rfl,hc⟩:=h.at_ j a ha
      have c1:=hc 1 (.int .i64 a.s) rfl
      have c7:=hc 7 (.slice a.A a.n a.c) rfl
      have hix:=fun W=>ixA b o n c hlt W
      have HA:=Lib.hid ha
      clear hc ha
      by_cases h1:(600:Int)<(a.n:Int)
      · have hf:fewB l m=false:=few_f HA.out (by omega)
        go_wp2
        go_ret
        first | exact⟨ret_bool hf.symm,rfl⟩ | exact⟨rfl,rfl⟩
      · by_cases h2:300<a.s
        · have hf:fewB l m=false:=few_f HA.out (by omega)
          go_wp2
          go_ret
          first | exact⟨ret_bool hf.symm,rfl⟩ | exact⟨rfl,rfl⟩
        · have HE:Hid (a.n≤600∧a.s≤300):=Lib.hid (by omega)
          go_wp2
          go_roundw
          case rel=>exact⟨j+1,by omega,by go_num,fun q x hq hx=>by
           rcases Nat.lt_succ_iff_lt_or_eq.1 hq with hq | rfl
           · exact HV.out q x hq hx
           · rw [HA.out]at hx
             cases hx
             exact HE.out,rfl⟩
          case measure=>simp [intOf];omega
    · have hf:fewB l m=true:=few_t (by rw [HLN.out];exact HM.out) (fun q a hq hx=>HV.out q a (by rw [HLN.out]at hq;omega) hx)
      go_wp2
      go_ret
      first | exact⟨ret_bool hf.symm,rfl⟩ | exact⟨rfl,rfl⟩
end Go.Proofs.YtkdfefpnhaebfaaGreat
namespace Go.Proofs.YtkdfefpnhaebfaaGreat
open Go.RowKit
theorem fn_cases(sz:Int)(b:Option (List Int)):(fnK sz b=1∧fnS 1 sz b=2)∨(fnK sz b=2∧fnS 1 sz b=1∧fnO sz b=[]):=by
 unfold fnK fnS fnO
 cases b with
 | none=>exact .inr ⟨rfl,rfl,rfl⟩
 | some x =>
   dsimp only
   split
   · exact .inl ⟨rfl,rfl⟩
   · exact .inr ⟨rfl,rfl,rfl⟩
section
variable {half : Int} {zo : Option Zs} {s bt md l rv : Int} {fr : Bool} {ys : List Int} {n : Nat}
theorem step_bad(h:rcE (zst zo) (zsz zo) (zlm zo) s bt md l rv fr ys n≠0):ackZ half zo s bt md l rv fr ys n=0∧outZ half zo s bt md l rv fr ys n=[]∧stepZ half zo s bt md l rv fr ys n=zo:=⟨if_pos h,if_pos h,if_pos h⟩
theorem zOf_sz(h:(fr=true∨zst zo=0)∨(s=zsz zo∧l=zlm zo)):(zOf zo s l fr).sz=s:=by
 unfold zOf
 cases zo with
 | none=>rfl
 | some z =>
   dsimp only
   split
   · rfl
   · rename_i hn
     rcases h with h | h
     · exact absurd h hn
     · exact h.1.symm
theorem step_ok(h:rcE (zst zo) (zsz zo) (zlm zo) s bt md l rv fr ys n=0) :
 (ackZ half zo s bt md l rv fr ys n=1∧zst (stepZ half zo s bt md l rv fr ys n)=2)∨(ackZ half zo s bt md l rv fr ys n=2∧zst (stepZ half zo s bt md l rv fr ys n)=1∧outZ half zo s bt md l rv fr ys n=[]):=by
 obtain⟨-,-,hc⟩:=rcE_zero h
 unfold ackZ outZ stepZ
 rw [if_neg (fun hh=>hh h)]
 by_cases hd:fr=false∧zst zo=2
 · left
   rw [if_pos hd,if_neg (fun hh=>hh h),if_pos hd]
   exact⟨rfl,hd.2⟩
 · rw [if_neg hd,if_neg (fun hh=>hh h),if_neg hd,if_neg (fun hh=>hh h),if_neg hd]
   have hz:=zOf_sz hc
   show _∨(_∧fnS 1 (zOf zo s l fr).sz _=1∧_)
   show(_∧fnS 1 (zOf zo s l fr).sz _=2)∨_
   rw [hz]
   exact fn_cases s _
end
end Go.Proofs.YtkdfefpnhaebfaaGreat
