/- Bundle. Conditions: none. -/
import Derived.Test.YtkdfefpnhaebfaaGreatByb
set_option linter.unusedVariables false
set_option linter.unusedSimpArgs false
set_option linter.unusedSectionVars false
namespace Go.Proofs.YtkdfefpnhaebfaaGreat
open Go.RowKit
theorem list_ofg{P:Program}{w:World}{ops:Array Oper}{rest:List Oper}{o:Oper}{a:Act}{Q:Exit→Act→World→Prop}(hw:Region.wanted o (yielded ops a.tmps)=true)(h:∀ K:Act→World→Prop,(∀ a w,wpList P ops Q rest a w→K a w)→o.wp P a w K Q):wpList P ops Q (o :: rest) a w :=
 wpList_step fun K hK=>by rw [if_pos hw];exact h K hK
theorem Ownv.heq{e:TypeId}{w w':World}{base:Nat}{A:Option Addr}{n c:Nat}{vs:List Value}(h:Ownv e w base A n c vs)(hk:A≠none→w'.heap[blk A]?=w.heap[blk A]?):Ownv e w' base A n c vs:=by
 obtain⟨hl,h⟩:=h.ow
 refine⟨⟨hl,?_⟩⟩
 rcases h with hn | ⟨g,cap,cur,hv,hb,hg,hr⟩
 · exact .inl hn
 · simp only [Value.slice.injEq]at hv
   obtain⟨rfl,-,rfl⟩:=hv
   exact .inr ⟨g,_,cur,rfl,hb,(hk (by simp)).trans hg,hr⟩
theorem rd8_ne{W:World}{R:Option Addr}{r rc Q:Nat}{x:List Int}{t:TypeId}{h0 h1 h2 h3:Int}{A:Option Addr}{n c:Nat}(h:Rd .u8 W R r rc x)(hr:r≠0)(hQ:Blk W Q t [.int .i64 h0,.int .i64 h1,.int .i64 h2,.int .i64 h3,.slice A n c]):blk R≠Q:=by
 intro e
 have hl:x.length=r:=by simpa using h.len
 have hle:=h.le
 obtain⟨b,o,rfl,-⟩:=h.ptr (by omega)
 have e:b=Q:=e
 subst e
 match x,hl with
 | [],hl=>exact hr hl.symm
 | y :: ys,hl =>
   have hc:=h.at_ 0 (.int .u8 y) rfl
   have hc:W.cell? ⟨b,o+0,none⟩=some (.int .u8 y):=hc
   unfold Blk at hQ
   unfold World.cell? at hc
   dsimp only at hc
   rw [hQ]at hc
   simp only [Option.isSome_none,Bool.false_eq_true,if_false]at hc
   rcases o with _ | _ | _ | _ | _ | o
   · cases hc
   · cases hc
   · cases hc
   · cases hc
   · cases hc
   · simp at hc
section
variable {W W' : World} {base P Q : Nat} {half h0 h1 h2 h3 : Int} {A : Option Addr} {n c : Nat}
theorem HzP.heq{z:Zs}{N:Nat}{F:List Nat}(h:HzP W base P half z N F)(hQ:Blk W Q 72 [.int .i64 h0,.int .i64 h1,.int .i64 h2,.int .i64 h3,.slice A n c])(hP:P≠Q)(hs:W.heap.size≤W'.heap.size)(hk:∀ x,x<W.heap.size→x≠Q→W'.heap[x]?=W.heap[x]?):HzP W' base P half z N F:=by
 obtain⟨G,cap,D,V,vc,R,r,rc,rest,hF,hq⟩:=h.h
 have nG:G≠Q:=blk_ty hq.a.g hQ (by decide)
 have nD:D≠Q:=blk_ty hq.d.b hQ (by decide)
 refine⟨⟨G,cap,D,V,vc,R,r,rc,rest,hF,⟨⟨⟨(hk P hq.a.p.p.lt hP).trans hq.a.p.p,hq.a.p.d⟩,(hk G hq.a.g.lt nG).trans hq.a.g,hq.a.b⟩,⟨(hk D hq.d.b.lt nD).trans hq.d.b,Ownv.heq hq.d.v (fun hV=>hk _ (Cr.Ownv.blk_of hq.d.v hV).2 (fun e=>own_ne_blk hq.d.v hQ (by decide) hV (by rw [e]))),hq.d.d⟩,?_,hq.n⟩⟩,h.s,h.l,h.c,h.t,h.b⟩
 have ht:=hq.t
 cases hb:z.b with
 | none=>rw [hb]at ht;exact ht
 | some x =>
   rw [hb]at ht
   exact⟨ht.1,ht.2.1,rdv_heq ht.2.2 hs (fun _ hlt=>hk _ hlt (rd8_ne ht.2.2 ht.2.1 hQ))⟩
theorem PsZ.heq{zo:Option Zs}{N:Nat}{F:List Nat}(h:PsZ W base P half zo N F)(hQ:Blk W Q 72 [.int .i64 h0,.int .i64 h1,.int .i64 h2,.int .i64 h3,.slice A n c])(hP:P≠Q)(hs:W.heap.size≤W'.heap.size)(hk:∀ x,x<W.heap.size→x≠Q→W'.heap[x]?=W.heap[x]?):PsZ W' base P half zo N F:=by
 cases zo with
 | none=>exact⟨⟨(hk P h.1.p.lt hP).trans h.1.p,h.1.d⟩,h.2⟩
 | some z=>exact HzP.heq h hQ hP hs hk
def zdN(z:Zs):Int:=if z.b.isSome=true then 1 else 0
theorem zdec_any{w:World}{z:Zs}{N:Nat}{F:List Nat}(h:HzP w base P half z N F)(hh:half≠0) :
 Calls Tryz.prog 24 #[.pointer (some ⟨P,0,none⟩)] w fun e w'=>e= .returned (.int .i64 (zdN z))∧Below w.heap.size w w':=by
 unfold zdN
 obtain⟨G,cap,D,V,vc,R,r,rc,rest,hF,hq⟩:=h.h
 rw [← hq.t.some_iff]
 exact pdecoded_any hq.a hh
end
theorem infoA:(Tryz.prog.info? 52).map (fun i=>(i.zero,i.size))=some (some (.agg #[.int .i64 0,.int .i64 0,.int .i64 0,.int .i64 0,.int .i64 0,.int .i64 0,.bool false,.slice none 0 0]),8):=by kernel_rfl
theorem run_bsA(a:ActV)(W:World):(Instr.buildSlice 49 1 #[(0,.agg a.cells.toArray)]).run Tryz.prog W= .ok (.slice (some ⟨W.heap.size,0,none⟩) 1 1) (W.alloc (.cells a.cells.toArray 52)):=by
 obtain⟨kd,s,bt,md,lm,rv,fr,A,n,c,xs⟩:=a
 obtain⟨i,hi,he⟩:=Option.map_eq_some_iff.1 infoA
 have hz0:i.zero=_:=congrArg Prod.fst he
 have hz1:i.size=8:=congrArg Prod.snd he
 refine run_buildSlice (P:=Tryz.prog) W 49 52 1 _ _ i _ Tryz.underlying49 hi hz0 (by rw [hz1];decide) (by rw [hz1];decide) ?_
 rw [hz1]
 kernel_rfl
theorem wpo_bsA{o:Oper}{t:Act}{W:World}{K:Act→World→Prop}{Q:Exit→Act→World→Prop}(x:Operand)(a:ActV)(ho:o.op= .buildSlice 49 1 #[(0,x)])(hx:t.eval x= .agg a.cells.toArray)
 (h:K (t.put o.dst (.slice (some ⟨W.heap.size,0,none⟩) 1 1)) (W.alloc (.cells a.cells.toArray 52))):o.wp Tryz.prog t W K Q:=by
 unfold Oper.wp
 have hp:(#[(0,x)]:Array (Nat × Operand)).map (fun(i,x)=>(i,t.eval x))=#[(0,.agg a.cells.toArray)]:=by simp [hx]
 simp only [execOp,ho,hp,run_bsA a,Sem.run_bind,Sem.run_pure,Result.andThen_ok]
 exact h
theorem acts_one{W:World}{S:Nat}{a:ActV}(hS:Blk W S 52 a.cells)(hok:a.ok W):ActsR W (some ⟨S,0,none⟩) 1 1 [a] :=
 ⟨rfl,Nat.le_refl _,by unfold maxLen;omega,fun j x hj=>by
   match j,hj with
   | 0,hj =>
     cases hj
     exact⟨hok,S,0,rfl,fun q v hq=>by rw [Nat.mul_zero,Nat.zero_add];exact hS.cell hq⟩
   | j+1,hj=>simp at hj⟩
end Go.Proofs.YtkdfefpnhaebfaaGreat
namespace Go.Proofs.YtkdfefpnhaebfaaGreat
set_option maxRecDepth 100000
set_option maxHeartbeats 8000000
open Go.RowKit
attribute [local go_sem] Oper.semAt_some
theorem fresh_all{half:Int}{s bt md l rv:Int}{ys:List Int}{n:Nat}(zo zp:Option Zs) :
 rcE (zst zo) (zsz zo) (zlm zo) s bt md l rv true ys n=rcE (zst zp) (zsz zp) (zlm zp) s bt md l rv true ys n∧ackZ half zo s bt md l rv true ys n=ackZ half zp s bt md l rv true ys n∧outZ half zo s bt md l rv true ys n=outZ half zp s bt md l rv true ys n ∧
 (rcE (zst zo) (zsz zo) (zlm zo) s bt md l rv true ys n=0→∃ z,stepZ half zo s bt md l rv true ys n=some z∧stepZ half zp s bt md l rv true ys n=some z):=by
 have hr:rcE (zst zp) (zsz zp) (zlm zp) s bt md l rv true ys n=rcE (zst zo) (zsz zo) (zlm zo) s bt md l rv true ys n:=by
  unfold rcE
  simp
 by_cases h:rcE (zst zo) (zsz zo) (zlm zo) s bt md l rv true ys n=0
 · obtain⟨-,h2,h3,h4⟩:=step_fresh (half:=half) h zp
   refine⟨hr.symm,h2,h3,fun _=>⟨nxZ half (zOf zo s l true) rv.toNat n ys,?_,?_⟩⟩
   · unfold stepZ
     rw [if_neg (fun hh=>hh h),if_neg (by simp)]
   · rw [← h4]
     unfold stepZ
     rw [if_neg (fun hh=>hh h),if_neg (by simp)]
 · obtain⟨a1,a2,-⟩:=step_bad (half:=half) h
   obtain⟨b1,b2,-⟩:=step_bad (half:=half) (by rw [hr];exact h:rcE (zst zp) (zsz zp) (zlm zp) s bt md l rv true ys n≠0)
   exact⟨hr.symm,by rw [a1,b1],by rw [a2,b2],fun hh=>absurd hh h⟩
theorem rd8_keep{W W':World}{R:Option Addr}{r rc Q:Nat}{x:List Int}{t:TypeId}{h0 h1 h2 h3:Int}{A:Option Addr}{n c:Nat}(h:Rd .u8 W R r rc x)(hQ:Blk W Q t [.int .i64 h0,.int .i64 h1,.int .i64 h2,.int .i64 h3,.slice A n c])(hs:W.heap.size≤W'.heap.size)(hk:∀ x,x<W.heap.size→x≠Q→W'.heap[x]?=W.heap[x]?):Rd .u8 W' R r rc x:=by
 by_cases hr:r=0
 · have hl:x.length=r:=by simpa using h.len
   have hx:x=[]:=List.length_eq_zero_iff.1 (hl.trans hr)
   subst hx
   exact⟨h.len,h.le,h.cm,h.nil,h.spot,fun hc a ha=>Nat.lt_of_lt_of_le (h.lt hc a ha) hs,nofun⟩
 · exact rdv_heq h hs (fun _ hlt=>hk _ hlt (rd8_ne h hr hQ))
theorem PsZ.mono{W:World}{base base' P:Nat}{half:Int}(h:PrP W base P half 0 0 0 none 0 0)(hb:base'≤base):PsZ W base' P half none 0 []:=⟨⟨h.p,Nat.le_trans hb h.d⟩,rfl⟩
def FrI(w1:World)(P Q:Nat)(half:Int)(n:Nat)(i:Value)(wr:World):Prop:=∃ (j N:Nat) (zo:Option Zs) (F:List Nat),j≤n∧i= .int .i64 j∧PsZ wr w1.heap.size P half zo N F∧N≤600*j∧(Blk wr Q 72 [.int .i64 half,.int .i64 0,.int .i64 0,.int .i64 0,.slice none 0 0]∧Q ∉ F)∧Below w1.heap.size w1 wr
theorem hfresh_any(half:Int)(A:Option Addr)(n c:Nat)(l:List ActV)(x:ActV)(w:World)(h:ActsR w A n c l)(hx:x.ok w) :
 Calls Tryz.prog 7 #[.int .i64 half,.slice A n c,.agg x.cells.toArray] w fun e w'=>e= .returned (.bool true)∧Below w.heap.size w w':=by
 obtain⟨kd,s,bt,md,lm,rv,fr,Aa,na,ca,xs⟩:=x
 show Calls Tryz.prog 7 #[.int .i64 half,.slice A n c,.agg #[.int .i64 kd,.int .i64 s,.int .i64 bt,.int .i64 md,.int .i64 lm,.int .i64 rv,.bool fr,.slice Aa na ca]] w _
 have hA0:=Blk.new w [.int .i64 kd,.int .i64 s,.int .i64 bt,.int .i64 md,.int .i64 lm,.int .i64 rv,.bool fr,.slice Aa na ca] 52 rfl
 have hB0:=bal (Below.refl w.heap.size w) (.cells #[.int .i64 kd,.int .i64 s,.int .i64 bt,.int .i64 md,.int .i64 lm,.int .i64 rv,.bool fr,.slice Aa na ca] 52)
 have HA:=Lib.hid h
 have HX:=Lib.hid hx
 clear h hx
 by_cases hh:half<1∨64<half
 · have HN:=Lib.hid (fun W=>hnew_bad half W hh)
   have HB0:=Lib.hid hB0
   clear hh hA0 hB0
   go_enter Tryz.func7,Tryz.ntmps7
   go_wp2_with fail
   generalize w.alloc (.cells #[.int .i64 kd,.int .i64 s,.int .i64 bt,.int .i64 md,.int .i64 lm,.int .i64 rv,.bool fr,.slice Aa na ca] 52)=w1 at *
   refine(HN.out _).mono ?_
   rintro e w2 ⟨rfl,rfl⟩
   go_wp2_with fail
   refine(HN.out _).mono ?_
   rintro e w2 ⟨rfl,rfl⟩
   go_wp2_with fail
   refine(known_ok _).mono ?_
   rintro e wk ⟨rfl,hBk⟩
   go_wp2
   go_ret
   exact⟨rfl,HB0.out.trans ((hBk.mono HB0.out.size))⟩
 have H0:Hid (half≠0):=Lib.hid (by omega)
 have HN:=Lib.hid (fun W=>hnew_ok half W (by omega))
 have HA0:=Lib.hid hA0
 have HB0:=Lib.hid hB0
 clear hh hA0 hB0
 go_enter Tryz.func7,Tryz.ntmps7
 go_wp2_with fail
 generalize w.alloc (.cells #[.int .i64 kd,.int .i64 s,.int .i64 bt,.int .i64 md,.int .i64 lm,.int .i64 rv,.bool fr,.slice Aa na ca] 52)=w1 at *
 obtain⟨AB,hAB⟩:∃ AB,AB=w.heap.size:=⟨_,rfl⟩
 rw [← hAB]at HA0 ⊢
 clear hAB
 have HAL:Hid (AB<w1.heap.size):=Lib.hid HA0.out.lt
 have HA1:=Lib.hid (HA.out.below HB0.out)
 have HX1:=Lib.hid (HX.out.below HB0.out)
 refine(HN.out _).mono ?_
 rintro e w2 ⟨P,rfl,hP,hB2⟩
 have HP2:=Lib.hid hP
 have HB2:=Lib.hid hB2
 clear hP hB2
 go_wp2_with fail
 refine(HN.out _).mono ?_
 rintro e w3 ⟨Q,rfl,hQ,hB3⟩
 have HP3:=Lib.hid (HP2.out.below hB3)
 have HPQ:Hid (P≠Q):=Lib.hid (by have h1:=HP2.out.p.lt;have h2:=hQ.d;omega)
 have HQ3:=Lib.hid hQ.p
 have HQD:Hid (w1.heap.size≤Q):=Lib.hid (Nat.le_trans HB2.out.size hQ.d)
 have HB3:=Lib.hid (HB2.out.trans (hB3.mono HB2.out.size))
 clear hQ hB3
 have HF:=Lib.hid (few_any A n c l 3 w3 (HA1.out.below HB3.out))
 have HLN:Hid (l.length=n):=Lib.hid HA1.out.len
 have hcm:=HA1.out.cm
 have hle:=HA1.out.le
 unfold maxLen at hcm
 have HB3w:=Lib.hid (HB0.out.trans (HB3.out.mono HB0.out.size))
 cases hf:fewB l 3 with
 | false =>
   rw [hf]at HF
   clear hf hcm hle
   go_wp2_with fail
   refine HF.out.mono ?_
   rintro e w4 ⟨rfl,rfl⟩
   go_wp2_with fail
   refine(known_ok _).mono ?_
   rintro e wk ⟨rfl,hBk⟩
   go_wp2
   go_ret
   exact⟨rfl,HB3w.out.trans ((hBk.mono HB3w.out.size))⟩
 | true =>
 rw [hf]at HF
 have HFI:=Lib.hid (few_inv hf)
 have HL3:Hid (n≤3):=Lib.hid (by have:=HFI.out.1;have:=HLN.out;omega)
 clear hf
 have hA3:Blk w3 AB 52 [.int .i64 kd,.int .i64 s,.int .i64 bt,.int .i64 md,.int .i64 lm,.int .i64 rv,.bool fr,.slice Aa na ca]:=(HB3.out.block AB HAL.out).trans HA0.out
 have HX3:=Lib.hid (HX1.out.below HB3.out)
 have HAn:=Lib.hid (acts_one (a:=⟨kd,s,bt,md,lm,rv,fr,Aa,na,ca,xs⟩) (Blk.new w3 [.int .i64 kd,.int .i64 s,.int .i64 bt,.int .i64 md,.int .i64 lm,.int .i64 rv,.bool fr,.slice Aa na ca] 52 rfl) (HX3.out.below (bal (Below.refl w3.heap.size w3) (.cells #[.int .i64 kd,.int .i64 s,.int .i64 bt,.int .i64 md,.int .i64 lm,.int .i64 rv,.bool fr,.slice Aa na ca] 52))))
 have HBn:=Lib.hid (bal (Below.refl w3.heap.size w3) (.cells #[.int .i64 kd,.int .i64 s,.int .i64 bt,.int .i64 md,.int .i64 lm,.int .i64 rv,.bool fr,.slice Aa na ca] 52))
 go_wp2_with fail
 refine HF.out.mono ?_
 rintro e w4 ⟨rfl,rfl⟩
 clear HF
 go_wp2_with (refine list_ofg (by rfl) fun K hK=>wp_ldrow (cs:=[.int .i64 kd,.int .i64 s,.int .i64 bt,.int .i64 md,.int .i64 lm,.int .i64 rv,.bool fr,.slice Aa na ca]) 52 (.tmp 5) rfl rfl hA3 _ Tryz.underlying52 rfl (by kernel_rfl) ?_;refine hK _ _ ?_;clear hK K;refine list_ofg (by rfl) fun K hK=>wpo_bsA (.tmp 40) ⟨kd,s,bt,md,lm,rv,fr,Aa,na,ca,xs⟩ rfl rfl ?_;refine hK _ _ ?_;clear hK K)
 have HF1:=Lib.hid (few_any _ 1 1 [_] 1 _ HAn.out)
 have HP4:=Lib.hid (HP3.out.below HBn.out)
 have HQ4:=Lib.hid (HQ3.out.below HBn.out)
 have HB4:=Lib.hid (HB3.out.trans (HBn.out.mono HB3.out.size))
 have HA4:=Lib.hid ((HBn.out.block AB hA3.lt).trans hA3)
 clear hA3 HAn
 change (Calls Tryz.prog _ _ (w3.alloc (.cells #[.int .i64 kd,.int .i64 s,.int .i64 bt,.int .i64 md,.int .i64 lm,.int .i64 rv,.bool fr,.slice Aa na ca] 52)) _)
 generalize w3.alloc (.cells #[.int .i64 kd,.int .i64 s,.int .i64 bt,.int .i64 md,.int .i64 lm,.int .i64 rv,.bool fr,.slice Aa na ca] 52)=w4 at *
 cases hf:fewB [(⟨kd,s,bt,md,lm,rv,fr,Aa,na,ca,xs⟩:ActV)] 1 with
 | false =>
   rw [hf]at HF1
   have HB4w:=Lib.hid (HB0.out.trans (HB4.out.mono HB0.out.size))
   clear hf hcm hle
   refine HF1.out.mono ?_
   rintro e w5 ⟨rfl,rfl⟩
   go_wp2_with fail
   refine(known_ok _).mono ?_
   rintro e wk ⟨rfl,hBk⟩
   go_wp2
   go_ret
   exact⟨rfl,HB4w.out.trans ((hBk.mono HB4w.out.size))⟩
 | true =>
 rw [hf]at HF1
 have HFX:Hid (na≤600∧s≤300):=Lib.hid ((few_inv hf).2 0 _ rfl)
 clear hf
 refine HF1.out.mono ?_
 rintro e w5 ⟨rfl,rfl⟩
 clear HF1
 go_wp2_with fail
 go_loopw [11] (fun i wr=>FrI w1 P Q half n i wr) (fun i _=>n - (intOf i).toNat)
 case atStart=>exact⟨0,0,none,[],Nat.zero_le _,rfl,⟨HP4.out,rfl⟩,Nat.le_refl _,⟨HQ4.out,by simp⟩,HB4.out⟩
 case round =>
  obtain⟨j,N,zo,F,hj,rfl,hZ,hN,hQ,hB⟩:=hrel
  have HBr:=Lib.hid hB
  have HZr:=Lib.hid hZ
  have HNN:=Lib.hid hN
  have HQr:=Lib.hid hQ
  clear hB hZ hN hQ
  by_cases hlt:j<n
  · obtain⟨a,ha⟩:∃ a,l[j]?=some a:=⟨_,List.getElem?_eq_getElem (by rw [HLN.out];exact hlt)⟩
    have HFW:=Lib.hid (HFI.out.2 j a ha)
    obtain⟨hok,b,o,rfl,hc⟩:=HA1.out.at_ j a ha
    have HOK:=Lib.hid (hok.below HBr.out)
    have HS:Hid (ActS b o j a wr.drew):=Lib.hid (fun q v hq=>cell_below (hc q v hq) HBr.out.drew)
    have hix:=fun W=>ixA b o n c hlt W
    have c0:wr.cell? ⟨b,o+8*j,none⟩=some (.int .i64 a.kd):=cell_below (hc 0 (.int .i64 a.kd) rfl) HBr.out
    clear ha hc hok
    obtain⟨Ap,np,cp,hp⟩:=HZr.out.p
    by_cases hkd:a.kd=1
    · have HRS:=Lib.hid (hreset_any hp H0.out HBr.out.size)
      clear hp
      rw [hkd]at c0
      go_wp2_with fail
      refine HRS.out.mono ?_
      rintro e w6 ⟨rfl,hP6,hB6,hK6⟩
      have HP6:=Lib.hid hP6
      have HB6:=Lib.hid (HBr.out.trans hB6)
      have HQ6:=Lib.hid ((hK6 Q HQr.out.1.lt HPQ.out.symm).trans HQr.out.1)
      clear hP6 hB6 hK6 hix c0
      go_wp2_with fail
      go_roundw
      case rel=>exact⟨j+1,0,none,[],by omega,by go_num,⟨HP6.out,rfl⟩,by omega,⟨HQ6.out,by simp⟩,HB6.out⟩
      case measure=>simp [intOf];omega
    · clear hp
      have HRC:=Lib.hid (recv_all (HZr.out.below ((Below.refl _ wr).drew)) H0.out HBr.out.size (by have:=HNN.out;have:=HL3.out;omega) a.s a.bt a.md a.lm a.rv a.fr a.A a.n a.c a.xs (Rdv.below HOK.out.v ((Below.refl _ wr).drew)) (by have:=HFW.out.2;omega))
      generalize rcE (zst zo) (zsz zo) (zlm zo) a.s a.bt a.md a.lm a.rv a.fr a.xs a.n=ea at HRC
      generalize ackZ half zo a.s a.bt a.md a.lm a.rv a.fr a.xs a.n=ka at HRC
      generalize outZ half zo a.s a.bt a.md a.lm a.rv a.fr a.xs a.n=ou at HRC
      generalize stepZ half zo a.s a.bt a.md a.lm a.rv a.fr a.xs a.n=zn at HRC
      go_wp2_with fail
      refine Q_start (ActS b o j a) 16 17 ?_
      refine Q_W 0 60 1 (.pointer (some ⟨P,0,none⟩)) rfl HS.out ?_
      simp only [z0,z1,z2]
      refine Q_W 1 61 3 (.slice (some ⟨b,o,none⟩) n c) rfl HS.out ?_
      simp only [z0,z1,z2]
      refine Q_W 2 62 7 (.int .i64 (j:Int)) rfl HS.out ?_
      simp only [z0,z1,z2]
      refine Q_T 3 63 15 (.pointer (some ⟨b,o+8*j,none⟩)) [5,4] rfl HS.out (.inl ⟨by rfl,fun W hS=>by have e:=hix W;go_simp⟩) ?_
      simp only [z0,z1,z2]
      refine Q_W 4 64 31 (.pointer (some ⟨b,o+8*j+1,none⟩)) rfl HS.out ?_
      simp only [z0,z1,z2]
      refine Q_T 5 65 63 (.agg #[.int .i64 a.s,.int .i64 a.bt,.int .i64 a.md,.int .i64 a.lm,.int .i64 a.rv]) [] rfl HS.out (yieldsIf_load_mid rfl 36 (.tmp 64) rfl b (o+8*j+1) rfl a.cf _ (fun W hS=>fun q v hv=>by rw [Nat.add_assoc];exact hS (1+q) v (cf_cells hv)) Tryz.underlying36 rfl (by rw [infoCf];rfl)) ?_
      simp only [z0,z1,z2]
      refine Q_W 6 66 127 (.slice (some ⟨b,o,none⟩) n c) rfl HS.out ?_
      simp only [z0,z1,z2]
      refine Q_W 7 67 255 (.int .i64 (j:Int)) rfl HS.out ?_
      simp only [z0,z1,z2]
      refine Q_T 8 68 511 (.pointer (some ⟨b,o+8*j,none⟩)) [10,9] rfl HS.out (.inl ⟨by rfl,fun W hS=>by have e:=hix W;go_simp⟩) ?_
      simp only [z0,z1,z2]
      refine Q_W 9 69 1023 (.pointer (some ⟨b,o+8*j+6,none⟩)) rfl HS.out ?_
      simp only [z0,z1,z2]
      refine Q_T 10 70 2047 (.bool a.fr) [] rfl HS.out (.inl ⟨by rfl,fun W hS=>by have s0:=hS 6 (.bool a.fr) rfl;go_simp⟩) ?_
      simp only [z0,z1,z2]
      refine Q_W 11 71 4095 (.slice (some ⟨b,o,none⟩) n c) rfl HS.out ?_
      simp only [z0,z1,z2]
      refine Q_W 12 72 8191 (.int .i64 (j:Int)) rfl HS.out ?_
      simp only [z0,z1,z2]
      refine Q_T 13 73 16383 (.pointer (some ⟨b,o+8*j,none⟩)) [15,14] rfl HS.out (.inl ⟨by rfl,fun W hS=>by have e:=hix W;go_simp⟩) ?_
      simp only [z0,z1,z2]
      refine Q_W 14 74 32767 (.pointer (some ⟨b,o+8*j+7,none⟩)) rfl HS.out ?_
      simp only [z0,z1,z2]
      refine Q_T 15 75 65535 (.slice a.A a.n a.c) [] rfl HS.out (.inl ⟨by rfl,fun W hS=>by have s0:=hS 7 (.slice a.A a.n a.c) rfl;go_simp⟩) ?_
      simp only [z0,z1,z2]
      refine Q_1 16 131071 rfl (fun K hK=>?_)
      go_simp
      refine HRC.out.mono ?_
      rintro e w3 ⟨A3,n3,c3,N3,F3,rfl,-,hB3,hZ3,hN3,hK3,hF3⟩
      have HZ3:=Lib.hid hZ3
      have HQ3:Hid (Blk w3 Q 72 [.int .i64 half,.int .i64 0,.int .i64 0,.int .i64 0,.slice none 0 0]∧Q ∉ F3):=Lib.hid ⟨(hK3 Q HQr.out.1.lt HPQ.out.symm HQr.out.2).trans HQr.out.1,fun hm=>(hF3 Q hm).elim HQr.out.2 (fun hh=>by have h4:=HQr.out.1.lt;have h5:wr.drew.heap.size=wr.heap.size:=rfl;omega)⟩
      have HB3:=Lib.hid (HBr.out.trans (((Below.refl w1.heap.size wr).drew).trans hB3))
      have HN3:=Lib.hid hN3
      clear hB3 hZ3 hN3 hK3 hF3
      refine hK _ _ ?_
      clear hK K
      refine Q_end ?_
      clear hix c0
      go_wp2_with fail
      go_roundw
      case rel=>exact⟨j+1,N3,_,F3,by omega,by go_num,HZ3.out,by have:=HN3.out;have:=HFW.out.1;have:=HNN.out;omega,HQ3.out,HB3.out⟩
      case measure=>simp [intOf];omega
  · have hAr:Blk wr AB 52 [.int .i64 kd,.int .i64 s,.int .i64 bt,.int .i64 md,.int .i64 lm,.int .i64 rv,.bool fr,.slice Aa na ca]:=(HBr.out.block AB HAL.out).trans HA0.out
    have a7:=hAr.cell (j:=7) (v:=.slice Aa na ca) rfl
    have HXr:=Lib.hid (HX1.out.below HBr.out)
    have HRC:=Lib.hid (recv_all HZr.out H0.out HBr.out.size (by have:=HNN.out;have:=HL3.out;omega) s bt md lm rv true Aa na ca xs HXr.out.v (by have:=HFX.out.2;omega))
    have HFA:=Lib.hid (fresh_all (half:=half) (s:=s) (bt:=bt) (md:=md) (l:=lm) (rv:=rv) (ys:=xs) (n:=na) zo none)
    go_wp2_with (refine ldmid (cs:=[.int .i64 s,.int .i64 bt,.int .i64 md,.int .i64 lm,.int .i64 rv]) rfl 36 (.tmp 79) rfl 1 rfl hAr rfl _ Tryz.underlying36 rfl (by rw [infoCf];rfl) ?_)
    refine HRC.out.mono ?_
    rintro e w5 ⟨A5,n5,c5,N5,F5,rfl,hR5,hB5,hZ5,hN5,hK5,hF5⟩
    have HR5:=Lib.hid hR5
    have HZ5:=Lib.hid hZ5
    have HQ5:Hid (Blk w5 Q 72 [.int .i64 half,.int .i64 0,.int .i64 0,.int .i64 0,.slice none 0 0]):=Lib.hid ((hK5 Q HQr.out.1.lt HPQ.out.symm HQr.out.2).trans HQr.out.1)
    have HB5:=Lib.hid (HBr.out.trans hB5)
    clear hR5 hB5 hZ5 hN5 hK5 hF5 hAr a7 HRC
    have hA5:Blk w5 AB 52 [.int .i64 kd,.int .i64 s,.int .i64 bt,.int .i64 md,.int .i64 lm,.int .i64 rv,.bool fr,.slice Aa na ca]:=(HB5.out.block AB HAL.out).trans HA0.out
    have a7:=hA5.cell (j:=7) (v:=.slice Aa na ca) rfl
    have HX5:=Lib.hid (HX1.out.below HB5.out)
    have HRD:=Lib.hid (recv_all (zo:=none) (N:=0) (F:=[]) (base:=w1.heap.size) (P:=Q) ⟨⟨HQ5.out,HQD.out⟩,rfl⟩ H0.out HB5.out.size (by omega) s bt md lm rv true Aa na ca xs HX5.out.v (by have:=HFX.out.2;omega))
    go_wp2_with (refine ldmid (cs:=[.int .i64 s,.int .i64 bt,.int .i64 md,.int .i64 lm,.int .i64 rv]) rfl 36 (.tmp 89) rfl 1 rfl hA5 rfl _ Tryz.underlying36 rfl (by rw [infoCf];rfl) ?_)
    refine HRD.out.mono ?_
    rintro e w6 ⟨A6,n6,c6,N6,F6,rfl,hR6,hB6,hZ6,hN6,hK6,hF6⟩
    have hSZ6:w5.heap.size≤w6.heap.size:=hB6.size
    have hK6':∀ x,x<w5.heap.size→x≠Q→w6.heap[x]?=w5.heap[x]?:=fun x h1 h2=>hK6 x h1 h2 (by simp)
    have HB6:=Lib.hid (HB0.out.trans ((HB5.out.trans hB6).mono HB0.out.size))
    have HZp:=Lib.hid (HZ5.out.heq HQ5.out HPQ.out hSZ6 hK6')
    have HRp:=Lib.hid (rd8_keep HR5.out HQ5.out hSZ6 hK6')
    have HZq:=Lib.hid hZ6
    have HRq:=Lib.hid hR6
    clear hR6 hB6 hZ6 hN6 hK6 hF6 hK6' hA5 a7 HRD HR5 HZ5
    obtain⟨f1,f2,f3,f4⟩:=HFA.out
    rw [f2,f1]
    rw [f3]at HRp
    rw [f1]at f4
    have HF4:=Lib.hid f4
    clear f1 f2 f3 f4 HFA
    generalize hze:stepZ half zo s bt md lm rv true xs na=zn at *
    generalize hzf:stepZ half none s bt md lm rv true xs na=zm at *
    generalize ackZ half none s bt md lm rv true xs na=ka at *
    generalize outZ half none s bt md lm rv true xs na=ou at *
    generalize rcE (zst none) (zsz none) (zlm none) s bt md lm rv true xs na=ea at *
    have HSM:=Lib.hid (Cr.same_any A5 A6 n5 c5 n6 c6 ou ou w6 HRp.out HRq.out)
    rw [decide_eq_true rfl]at HSM
    clear hze hzf
    go_wp2_with fail
    refine HSM.out.mono ?_
    rintro e w7 ⟨rfl,hqt⟩
    have HT7:=Lib.hid (hqt.below w6.heap.size)
    have HB7:=Lib.hid (HB6.out.trans (HT7.out.mono HB6.out.size))
    clear hqt
    by_cases hea:ea=0
    · obtain⟨z,rfl,rfl⟩:=HF4.out hea
      subst hea
      have HP7:=Lib.hid (HZp.out.below HT7.out)
      have HQ7:=Lib.hid (HZq.out.below HT7.out)
      obtain⟨Ap,np,cp,hp⟩:=HP7.out.p
      obtain⟨Aq,nq,cq,hq⟩:=HQ7.out.p
      have HS1:=Lib.hid (pstate_any hp H0.out)
      have HS2:=Lib.hid (pstate_any hq H0.out)
      clear hp hq HF4
      go_wp2_with fail
      refine HS1.out.mono ?_
      rintro e wx ⟨rfl,rfl⟩
      go_wp2_with fail
      refine HS2.out.mono ?_
      rintro e wx ⟨rfl,rfl⟩
      have HD1:=Lib.hid (zdec_any (show HzP w7 w1.heap.size P half z _ _ from HP7.out) H0.out)
      go_wp2_with fail
      refine HD1.out.mono ?_
      rintro e w8 ⟨rfl,hB8⟩
      have HD2:=Lib.hid (zdec_any (HzP.below (show HzP w7 w1.heap.size Q half z _ _ from HQ7.out) hB8) H0.out)
      have HB8:=Lib.hid (HB7.out.trans (hB8.mono HB7.out.size))
      clear hB8
      go_wp2_with fail
      refine HD2.out.mono ?_
      rintro e w9 ⟨rfl,hB9⟩
      have HB9:=Lib.hid (HB8.out.trans (hB9.mono HB8.out.size))
      clear hB9
      go_wp2_with fail
      refine(known_ok _).mono ?_
      rintro e wk ⟨rfl,hBk⟩
      go_wp2
      go_ret
      exact⟨rfl,HB9.out.trans ((hBk.mono HB9.out.size))⟩
    · clear HF4
      have hea2:¬ ea=0:=hea
      go_wp2_with fail
      refine(known_ok _).mono ?_
      rintro e wk ⟨rfl,hBk⟩
      go_wp2
      go_ret
      exact⟨rfl,HB7.out.trans ((hBk.mono HB7.out.size))⟩
end Go.Proofs.YtkdfefpnhaebfaaGreat
