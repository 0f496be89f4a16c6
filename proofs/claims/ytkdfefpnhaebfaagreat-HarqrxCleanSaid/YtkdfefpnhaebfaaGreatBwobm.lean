/- Bundle. Conditions: none. -/
import Derived.Test.YtkdfefpnhaebfaaGreatBwoam
import Derived.Test.YtkdfefpnhaebfaaGreatBwobl
import Derived.Test.YtkdfefpnhaebfaaGreatBwobb
import Derived.Test.YtkdfefpnhaebfaaGreatBwobd
set_option linter.unusedVariables false
set_option linter.unusedSimpArgs false
namespace Go.Proofs.YtkdfefpnhaebfaaGreat
open Go.RowKit
attribute [local go_sem] Oper.semAt_some
set_option maxRecDepth 100000
set_option maxHeartbeats 4000000
theorem infoBk3:(Tryz.prog.info? 103).map (fun i=>(i.zero,i.size,i.bytes))=some (some (.agg #[.pointer none,.int .i64 0,.slice none 0 0]),3,40):=by kernel_rfl
theorem run_bsK(c0 c1 c2:Value)(W:World):(Instr.buildSlice 70 1 #[(0,.agg #[c0,c1,c2])]).run Tryz.prog W= .ok (.slice (some ⟨W.heap.size,0,none⟩) 1 1) (W.alloc (.cells #[c0,c1,c2] 103)):=by
 obtain⟨i,hi,hz0,hz1,hz2⟩:=info_parts infoBk3
 refine run_buildSlice (P:=Tryz.prog) W 70 103 1 _ _ i _ Tryz.underlying70 hi hz0 (by rw [hz1];decide) (by rw [hz1];decide) ?_
 rw [hz1]
 first
  | kernel_rfl
  | (simp [Instr.fill,Value.cells,List.zipIdx,List.range,List.range.loop,Array.range];done)
section
variable {ops : Array Oper} {rest : List Oper} {o : Oper} {a : Act} {W : World} {Q : Exit → Act → World → Prop} {K : Act → World → Prop}
theorem bsK(hgd:o.guard=none)(x:Operand)(c0 c1 c2:Value)(ho:o.op= .buildSlice 70 1 #[(0,x)])(hx:a.eval x= .agg #[c0,c1,c2])
 (h:wpList Tryz.prog ops Q rest (a.put o.dst (.slice (some ⟨W.heap.size,0,none⟩) 1 1)) (W.alloc (.cells #[c0,c1,c2] 103))):wpList Tryz.prog ops Q (o :: rest) a W :=
 wpList_plain hgd fun K hK=>by
  unfold Oper.wp
  have hp:(#[(0,x)]:Array (Nat × Operand)).map (fun(i,x)=>(i,a.eval x))=#[(0,.agg #[c0,c1,c2])]:=by simp [hx]
  simp only [execOp,ho,hp,run_bsK,Sem.run_bind,Sem.run_pure,Result.andThen_ok]
  exact hK _ _ h
theorem wp_appK(s x:Operand)(c0 c1 c2:Value)(gx:Nat)(ho:o.op= .call {callee:=.builtin .append,args:=#[s,x],argTypes:=#[70,70]})(hs:a.eval s= .slice none 0 0)(hx:a.eval x= .slice (some ⟨gx,0,none⟩) 1 1)
 (hg:Blk W gx 103 [c0,c1,c2]) (h1:∀ v ∈ [c0,c1,c2],v.oneCell'=true)
 (h:∀ G cap rest w',W.heap.size≤G→Blk w' G 103 (c0 :: c1 :: c2 :: rest)→Below W.heap.size W w'→K (a.put o.dst (.slice (some ⟨G,0,none⟩) 1 cap)) w'):o.wp Tryz.prog a W K Q:=by
 obtain⟨i,hi,hz0,hz1,hz2⟩:=info_parts infoBk3
 obtain⟨v',w',hr,h2,h3,h4⟩:=run_append_own (P:=Tryz.prog) W W.heap.size 70 o.type 103 i _ 3 40 Tryz.underlying70 hi hz0 hz1 hz2 (by rfl) (by decide) _ 0 [] (World.ownsRow_nil W W.heap.size 103 3) ⟨gx,0,none⟩ 1 1 [c0,c1,c2] (by simp)
  (fun j u hj=>by
    rw [add_lit,Nat.zero_add]
    exact hg.cell hj) h1 (by unfold maxLen;omega) (by omega) (Nat.le_refl _)
 rcases h2.2 with⟨h5,h6⟩ | ⟨g,cap',cur,h5,h6,h7,h8,h9,h10,h11⟩
 · omega
 · rw [h5]at hr
   unfold Oper.wp
   simp only [execOp,ho,resolve,invoke,builtin,Sem.run_bind,Sem.run_pure,Result.andThen_ok,List.map_toArray,List.map_cons,List.map_nil,hs,hx,hr]
   obtain⟨rest,hrest⟩:∃ rest,cur.toList=c0 :: c1 :: c2 :: rest:=by
    have h12:=List.take_append_drop (1*3) cur.toList
    have h13:cur.toList.take (1*3)=[c0,c1,c2]:=by simpa using h11
    exact⟨cur.toList.drop (1*3),by rw [← h12,h13];simp⟩
   refine h g cap' rest w' h6 ?_ ((Below.refl _ W).grown h3 (Nat.le_refl _) (fun k e=>by simp [Value.ownBlock]at e))
   show w'.heap[g]?=_
   rw [h7,← hrest]
end
theorem DmS.mono{W:World}{base base' D k f:Nat}{lim:Int}{V:Option Addr}{vc:Nat}{vs:List Int}{cnt:Int}(h:DmS W base D k f lim V vc vs cnt)(hb:base'≤base):DmS W base' D k f lim V vc vs cnt:=⟨h.b,Ownv.mono h.v hb,Nat.le_trans hb h.d⟩
theorem DmS.grown{W W':World}{base D k f X:Nat}{lim:Int}{V:Option Addr}{vc:Nat}{vs:List Int}{cnt:Int}(h:DmS W base D k f lim V vc vs cnt)(hg:W.grownBy W' (some X))(hD:D≠X)(hV:blk V≠X):DmS W' base D k f lim V vc vs cnt :=
 ⟨h.b.grown hg hD,Ownv.grown h.v hg (fun _ e=>hV (Option.some.inj e)),h.d⟩
theorem one_lay{b:Nat}(h1:1≤b)(h:b≤6144):Cr.shs b=0∧Cr.sh b=0∧Cr.bC b=1∧b+Cr.fi b=Cr.lo b∧40≤Cr.lo b∧Cr.lo b≤6144∧Cr.fi b<Cr.lo b:=by
 have e1:Cr.shs b=0:=by unfold Cr.shs;rw [if_pos h]
 have e2:Cr.sh b=0:=by unfold Cr.sh;rw [if_pos h]
 have e3:=Cr.bC_one h
 have e4:=Cr.fi_eq h1
 have e5:Cr.tl b=b:=by unfold Cr.tl Cr.ck;rw [if_pos h];omega
 unfold Cr.los at e4
 rw [e1,e3,e5]at e4
 have e6:=@Cr.lo_le b
 have e7:40≤Cr.lo b:=Cr.SZ_lo _
 refine⟨e1,e2,e3,by omega,e7,e6,by omega⟩
structure PrB (W:World) (base P:Nat) (half st sz lm:Int) (G cap D:Nat) (need:Int) (R:Option Addr) (r rc:Nat) (rest:List Value):Prop where
 p:PrP W base P half st sz lm (some ⟨G,0,none⟩) 1 cap
 g:Blk W G 103 (.pointer (some ⟨D,0,none⟩) :: .int .i64 need :: .slice R r rc :: rest)
 b:base≤G
theorem PrB.below{W W':World}{base P:Nat}{half st sz lm:Int}{G cap D:Nat}{need:Int}{R:Option Addr}{r rc:Nat}{rest:List Value}(h:PrB W base P half st sz lm G cap D need R r rc rest)(hB:Below W.heap.size W W'):PrB W' base P half st sz lm G cap D need R r rc rest:=⟨h.p.below hB,h.g.below hB,h.b⟩
theorem start_any{w:World}{base P:Nat}{half st sz lm:Int}{A:Option Addr}{n c:Nat}(h:PrP w base P half st sz lm A n c)(hb:base≤w.heap.size)(s:Nat)(bt md lim rv:Int)(hs1:1≤s)(hs:s≤6000)(hl:1≤lim) :
 Calls Tryz.prog 42 #[.pointer (some ⟨P,0,none⟩),.agg #[.int .i64 (s:Int),.int .i64 bt,.int .i64 md,.int .i64 lim,.int .i64 rv]] w fun e w'=>(∃ v,e= .returned v)∧Below base w w'∧(∀ q,q<w.heap.size→q≠P→w'.heap[q]?=w.heap[q]?) ∧
  ∃ G cap D V rest,(w.heap.size≤G∧w.heap.size≤D∧w.heap.size≤blk V)∧PrB w' base P half 1 s lim G cap D ((Cr.lo (s+24)+Cr.fi (s+24):Nat):Int) none 0 0 rest∧DmS w' base D (Cr.lo (s+24)) (Cr.fi (s+24)) lim V (3*(Cr.lo (s+24)+4)) (frL (Cr.lo (s+24)) (Cr.fi (s+24))) 0:=by
 obtain⟨f1,f2,f3,f4,f5,f6,f7⟩:=one_lay (b:=s+24) (by omega) (by omega)
 have HLY:=Lib.hid (fun W=>Cr.lay_any (s:Int) W)
 obtain⟨bb,hbb⟩:∃ bb:Int,bb=((s+24:Nat):Int):=⟨_,rfl⟩
 have hly:Cr.ly15 (s:Int)=([bb,1,(Cr.lo (s+24):Int),0,((Cr.los (s+24):Nat):Int),0,(Cr.fi (s+24):Int)],0):=by
  have h1:Cr.ly15 (s:Int)=(Cr.LY (s+24),0):=by unfold Cr.ly15;rw [if_neg (by omega)];rfl
  rw [h1]
  unfold Cr.LY
  rw [f1,f2,f3,hbb]
  rfl
 rw [hly]at HLY
 simp only [Cr.ints8,List.map_cons,List.map_nil]at HLY
 clear hly hbb f1 f2 f3
 have HNW:=Lib.hid (fun W=>new_ok (Cr.lo (s+24)) (Cr.fi (s+24)) lim W f5 f6 f7 hl)
 generalize Cr.los (s+24)=L4 at *
 generalize Cr.lo (s+24)=k at *
 generalize Cr.fi (s+24)=f at *
 obtain⟨cfg,hcfg⟩:∃ cfg:List Value,cfg=[.int .i64 (s:Int),.int .i64 bt,.int .i64 md,.int .i64 lim,.int .i64 rv]:=⟨_,rfl⟩
 have HB0:=Lib.hid (bal (Below.refl w.heap.size w) (.cells #[.int .i64 (s:Int),.int .i64 bt,.int .i64 md,.int .i64 lim,.int .i64 rv] 36))
 have HC0:=Lib.hid (Blk.new w [.int .i64 (s:Int),.int .i64 bt,.int .i64 md,.int .i64 lim,.int .i64 rv] 36 rfl)
 have HPP:=Lib.hid (h.below HB0.out)
 have hc0:=HC0.out.cell (j:=0) (v:=.int .i64 (s:Int)) rfl
 have HPC:Hid (P≠w.heap.size):=Lib.hid (by have:=h.p.lt;omega)
 have HPD:=Lib.hid h.d
 have HPW:=Lib.hid h.p.lt
 have HBS:=Lib.hid hb
 have HKF:=Lib.hid (And.intro f6 f7)
 clear h hb f4 f5 f6 f7 hs1 hs hcfg
 go_enter Tryz.func42,Tryz.ntmps42
 go_wp2_with fail
 refine(HLY.out _).mono ?_
 rintro e w2 ⟨rfl,hB⟩
 have HB2:=Lib.hid (HB0.out.trans (hB.mono HB0.out.size)).size
 have HB3:=Lib.hid (bal (HB0.out.trans (hB.mono HB0.out.size)) (.cells #[.int .i64 bb,.int .i64 1,.int .i64 (k:Int),.int .i64 0,.int .i64 (L4:Int),.int .i64 0,.int .i64 (f:Int)] 31))
 have HL3:=Lib.hid (Blk.new w2 [.int .i64 bb,.int .i64 1,.int .i64 (k:Int),.int .i64 0,.int .i64 (L4:Int),.int .i64 0,.int .i64 (f:Int)] 31 rfl)
 have HC3:=Lib.hid ((HC0.out.below hB).alloc (.cells #[.int .i64 bb,.int .i64 1,.int .i64 (k:Int),.int .i64 0,.int .i64 (L4:Int),.int .i64 0,.int .i64 (f:Int)] 31))
 have HP3:=Lib.hid ((HPP.out.below hB).p.alloc (.cells #[.int .i64 bb,.int .i64 1,.int .i64 (k:Int),.int .i64 0,.int .i64 (L4:Int),.int .i64 0,.int .i64 (f:Int)] 31))
 clear hB
 have HPL:Hid (P≠w2.heap.size):=Lib.hid (by have h1:=HPP.out.p;have h2:=HPW.out;have h3:=HB2.out;omega)
 clear hc0
 go_wp2_with fail
 generalize w2.alloc (.cells #[.int .i64 bb,.int .i64 1,.int .i64 (k:Int),.int .i64 0,.int .i64 (L4:Int),.int .i64 0,.int .i64 (f:Int)] 31)=w3 at *
 generalize w2.heap.size=LB at *
 obtain⟨CB,hCB⟩:∃ CB,CB=w.heap.size:=⟨_,rfl⟩
 rw [← hCB]at HC3 HPC ⊢
 clear hCB
 have HJ0:=Lib.hid HP3.out.drew
 have HI0:=Lib.hid HC3.out.drew
 have HV0:=Lib.hid HL3.out.drew
 have HU0:Hid (Below base w w3.drew):=Lib.hid (HB3.out.mono HBS.out).drew
 have HX0:Hid (∀ q,q<w.heap.size→q≠P→w3.drew.heap[q]?=w.heap[q]?):=Lib.hid (fun q hq _=>HB3.out.block q hq)
 have HS0:=Lib.hid (And.intro (HI0.out.cell (j:=0) (v:=.int .i64 (s:Int)) rfl) (HI0.out.cell (j:=3) (v:=.int .i64 lim) rfl))
 have HW3:Hid (w.heap.size≤w3.heap.size):=Lib.hid HB3.out.size
 clear HP3 HC3 HL3 HB3 HPP HC0 HB0
 refine Q_start (fun W9=>W9.cell? ⟨CB,0,none⟩=some (.int .i64 (s:Int))∧W9.cell? ⟨CB,3,none⟩=some (.int .i64 lim)) 19 20 ?_
 generalize w3.drew=x0 at *
 refine Q_W 0 17 1 (.pointer (some ⟨P,0,none⟩)) rfl HS0.out ?_
 simp only [z0,z1,z2]
 refine Q_W 1 18 3 (.pointer (some ⟨P,0,none⟩)) rfl HS0.out ?_
 simp only [z0,z1,z2]
 refine Q_W 2 19 7 (.pointer (some ⟨P,0,none⟩)) rfl HS0.out ?_
 simp only [z0,z1,z2]
 refine Q_W 3 20 15 (.pointer (some ⟨P,0,none⟩)) rfl HS0.out ?_
 simp only [z0,z1,z2]
 refine Q_W 4 21 31 (.pointer (some ⟨CB,0,none⟩)) rfl HS0.out ?_
 simp only [z0,z1,z2]
 refine Q_T 5 22 63 (.int .i64 (s:Int)) [] rfl HS0.out (.inl ⟨by rfl,fun W hS=>by obtain⟨s0,s1⟩:=hS;go_simp⟩) ?_
 simp only [z0,z1,z2]
 refine Q_W 6 23 127 (.pointer (some ⟨CB,3,none⟩)) rfl HS0.out ?_
 simp only [z0,z1,z2]
 refine Q_T 7 24 255 (.int .i64 lim) [] rfl HS0.out (.inl ⟨by rfl,fun W hS=>by obtain⟨s0,s1⟩:=hS;go_simp⟩) ?_
 simp only [z0,z1,z2]
 refine Q_W 8 25 511 (.pointer (some ⟨P,0,none⟩)) rfl HS0.out ?_
 simp only [z0,z1,z2]
 refine Q_W 9 26 1023 (.pointer (some ⟨P,1,none⟩)) rfl HS0.out ?_
 simp only [z0,z1,z2]
 have hp0:=HJ0.out.cell (j:=1) rfl
 have hf0:=HJ0.out.frozen 1
 have HJ1:=Lib.hid (HJ0.out.set 1 (.int .i64 1))
 have HI1:=Lib.hid (HI0.out.other HPC.out 1 (.int .i64 1))
 have HX1:=Lib.hid (fun q (hq:q<w.heap.size) (hqp:q≠P)=>((grownBy_set x0 P 1 (.int .i64 1)).block q (Nat.lt_of_lt_of_le hq HU0.out.size) (fun e=>hqp (Option.some.inj e))).trans (HX0.out q hq hqp))
 have HV1:=Lib.hid (HV0.out.other HPL.out 1 (.int .i64 1))
 have HU1:=Lib.hid (HU0.out.grown (grownBy_set _ P 1 (.int .i64 1)) (Nat.le_trans HBS.out HU0.out.size) (fun q e=>by cases e;exact HPD.out))
 simp only [List.set_cons_zero,List.set_cons_succ]at HJ1
 have HS1:=Lib.hid (And.intro (HI1.out.cell (j:=0) (v:=.int .i64 (s:Int)) rfl) (HI1.out.cell (j:=3) (v:=.int .i64 lim) rfl))
 refine Q_1S 10 2047 rfl (fun K hK=>?_)
 go_simp
 refine hK _ _ HS1.out ?_
 clear hK K hp0 hf0
 generalize x0.setCell ⟨P,1,none⟩ (.int .i64 1)=x1 at *
 refine Q_W 11 27 4095 (.pointer (some ⟨P,0,none⟩)) rfl HS1.out ?_
 simp only [z0,z1,z2]
 refine Q_W 12 28 8191 (.pointer (some ⟨P,2,none⟩)) rfl HS1.out ?_
 simp only [z0,z1,z2]
 have hp1:=HJ1.out.cell (j:=2) rfl
 have hf1:=HJ1.out.frozen 2
 have HJ2:=Lib.hid (HJ1.out.set 2 (.int .i64 (s:Int)))
 have HI2:=Lib.hid (HI1.out.other HPC.out 2 (.int .i64 (s:Int)))
 have HX2:=Lib.hid (fun q (hq:q<w.heap.size) (hqp:q≠P)=>((grownBy_set x1 P 2 (.int .i64 (s:Int))).block q (Nat.lt_of_lt_of_le hq HU1.out.size) (fun e=>hqp (Option.some.inj e))).trans (HX1.out q hq hqp))
 have HV2:=Lib.hid (HV1.out.other HPL.out 2 (.int .i64 (s:Int)))
 have HU2:=Lib.hid (HU1.out.grown (grownBy_set _ P 2 (.int .i64 (s:Int))) (Nat.le_trans HBS.out HU1.out.size) (fun q e=>by cases e;exact HPD.out))
 simp only [List.set_cons_zero,List.set_cons_succ]at HJ2
 have HS2:=Lib.hid (And.intro (HI2.out.cell (j:=0) (v:=.int .i64 (s:Int)) rfl) (HI2.out.cell (j:=3) (v:=.int .i64 lim) rfl))
 refine Q_1S 13 16383 rfl (fun K hK=>?_)
 go_simp
 refine hK _ _ HS2.out ?_
 clear hK K hp1 hf1
 generalize x1.setCell ⟨P,2,none⟩ (.int .i64 (s:Int))=x2 at *
 refine Q_W 14 29 32767 (.pointer (some ⟨P,0,none⟩)) rfl HS2.out ?_
 simp only [z0,z1,z2]
 refine Q_W 15 30 65535 (.pointer (some ⟨P,3,none⟩)) rfl HS2.out ?_
 simp only [z0,z1,z2]
 have hp2:=HJ2.out.cell (j:=3) rfl
 have hf2:=HJ2.out.frozen 3
 have HJ3:=Lib.hid (HJ2.out.set 3 (.int .i64 lim))
 have HI3:=Lib.hid (HI2.out.other HPC.out 3 (.int .i64 lim))
 have HX3:=Lib.hid (fun q (hq:q<w.heap.size) (hqp:q≠P)=>((grownBy_set x2 P 3 (.int .i64 lim)).block q (Nat.lt_of_lt_of_le hq HU2.out.size) (fun e=>hqp (Option.some.inj e))).trans (HX2.out q hq hqp))
 have HV3:=Lib.hid (HV2.out.other HPL.out 3 (.int .i64 lim))
 have HU3:=Lib.hid (HU2.out.grown (grownBy_set _ P 3 (.int .i64 lim)) (Nat.le_trans HBS.out HU2.out.size) (fun q e=>by cases e;exact HPD.out))
 simp only [List.set_cons_zero,List.set_cons_succ]at HJ3
 have HS3:=Lib.hid (And.intro (HI3.out.cell (j:=0) (v:=.int .i64 (s:Int)) rfl) (HI3.out.cell (j:=3) (v:=.int .i64 lim) rfl))
 refine Q_1S 16 131071 rfl (fun K hK=>?_)
 go_simp
 refine hK _ _ HS3.out ?_
 clear hK K hp2 hf2
 generalize x2.setCell ⟨P,3,none⟩ (.int .i64 lim)=x3 at *
 refine Q_W 17 31 262143 (.pointer (some ⟨P,0,none⟩)) rfl HS3.out ?_
 simp only [z0,z1,z2]
 refine Q_W 18 32 524287 (.pointer (some ⟨P,4,none⟩)) rfl HS3.out ?_
 simp only [z0,z1,z2]
 have hp3:=HJ3.out.cell (j:=4) rfl
 have hf3:=HJ3.out.frozen 4
 have HJ4:=Lib.hid (HJ3.out.set 4 (.slice none 0 0))
 have HI4:=Lib.hid (HI3.out.other HPC.out 4 (.slice none 0 0))
 have HX4:=Lib.hid (fun q (hq:q<w.heap.size) (hqp:q≠P)=>((grownBy_set x3 P 4 (.slice none 0 0)).block q (Nat.lt_of_lt_of_le hq HU3.out.size) (fun e=>hqp (Option.some.inj e))).trans (HX3.out q hq hqp))
 have HV4:=Lib.hid (HV3.out.other HPL.out 4 (.slice none 0 0))
 have HU4:=Lib.hid (HU3.out.grown (grownBy_set _ P 4 (.slice none 0 0)) (Nat.le_trans HBS.out HU3.out.size) (fun q e=>by cases e;exact HPD.out))
 simp only [List.set_cons_zero,List.set_cons_succ]at HJ4
 have HS4:=Lib.hid (And.intro (HI4.out.cell (j:=0) (v:=.int .i64 (s:Int)) rfl) (HI4.out.cell (j:=3) (v:=.int .i64 lim) rfl))
 refine Q_1 19 1048575 rfl (fun K hK=>?_)
 go_simp
 refine hK _ _ ?_
 clear hK K hp3 hf3
 generalize x3.setCell ⟨P,4,none⟩ (.slice none 0 0)=w4 at *
 refine Q_end ?_
 have c1:=HV4.out.cell (j:=1) (v:=.int .i64 1) rfl
 have c2:=HV4.out.cell (j:=2) (v:=.int .i64 (k:Int)) rfl
 have c5:=HV4.out.cell (j:=5) (v:=.int .i64 0) rfl
 have c6:=HV4.out.cell (j:=6) (v:=.int .i64 (f:Int)) rfl
 have c3:=HI4.out.cell (j:=3) (v:=.int .i64 lim) rfl
 go_wp2_with fail
 refine wp_loop_rounds 3 ?_
 rw [rounds_succ]
 go_wp2_with fail
 refine(HNW.out _).mono ?_
 rintro e w5 ⟨D,V,rfl,hD,hB5⟩
 have hP5:=HJ4.out.below hB5
 have c45:=hP5.cell (j:=4) (v:=.slice none 0 0) rfl
 have HP5:=Lib.hid hP5
 have HD5:=Lib.hid hD
 have HB5:=Lib.hid (HU4.out.trans (hB5.mono (Nat.le_trans HBS.out HU4.out.size)))
 have HZ4:Hid (P<w4.heap.size):=Lib.hid HJ4.out.lt
 have HZ5:=Lib.hid hB5.size
 have HB54:=Lib.hid (fun q (hq:q<w4.heap.size)=>hB5.block q hq)
 have q1:IntKind.i64.wrap ((k:Int)+(f:Int))=(k:Int)+(f:Int):=IntWalk.i64_in _ (by have:=HKF.out;omega)
 clear hD hB5 hP5 c1 c2 c5 c6 c3
 have hg0:Blk (w5.alloc (.cells #[.pointer (some ⟨D,0,none⟩),.int .i64 ((k:Int)+(f:Int)),.slice none 0 0] 103)) w5.heap.size 103 [.pointer (some ⟨D,0,none⟩),.int .i64 ((k:Int)+(f:Int)),.slice none 0 0]:=Blk.new w5 _ 103 rfl
 go_wp2_with (first
  | (refine bsK rfl (.tmp 67) (.pointer (some ⟨D,0,none⟩)) (.int .i64 ((k:Int)+(f:Int))) (.slice none 0 0) rfl rfl ?_)
  | (at_builtin
     refine list_of rfl fun K hK=>wp_appK (.tmp 62) (.tmp 68) (.pointer (some ⟨D,0,none⟩)) (.int .i64 ((k:Int)+(f:Int))) (.slice none 0 0) w5.heap.size rfl rfl rfl hg0 (by simp [Value.oneCell']) ?_
     intro G cap rest w6 hGe hG hB6
     have hb6:=(bal (Below.refl w5.heap.size w5) (.cells #[.pointer (some ⟨D,0,none⟩),.int .i64 ((k:Int)+(f:Int)),.slice none 0 0] 103)).trans (hB6.mono (by simp))
     have hP6:=HP5.out.below hb6
     have hp6:=hP6.cell (j:=4) rfl
     have hf6:=hP6.frozen 4
     have HP6:=Lib.hid hP6
     have HG6:=Lib.hid hG
     have HB6:=Lib.hid hb6
     have HGE:=Lib.hid hGe
     clear hGe hG hB6 hb6 hP6 c45 hg0
     refine hK _ _ ?_
     clear hK K))
 rw [rounds_succ]
 go_wp2
 go_end0
 have hw45:w4.heap.size≤w5.heap.size:=HZ5.out
 have hs:=grownBy_set w6 P 4 (.slice (some ⟨G,0,none⟩) 1 cap)
 have hb5:base≤w5.heap.size:=Nat.le_trans HBS.out HB5.out.size
 have hB6:=HB5.out.trans (HB6.out.mono hb5)
 have hPw:=HZ4.out
 have hPG:P≠G:=by have h1:=HGE.out;simp at h1;omega
 refine⟨⟨_,rfl⟩,hB6.grown hs (Nat.le_trans HBS.out hB6.size) (fun q e=>by cases e;exact HPD.out),fun q hq hqp=>?_,G,cap,D,V,rest,?_,⟨⟨HP6.out.set 4 _,HPD.out⟩,by rw [Int.natCast_add];exact HG6.out.other hPG 4 _,by have h1:=HGE.out;simp at h1;omega⟩,?_⟩
 · have hq4:=Nat.lt_of_lt_of_le hq HU4.out.size
   have hq5:=Nat.lt_of_lt_of_le hq4 hw45
   exact((hs.block q (Nat.lt_of_lt_of_le hq5 HB6.out.size) (fun e=>hqp (Option.some.inj e))).trans (HB6.out.block q hq5)).trans ((HB54.out q hq4).trans (HX4.out q hq hqp))
 · have h1:=HGE.out
   have h2:=HD5.out.d
   have h3:=(Ownv.blk_of HD5.out.v HD5.out.ne).1
   have h4:=HU4.out.size
   simp at h1
   omega
 have hD6:=DmS.mono HD5.out (Nat.le_trans HBS.out HU4.out.size) |>.below HB6.out
 exact hD6.grown hs (fun e=>by have h1:=HD5.out.d;omega) (fun e=>by have h1:=(Ownv.blk_of HD5.out.v HD5.out.ne).1;omega)
end Go.Proofs.YtkdfefpnhaebfaaGreat
namespace Go.Proofs.YtkdfefpnhaebfaaGreat.Cr
open Go.RowKit Go.Shelf
attribute [local go_sem] Oper.semAt_some
set_option maxRecDepth 100000
set_option maxHeartbeats 4000000
def SeqK{α:Type}(m gf:Nat)(fa lb:Array Value)(encs:α→Array Value)(Kp:World→World→Prop)(S Sp:List α→Prop)(Ok:List α→α→Prop)(w:World):Prop :=
 ∀ (l:Nat) (J Jx:List α→World→Prop) (W:World),Below w.heap.size w W→ClB J→ClB Jx →
  (∀ pre x W1,J pre W1→Ok pre x→YieldAt Fence.wide (m - 1) Tryz.prog l (encs x) W1 fun e W' =>
    (e= .returned (.bool true)∧J (pre ++ [x]) W'∧Kp W1 W')∨(e= .returned (.bool false)∧Jx (pre ++ [x]) W')) →
  J [] W →
  CallsIn Fence.wide m Tryz.prog gf (fa ++ #[.func (.yield l) #[] #[]] ++ lb) W fun e W'=>(∃ v,e= .returned v)∧((∃ xs,S xs∧J xs W')∨(∃ pre,Sp pre∧Jx pre W'))
theorem rangeK{α:Type}{g:Operand}{ps:Array Tmp}{assign body:Code}{Q:Exit→Act→World→Prop}{a:Act}{w:World}
 {gf:Nat} {fa lb:Array Value} (hg:a.eval g= .func (.func gf) fa lb) (eg:∀ args w,(callFunc gf args).run Tryz.prog w= .ok (.enter gf args) w)
 {encs:α→Array Value} {Kp:World→World→Prop} {S Sp:List α→Prop} {Ok:List α→α→Prop} {w0:World} (hseq:SeqK 2 gf fa lb encs Kp S Sp Ok w0)
 (hKt:∀ {A B C:World},Kp A B→Kp B C→Kp A C) (hKb:∀ (W:World) (l:Nat) (o o':Obj),w.heap.size≤l→W.heap[l]?=some o→o.isCells=false→Kp W (W.putObj l o')) (hb0:Below w0.heap.size w0 w) (hps:∀ x,(encs x).size=ps.size)
 (I:List α→World→Prop) (Ix:Code→List α→World→Prop) (hI:ClB I) (hIx:∀ c,ClB (Ix c)) (hIp:ClP w.heap.size I) (hIxp:∀ c,ClP w.heap.size (Ix c)) (h0:I [] w) (a₁:α→Act)
 (hassign:∀ (l:Nat) (x:α) (W:World) (K:Act→World→Prop),K (a₁ x) W →
   assign.wpIn (Fence.wide.inRound l) 1 Tryz.prog (Exit.then K (fun _ _ _=>False)) {tmps:=(ps.zip (encs x)).foldl (fun t (p,v)=>t.setIfInBounds p v) a.tmps,defers:=[]} W)
 (hbody:∀ (l:Nat) (pre:List α) (x:α) (W:World),I pre W→Ok pre x→body.wpIn (Fence.wide.inRound l) 1 Tryz.prog (ownPostK Kp I Ix (pre ++ [x]) W) (a₁ x) W)
 (hdone:∀ (D:Nat) (xs:List α) (W:World),w.heap.size≤D→S xs→I xs W→W.heap[D]?=some (.deferred (some []))→Q .normal {a with defers:={target:=.collected D,args:=#[]} :: a.defers} W)
 (hstop:∀ (D:Nat) (c:Code) (pre:List α) (W:World),w.heap.size≤D→Sp pre→Ix c pre W→W.heap[D]?=some (.deferred (some []))→c.wpIn Fence.wide 3 Tryz.prog Q {a with defers:={target:=.collected D,args:=#[]} :: a.defers} W) :
 (Code.rangeFunc g ps assign body).wpIn Fence.wide 3 Tryz.prog Q a w:=by
 refine wpIn_rangeFunc fun fn hfn=>?_
 obtain⟨n,hn⟩:∃ n,n=w.heap.size:=⟨_,rfl⟩
 rw [← hn]at hKb hIp hIxp hdone hstop
 obtain⟨rc,hrc⟩:∃ rc:LoopState→Option Code→Loop,rc=fun st pe=>{state:=st,pending:=pe,fn,tmps:=a.tmps,params:=ps,assign,body,defers:=n}:=⟨_,rfl⟩
 obtain⟨W1,hW1⟩:∃ W1,W1=(w.alloc (.deferred (some []))).alloc (.loop (rc .ready none)):=⟨_,rfl⟩
 have hs1:W1.heap.size=n+2:=by rw [hW1,hn];simp
 have hL1:W1.heap[n+1]?=some (.loop (rc .ready none)):=by
  rw [hW1,hn]
  have h:=World.alloc_heap_new (w.alloc (.deferred (some []))) (.loop (rc .ready none))
  rwa [World.size_alloc]at h
 have hK1:W1.heap[n]?=some (.deferred (some [])):=by
  rw [hW1,hn]
  exact(Below.heap_alloc _ _ _ (by simp)).trans (World.alloc_heap_new w _)
 have hI1:I [] W1:=by rw [hW1];exact hI.alloc _ (hI.alloc _ h0)
 have hb1:Below w0.heap.size w0 W1:=by
  rw [hW1]
  exact hb0.trans ((((Below.refl _ w).alloc (Nat.le_refl _) _).alloc (by simp) _).mono hb0.size)
 -- the loop's two blocks: nothing behind them turns them
 have two:∀ {A B:World} {row:Option Nat} {o p:Obj},A.grownBy B row→(∀ r,row=some r→W1.heap.size≤r)→A.heap[n+1]?=some o∧A.heap[n]?=some p→B.heap[n+1]?=some o∧B.heap[n]?=some p:=fun {A B row o p} hgr hr h =>
  ⟨(hgr.block _ (Array.getElem?_eq_some_iff.1 h.1).1 (fun e=>by have:=hr _ e.symm;omega)).trans h.1,(hgr.block _ (Array.getElem?_eq_some_iff.1 h.2).1 (fun e=>by have:=hr _ e.symm;omega)).trans h.2⟩
 have up:∀ {row:Option Nat},(∀ r,row=some r→W1.heap.size≤r)→∀ r,row=some r→n≤r:=fun hr r e=>by have:=hr r e;omega
 refine⟨n+1,[{target:=.collected n,args:=#[]}],W1,{target:=.fn (.func gf) lb,args:=fa ++ #[.func (.yield (n+1)) #[] #[]]},W1,gf,fa ++ #[.func (.yield (n+1)) #[] #[]] ++ lb,W1,?_,?_,?_,?_,fun _=>by omega,?_⟩
 · rw [hW1,hrc,hn]
   exact run_enterLoop_outer _ _ _ _ _
 · simp only [resolve,hg]
   simp [go_sem]
 · intro f hf
   simp [Target.leads]at hf
   subst hf
   trivial
 · simp [invoke,go_sem,eg]
 refine(hseq (n+1)
  (fun pre W=>I pre W∧W.heap[n+1]?=some (.loop (rc .ready none))∧W.heap[n]?=some (.deferred (some [])))
  (fun pre W=>∃ c,Ix c pre W∧W.heap[n+1]?=some (.loop (rc .done (some c)))∧W.heap[n]?=some (.deferred (some [])))
  W1 hb1 (fun s A B hs hb=>⟨hI s A B hs.1 hb,two (grown_of_below hb) nofun hs.2⟩)
  (fun s A B ⟨c,hc,hs⟩ hb=>⟨c,hIx c s A B hc hb,two (grown_of_below hb) nofun hs⟩) ?_ ⟨hI1,hL1,hK1⟩).mono ?_
 · rintro pre x W ⟨hi,hl,hk⟩ hlen
   have hlt:n+1<W.heap.size:=(Array.getElem?_eq_some_iff.1 hl).1
   obtain⟨Wb,hWb⟩:∃ Wb,Wb=W.putObj (n+1) (.loop {rc .ready none with state:=.busy}):=⟨_,rfl⟩
   have hlb:Wb.heap[n+1]?=some (.loop {rc .ready none with state:=.busy}):=by rw [hWb];exact World.putObj_heap_same hlt
   have hkb:Wb.heap[n]?=some (.deferred (some [])):=by rw [hWb];exact(World.putObj_heap_other (by omega)).trans hk
   have hib:I pre Wb:=by rw [hWb];exact hIp _ _ _ _ _ hi (by omega) hl rfl
   have hpb:Kp W Wb:=by rw [hWb];exact hKb _ _ _ _ (by omega) hl rfl
   have hyl:=run_yield (P:=Tryz.prog) (args:=encs x) hl (by rw [hrc];exact hps x)
   rw [hrc]at hyl
   refine⟨fn,_,assign,body,hyl,roundIn_of_wpIn hfn (hassign _ x W _ ⟨_,run_beginRound hl (by rw [hrc]),?_⟩)⟩
   rw [← hWb]
   refine wpIn_mono (hbody _ pre x _ hib hlen) ?_
   have close:∀ (jump:Option Code) (W3:World),KeepsOthers Wb W3→∃ W4,W4=W3.putObj (n+1) (.loop (rc (if jump.isNone then .ready else .done) jump))∧(Instr.endRound (n+1) jump).run Tryz.prog W3= .ok (.bool jump.isNone) W4 ∧
    (∃ o:Obj,W3.heap[n+1]?=some o∧o.isCells=false)∧W4.heap[n+1]?=some (.loop (rc (if jump.isNone then .ready else .done) jump))∧W4.heap[n]?=some (.deferred (some [])):=fun jump W3 hk3=>by
    have hl3:=hk3.same _ _ hlb rfl
    have hr3:=run_endRound (P:=Tryz.prog) jump hl3
    rw [hrc]at hr3 ⊢
    exact⟨_,rfl,hr3,⟨_,hl3,rfl⟩,World.putObj_heap_same (Array.getElem?_eq_some_iff.1 hl3).1,(World.putObj_heap_other (by omega)).trans (hk3.same _ _ hkb rfl)⟩
   have away:∀ (c:Code) (W3:World),KeepsOthers Wb W3→Ix c (pre ++ [x]) W3→∃ v W4,(Instr.endRound (n+1) (some c)).run Tryz.prog W3= .ok v W4∧v= .bool false∧∃ c',Ix c' (pre ++ [x]) W4∧W4.heap[n+1]?=some (.loop (rc .done (some c')))∧W4.heap[n]?=some (.deferred (some [])):=fun c W3 hk3 hi3=>by
    obtain⟨W4,e4,hr,⟨o,ho,hc⟩,h1,h2⟩:=close (some c) W3 hk3
    exact⟨_,W4,hr,rfl,c,by rw [e4];exact hIxp c _ _ _ _ _ hi3 (by omega) ho hc,h1,h2⟩
   rintro e a3 W3 hp
   cases e with
   | normal =>
     obtain⟨hk3,hp3,hi3⟩:=hp
     obtain⟨W4,e4,hr,⟨o,ho,hc⟩,h1,h2⟩:=close none W3 hk3
     refine⟨_,W4,hr,.inl ⟨rfl,⟨?_,h1,h2⟩,hKt (hKt hpb hp3) ?_⟩⟩
     · rw [e4];exact hIp _ _ _ _ _ hi3 (by omega) ho hc
     · rw [e4];exact hKb _ _ _ _ (by omega) ho hc
   | ret =>
     obtain⟨v,W4,hr,hv,h⟩:=away .ret W3 hp.1 hp.2
     exact⟨v,W4,hr,.inr ⟨by rw [hv],h⟩⟩
   | exit id =>
     obtain⟨v,W4,hr,hv,h⟩:=away (.exit id) W3 hp.1 hp.2
     exact⟨v,W4,hr,.inr ⟨by rw [hv],h⟩⟩
   | goto t =>
     obtain⟨v,W4,hr,hv,h⟩:=away (.goto t) W3 hp.1 hp.2
     exact⟨v,W4,hr,.inr ⟨by rw [hv],h⟩⟩
   | panic ch=>exact hp.elim
   | outgrown=>exact hp.elim
 · rintro e W2 ⟨⟨v,rfl⟩,h⟩
   rcases h with⟨xs,hS,hi,hl,hk⟩ | ⟨pre,hSp,c,hi,hl,hk⟩
   · have hr:=run_endLoop (P:=Tryz.prog) hl (by rw [hrc];simp)
     rw [hrc]at hr
     exact⟨none,_,hr,hdone _ xs _ (Nat.le_refl _) hS (hIp _ _ _ _ _ hi (by omega) hl rfl) ((World.putObj_heap_other (by omega)).trans hk)⟩
   · have hr:=run_endLoop (P:=Tryz.prog) hl (by rw [hrc];simp)
     rw [hrc]at hr
     exact⟨some c,_,hr,hstop _ c pre _ (Nat.le_refl _) hSp (hIxp c _ _ _ _ _ hi (by omega) hl rfl) ((World.putObj_heap_other (by omega)).trans hk)⟩
def knC(vs:List Int):Nat→Nat
 | 0=>0
 | j+1=>knC vs j+(if gi vs j≠0 then 1 else 0)
theorem knC_le(vs:List Int):∀ j,knC vs j≤j
 | 0=>Nat.le_refl _
 | j+1=>by have:=knC_le vs j;simp only [knC];split<;>omega
def KwI(vs:List Int)(N:Nat)(J:List (Int × Int)→World→Prop)(W0:World)(V:Option Addr)(vc:Nat)(i:Value)(wr:World):Prop :=
 ∃ (k:Nat) (pre:List (Int × Int)),k≤N∧i= .int .i64 k∧pre.length=knC vs k∧J pre wr∧Rd .i64 wr V N vc vs∧W0.heap.size≤wr.heap.size
theorem knw_in(l N D:Nat)(k f lim cnt:Int)(V:Option Addr)(vc:Nat)(vs:List Int)(hN:N≤1000000)(Kp:World→World→Prop)(W:World)
 (hD:Blk W D 157 [.int .i64 k,.int .i64 f,.int .i64 lim,.slice V N vc,.int .i64 cnt]) (hV:Rd .i64 W V N vc vs)
 (hkp:∀ A B,Kp A B→Rd .i64 A V N vc vs→Rd .i64 B V N vc vs) (hks:∀ A B,Kp A B→A.heap.size≤B.heap.size)
 (J Jx:List (Int × Int)→World→Prop) (hJ:ClB J) (hJx:ClB Jx)
 (hY:∀ pre x W1,J pre W1→pre.length<N→YieldAt Fence.wide 1 Tryz.prog l (encP x) W1 fun e W' =>
   (e= .returned (.bool true)∧J (pre ++ [x]) W'∧Kp W1 W')∨(e= .returned (.bool false)∧Jx (pre ++ [x]) W'))
 (h0:J [] W) :
 CallsIn Fence.wide 2 Tryz.prog 121 (#[.pointer (some ⟨D,0,none⟩)] ++ #[.func (.yield l) #[] #[]] ++ #[]) W fun e W'=>(∃ v,e= .returned v)∧((∃ xs:List (Int × Int),xs.length=knC vs N∧J xs W')∨(∃ pre:List (Int × Int),True∧Jx pre W')):=by
 have c3:=hD.cell (j:=3) (v:=.slice V N vc) rfl
 have HV:=Lib.hid hV
 have HKP:=Lib.hid hkp
 have HKS:=Lib.hid hks
 clear hD hV hkp hks
 refine callsIn_of_wp Tryz.func121 rfl trivial ?_ rfl
 simp only [Tryz.ntmps121,List.size_toArray,List.length_cons,List.length_nil,Nat.reduceAdd,Nat.reduceSub,Array.replicate_succ,Array.replicate_zero,List.push_toArray,List.append_toArray,List.nil_append,List.cons_append]
 refine wpIn_scope_straight rfl ?_
 gi_wp2_with fail
 refine wpIn_label ?_
 rename_i K hK
 refine hK _ _ ?_
 clear hK K
 gi_wp2_with fail
 gi_loopw [11] (fun i wr=>KwI vs N J W V vc i wr) (fun i _=>N - (intOf i).toNat)
 case atStart=>exact⟨0,[],Nat.zero_le _,rfl,rfl,h0,HV.out,Nat.le_refl _⟩
 case round =>
  obtain⟨i,pre,hi,rfl,hpl,hJs,hR,hz⟩:=hrel
  clear c3
  have HJs:=Lib.hid hJs
  have HRs:=Lib.hid hR
  have HZs:=Lib.hid hz
  have HPL:=Lib.hid hpl
  clear hJs hz hpl
  by_cases hlt:i<N
  · have cv:=Rd.cell hR hlt
    have iv:=fun W=>Rdv.ix hR el34 hlt .i64 W
    have HKN:=Lib.hid (show knC vs (i+1)=knC vs i+(if gi vs i≠0 then 1 else 0) from rfl)
    obtain⟨v,hv⟩:∃ v,v=gi vs i:=⟨_,rfl⟩
    rw [← hv]at cv HKN
    clear hR hv
    by_cases hv0:v=0
    · have q0:(v != 0)=false:=bne_f hv0
      rw [if_neg (fun h=>h hv0)]at HKN
      clear hv0
      gi_wp2_with fail
      refine⟨nofun,?_⟩
      gi_wp2
      go_roundw
      case rel=>exact⟨i+1,pre,by omega,by go_num,by rw [HKN.out,HPL.out];rfl,HJs.out,HRs.out,HZs.out⟩
      case measure=>simp [intOf];omega
    · have q0:(v != 0)=true:=bne_t hv0
      rw [if_pos hv0]at HKN
      clear hv0
      obtain⟨fn,tmps,assign,body,hy,hRD⟩:=hY _ ((i:Int),v) wr HJs.out (by have:=knC_le vs i;have:=HPL.out;omega)
      unfold encP at hy
      have HRD:=Lib.hid hRD
      clear hRD
      gi_wp2_with fail
      refine HRD.out.mono ?_
      rintro e W7 (⟨rfl,hJ7,hk7⟩ | ⟨rfl,hJx7⟩)
      · gi_wp2
        go_roundw
        case rel=>exact⟨i+1,_,by omega,by go_num,by rw [HKN.out,List.length_append,HPL.out];rfl,hJ7,HKP.out _ _ hk7 HRs.out,Nat.le_trans HZs.out (HKS.out wr _ hk7)⟩
        case measure=>simp [intOf];omega
      · gi_wp2
        simp only [Exit.noGoto]
        go_end0
        exact⟨⟨_,rfl⟩,.inr ⟨_,trivial,hJx7⟩⟩
  · obtain rfl:i=N:=by omega
    clear hR
    gi_wp2
    simp only [Exit.noGoto]
    go_end0
    exact⟨⟨_,rfl⟩,.inl ⟨pre,HPL.out,HJs.out⟩⟩
structure KnK (w:World) (OB n:Nat) (W:World):Prop where
 x:Blk W OB 3 [.int .i64 (n:Int)]
 bl:Below w.heap.size w W
theorem KnK.clB{w:World}{OB:Nat}:ClB (fun(pre:List (Int × Int)) W=>KnK w OB pre.length W):=fun pre W W' h hb=>⟨h.x.below hb,h.bl.trans (hb.mono h.bl.size)⟩
theorem KnK.clP{w:World}{OB B':Nat}(hB:w.heap.size≤B'):ClP B' (fun(pre:List (Int × Int)) W=>KnK w OB pre.length W):=fun pre W l o o' h hl hk ho =>
 ⟨h.x.put o' hk ho,h.bl.grown (grownBy_putObj' W l o') h.bl.size (fun k e=>by cases e;omega)⟩
theorem rd_heq{kd:IntKind}{W W':World}{A:Option Addr}{n c:Nat}{xs:List Int}(hx:Rd kd W A n c xs)(hs:W.heap.size≤W'.heap.size)(hk:blk A<W.heap.size→W'.heap[blk A]?=W.heap[blk A]?):Rd kd W' A n c xs:=by
 have h:Rdv W A n c (xs.map (Value.int kd)):=hx
 refine⟨h.len,h.le,h.cm,h.nil,h.spot,fun hc a ha=>Nat.lt_of_lt_of_le (h.lt hc a ha) hs,fun j v hj=>?_⟩
 rw [← h.at_ j v hj]
 have hlt:j<n:=by rw [← h.len];exact(List.getElem?_eq_some_iff.1 hj).1
 have hle:=h.le
 obtain⟨b,o,rfl,hb'⟩:=h.ptr (by omega)
 exact World.cell?_of_block (hk hb')
theorem knw_seq(N D OB:Nat)(k f lim cnt:Int)(V:Option Addr)(vc:Nat)(vs:List Int)(hN:N≤1000000)(w:World)
 (hD:Blk w D 157 [.int .i64 k,.int .i64 f,.int .i64 lim,.slice V N vc,.int .i64 cnt]) (hV:Rd .i64 w V N vc vs) (hlt:blk V<w.heap.size) (hne:blk V≠OB) :
 SeqK 2 121 #[.pointer (some ⟨D,0,none⟩)] #[] encP (KpN w.heap.size OB) (fun ys=>ys.length=knC vs N) (fun _=>True) (fun pre _=>pre.length<N) w :=
 fun l J Jx W hB hJ hJx hY h0=>knw_in l N D k f lim cnt V vc vs hN (KpN w.heap.size OB) W (hD.below hB) (Rdv.below hV hB) (fun A B hk hr=>rd_heq hr hk.1 (fun _=>hk.2 _ hlt hne)) (fun A B hk=>hk.1) J Jx hJ hJx hY h0
theorem known_any{W:World}{base D k f:Nat}{lim:Int}{V:Option Addr}{vc:Nat}{vs:List Int}{cnt:Int}(h:DmS W base D k f lim V vc vs cnt)(hk:k≤6144) :
 Calls Tryz.prog 72 #[.pointer (some ⟨D,0,none⟩)] W fun e w'=>e= .returned (.int .i64 (knC vs (3*(k+4)):Int))∧Below W.heap.size W w':=by
 have hVl:=(Ownv.blk_of h.v h.ne).2
 have hB0:=bal (Below.refl _ W) (.cells #[.int .i64 0] 3)
 have hD0:=h.below hB0
 have HNO:=Lib.hid (dnone_any hD0)
 have HX0:=Lib.hid (Blk.new W [.int .i64 0] 3 rfl)
 have HSEQ:=Lib.hid (knw_seq (3*(k+4)) D W.heap.size k f lim cnt V vc vs (by omega) _ hD0.b (Own.rd hD0.v) (Nat.lt_of_lt_of_le hVl hB0.size) (by omega))
 have HB0:=Lib.hid hB0
 have hNb:3*(k+4)≤20000:=by omega
 generalize 3*(k+4)=N at *
 have hmf:∀ (fn:Fn) (first cap:Array Value) (w:World),(Instr.makeFunc fn first cap).run Tryz.prog w= .ok (.func fn first cap) w:=fun _ _ _ _=>rfl
 clear h hVl hB0 hD0 hk
 refine(callsIn_wide (n:=3)).1 ?_
 refine callsIn_of_wp_marks Tryz.func72 rfl trivial ?_
 simp only [Tryz.ntmps72,List.size_toArray,List.length_cons,List.length_nil,Nat.reduceAdd,Nat.reduceSub,Array.replicate_succ,Array.replicate_zero,List.push_toArray,List.append_toArray,List.nil_append,List.cons_append]
 refine wpIn_wide.2 ?_
 go_wp2_with fail
 refine HNO.out.mono ?_
 rintro e w1 ⟨rfl,hw1⟩
 rw [← hw1]
 clear hw1
 have HW2:Hid ((W.alloc (.cells #[.int .i64 0] 3)).heap.size=W.heap.size+1):=Lib.hid (by simp)
 have HK:Hid (KnK W W.heap.size 0 (W.alloc (.cells #[.int .i64 0] 3))):=Lib.hid ⟨HX0.out,HB0.out⟩
 generalize W.alloc (.cells #[.int .i64 0] 3)=w2 at *
 have HWO:=Lib.hid (HB0.out.size)
 go_wp2_with fail
 refine(wpIn_wide (n:=3)).1 ?_
 refine' rangeK (w0:=w2) (gf:=121) (fa:=#[.pointer (some ⟨D,0,none⟩)]) (lb:=#[]) rfl (enters_of Tryz.func121 (by kernel_rfl) rfl) HSEQ.out KpN.trans (fun W l o o' hl h1 h2=>KpN.put o' hl) (Below.refl _ _) (fun _=>rfl)
  (fun pre Wx=>KnK W W.heap.size pre.length Wx) (fun _ _ _=>False) KnK.clB (fun _ _ _ _ h _=>h) (KnK.clP HWO.out) (fun _ _ _ _ _ _ h _ _ _=>h) HK.out _ ?assign ?body ?done ?stop
 case assign =>
  intro l x W K hK
  unfold encP
  gi_wp2
  exact hK
 case body =>
  rintro l pre x W1 hI hlt
  have HI:=Lib.hid hI
  have hx:=hI.x
  have cO:=hx.cell (j:=0) (v:=.int .i64 (pre.length:Int)) rfl
  have fO:=hx.frozen 0
  have hlen:(pre ++ [x]).length=pre.length+1:=by simp
  have hltN:=hlt
  have q1:IntKind.i64.wrap ((pre.length:Int)+1)=(pre.length:Int)+1:=IntWalk.i64_in _ (by omega)
  have hsz:W.heap.size+1≤W1.heap.size:=hx.lt
  have HX:=Lib.hid hx
  clear hI hx hlt hltN
  gi_wp2
  refine⟨KeepsOthers.setCell _ _ _,KpN.grown (grownBy_set W1 _ 0 _) (fun r hr=>.inl (Option.some.inj hr).symm) (by rw [HW2.out];exact hsz),?_⟩
  show KnK W _ (pre ++ [x]).length _
  rw [hlen]
  exact⟨by have h9:=HX.out.set 0 (.int .i64 ((pre.length:Int)+1));rw [Int.natCast_add];exact h9,HI.out.bl.grown (grownBy_set W1 _ 0 _) HI.out.bl.size (fun r e=>by cases e;exact Nat.le_refl _)⟩
 case done =>
  rintro D' ys W1 hD hS hI hK
  have hx:=hI.x
  have cO:=hx.cell (j:=0) (v:=.int .i64 (ys.length:Int)) rfl
  have fO:=hx.frozen 0
  have HX:=Lib.hid hx
  have HBL:=Lib.hid hI.bl
  clear hI hx
  go_wp2
  rw [hS]at HX
  have hK2:=(KeepsOthers.setCell W1 ⟨W.heap.size,0,none⟩ (.int .i64 (knC vs N:Int))).same D' _ hK rfl
  refine⟨by simp,.inl ⟨_,_,rfl,run_takeDeferred hK2,?_⟩⟩
  have hx2:=(HX.out.set 0 (.int .i64 (knC vs N:Int))).put (.deferred none) hK2 rfl
  have hc:=hx2.cell (j:=0) rfl
  have l1:∀ W9:World,W9.cell? ⟨W.heap.size,0,none⟩=some (.int .i64 (knC vs N:Int))→(loadVar 3 ⟨W.heap.size,0,none⟩).run Tryz.prog W9= .ok (.int .i64 (knC vs N:Int)) W9:=fun W9 h9=>by simp [loadVar,h9,go_sem]
  have l2:=l1 _ hc
  refine⟨.int .i64 (knC vs N:Int),?_,rfl,?_⟩
  · rw [results_c rfl]
    simp [asAddr,l2,Sem.run_pure]
  · have hg:=HBL.out.grown (grownBy_set W1 W.heap.size 0 (.int .i64 (knC vs N:Int))) HBL.out.size (fun r e=>by cases e;exact Nat.le_refl _)
    exact hg.grown (grownBy_putObj' _ D' (.deferred none)) hg.size (fun r e=>by cases e;have:=HW2.out;omega)
 case stop =>
  rintro D c pre W hD _ hx hK
  exact hx.elim
end Go.Proofs.YtkdfefpnhaebfaaGreat.Cr
