/- Bundle. Conditions: none. -/
import Derived.Test.YtkdfefpnhaebfaaGreatBwobp
import Derived.Test.YtkdfefpnhaebfaaGreatBwb1
set_option linter.unusedVariables false
set_option linter.unusedSimpArgs false
namespace Go.Proofs.YtkdfefpnhaebfaaGreat
open Go.RowKit
attribute [local go_sem] Oper.semAt_some
set_option maxRecDepth 100000
set_option maxHeartbeats 8000000
theorem cmb_zero{ps l vs:List Int}(hv:∀ q,q<vs.length→gi vs q=0)(hl:∀ i,gi l i=0):∀ j q,q<vs.length→gi (cmbL ps l vs j) q=0
 | 0,q,hq=>hv q hq
 | j+1,q,hq=>by
   have ih:=cmb_zero hv hl (ps:=ps) j
   show gi (List.set _ _ _) q=0
   rw [gi_set' _ _ _ _ (by rw [cmbL_len];exact hq)]
   split
   · rename_i e
     rw [e,ih q hq,hl]
     decide
   · exact ih q hq
theorem bZ_zero(half:Int)(n:Nat):bZ half (zI 16 1000) 0 n (List.replicate n 0)=none:=by
 unfold bZ vsZ zI dcB
 dsimp only
 rw [k16.1,k16.2.1]
 have hlen:(frL 40 0).length=3*(40+4):=by simp [frL]
 rw [knC_none (3*(40+4)) (fun q hq=>cmb_zero (fun q hq=>by
  rw [hlen]at hq
  unfold frL
  rw [gi_range _ hq]
  unfold frI
  rw [if_neg (by omega)]) (fun i=>gi_zero _ _) n q (by rw [hlen];exact hq)),if_pos (by omega)]
theorem rc16{st sz lm:Int}{fresh:Bool}{ys:List Int}(hs:SoftB ys=true)(hb:(fresh=true∨st=0)∨(sz=16∧lm=1000)):rcE st sz lm 16 132 2 1000 0 fresh ys 132=0:=by
 unfold rcE
 rw [sp16,if_neg (by rw [hs];rintro(h | h)<;>cases h),if_neg]
 rintro⟨⟨h1,h2⟩,h3⟩
 rcases hb with(h | h) | ⟨h,h'⟩
 · rw [h1]at h;cases h
 · exact h2 h
 · rw [h,h']at h3
   rcases h3 with h3 | h3<;>exact h3 rfl
theorem nx16(half:Nat)(mg:Int)(hh:1≤half∧half≤64)(hm:1≤mg∧mg≤127):fnK 16 (bZ (half:Int) (zI 16 1000) 0 132 (idL mg (Cr.exD 40 1000 1 66 2 0 xs16)))=1∧fnO 16 (bZ (half:Int) (zI 16 1000) 0 132 (idL mg (Cr.exD 40 1000 1 66 2 0 xs16)))=xs16 ∧
 (nxZ (half:Int) (zI 16 1000) 0 132 (idL mg (Cr.exD 40 1000 1 66 2 0 xs16))).st=2∧(nxZ (half:Int) (zI 16 1000) 0 132 (idL mg (Cr.exD 40 1000 1 66 2 0 xs16))).b=some x40:=by
 have h:=bZ16 half mg hh hm
 unfold nxZ zI at *
 dsimp only at *
 rw [h]
 unfold fnK fnO fnS fnB
 dsimp only
 rw [if_pos te16.1,if_pos te16.1,if_pos te16.1,if_pos te16.1]
 exact⟨rfl,te16.2,rfl,rfl⟩
theorem nz16:(nxZ 8 (zI 16 1000) 0 132 (List.replicate 132 0)).st=1:=by
 have h:=bZ_zero 8 132
 unfold nxZ zI at *
 dsimp only at *
 rw [h]
 rfl
theorem z132_soft:SoftB (List.replicate 132 0)=true:=by decide +kernel
-- the first reception of a clean transmission
theorem recv16{w:World}{base P:Nat}{st sz lm:Int}{A0:Option Addr}{n0 c0:Nat}(h:PrP w base P 8 st sz lm A0 n0 c0)(hb:base≤w.heap.size)(mg:Int)(hm:1≤mg∧mg≤127)(fresh:Bool)(hbeg:fresh=true∨st=0)(A:Option Addr)(c:Nat)(hy:Rd .i64 w A 132 c (idL mg (Cr.exD 40 1000 1 66 2 0 xs16))) :
 Calls Tryz.prog 15 #[.pointer (some ⟨P,0,none⟩),.agg #[.int .i64 16,.int .i64 132,.int .i64 2,.int .i64 1000,.int .i64 0],.bool fresh,.slice A 132 c] w fun e w'=>∃ A' c' F' z,e= .returned (.tuple #[.slice A' 16 c',.int .i64 1,.int .i64 0])∧Rd .u8 w' A' 16 c' xs16∧Below base w w'∧HzP w' base P 8 z 132 F'∧(z.st=2∧z.sz=16∧z.lm=1000∧z.b=some x40)∧(∀ q,q<w.heap.size→q≠P→w'.heap[q]?=w.heap[q]?)∧(∀ x,x ∈ F'→w.heap.size≤x):=by
 refine(recv_begin h (by decide) hb 16 0 132 2 1000 fresh A 132 c _ hy (by omega) (rc16 (idL_soft hm exD16_bit) (.inl hbeg)) hbeg).mono ?_
 rintro e w' ⟨A',n',c',F',rfl,hR,hB,hZ,hK,hF⟩
 obtain⟨e1,e2,e3,e4⟩:=nx16 8 mg (by omega) hm
 have hR:Rd .u8 w' A' n' c' xs16:=by rw [← e2];exact hR
 obtain rfl:n'=16:=(Rd.len hR).symm
 exact⟨A',c',F',_,congrArg (fun k=>Ending.returned (.tuple #[.slice A' 16 c',.int .i64 k,.int .i64 0])) e1,hR,hB,hZ,⟨e3,rfl,rfl,e4⟩,fun q hq hp=>hK q hq hp (by simp),fun x hx=>(hF x hx).resolve_left (by simp)⟩
theorem recvz{w:World}{base P:Nat}{st sz lm:Int}{A0:Option Addr}{n0 c0:Nat}(h:PrP w base P 8 st sz lm A0 n0 c0)(hb:base≤w.heap.size)(A:Option Addr)(c:Nat)(hy:Rd .i64 w A 132 c (List.replicate 132 0)) :
 Calls Tryz.prog 15 #[.pointer (some ⟨P,0,none⟩),.agg #[.int .i64 16,.int .i64 132,.int .i64 2,.int .i64 1000,.int .i64 0],.bool true,.slice A 132 c] w fun e w'=>∃ A' c' F' z,e= .returned (.tuple #[.slice A' 0 c',.int .i64 2,.int .i64 0])∧Below base w w'∧HzP w' base P 8 z 132 F'∧z.st=1:=by
 refine(recv_begin h (by decide) hb 16 0 132 2 1000 true A 132 c _ hy (by omega) (rc16 z132_soft (.inl (.inl rfl))) (.inl rfl)).mono ?_
 rintro e w' ⟨A',n',c',F',rfl,hR,hB,hZ,hK,hF⟩
 have h0:=bZ_zero 8 132
 have hR:Rd .u8 w' A' n' c' []:=by
  have e2:fnO 16 (bZ 8 (zI 16 1000) 0 132 (List.replicate 132 0))=[]:=by rw [h0];rfl
  rw [← e2];exact hR
 obtain rfl:n'=0:=(Rd.len hR).symm
 have e1:fnK 16 (bZ 8 (zI 16 1000) 0 132 (List.replicate 132 0))=2:=by rw [h0];rfl
 exact⟨A',c',F',_,congrArg (fun k=>Ending.returned (.tuple #[.slice A' 0 c',.int .i64 k,.int .i64 0])) e1,hB,hZ,nz16⟩
theorem known_ok(w:World):Calls Tryz.prog 11 #[] w fun e w'=>e= .returned (.bool true)∧Below w.heap.size w w':=by
 have HC0:=Lib.hid (Blk.new w [.int .i64 16,.int .i64 132,.int .i64 2,.int .i64 1000,.int .i64 0] 36 rfl)
 have HBA:=Lib.hid (bal (Below.refl w.heap.size w) (.cells #[.int .i64 16,.int .i64 132,.int .i64 2,.int .i64 1000,.int .i64 0] 36))
 go_enter Tryz.func11,Tryz.ntmps11
 go_wp2_with fail
 generalize w.alloc (.cells #[.int .i64 16,.int .i64 132,.int .i64 2,.int .i64 1000,.int .i64 0] 36)=w1 at *
 obtain⟨CB,hCB⟩:∃ CB,CB=w.heap.size:=⟨_,rfl⟩
 rw [← hCB]at HC0 ⊢
 clear hCB
 refine(hnew_ok 8 w1 (by omega)).mono ?_
 rintro e w2 ⟨P,rfl,hP,hB2⟩
 have HP2:=Lib.hid hP
 have HC2:=Lib.hid (HC0.out.below hB2)
 have HB2:=Lib.hid (HBA.out.trans (hB2.mono HBA.out.size))
 have HW12:Hid (w1.heap.size≤w2.heap.size):=Lib.hid hB2.size
 have HCB:Hid (CB<w1.heap.size):=Lib.hid HC0.out.lt
 clear hP hB2
 go_wp2_with fail
 have HS:=Lib.hid HC2.out.drew
 refine Q_start (fun W9=>Blk W9 CB 36 [.int .i64 16,.int .i64 132,.int .i64 2,.int .i64 1000,.int .i64 0]) 2 8 ?_
 refine Q_T 0 23 1 (.agg #[.int .i64 16,.int .i64 132,.int .i64 2,.int .i64 1000,.int .i64 0]) [] rfl HS.out (yieldsIf_load_mid rfl 36 (.tmp 1) rfl CB (0) rfl [.int .i64 16,.int .i64 132,.int .i64 2,.int .i64 1000,.int .i64 0] _ (fun W hS=>fun q v hv=>by rw [Nat.zero_add];exact Blk.cell hS hv) Tryz.underlying36 rfl (by rw [infoCf];rfl)) ?_
 simp only [z0,z1,z2]
 refine Q_1S 1 3 rfl (fun K hK=>?_)
 go_simp
 refine(sixteen_any _).mono ?_
 rintro e w3 ⟨A3,rfl,hR3,-,hB⟩
 have HB3:=Lib.hid ((Below.refl _ w2).drew.trans hB)
 have HR3:=Lib.hid hR3
 have HS3:=Lib.hid (HS.out.below hB)
 clear hR3 hB
 refine hK _ _ HS3.out ?_
 clear hK K
 refine Q_1 2 7 rfl (fun K hK=>?_)
 go_simp
 refine(encode16 A3 16 w3 HR3.out).mono ?_
 rintro e w4 ⟨A4,c4,rfl,hR4,hB⟩
 have HB4:=Lib.hid (HB3.out.trans (hB.mono HB3.out.size))
 have HR4:=Lib.hid hR4
 have HC4:=Lib.hid (HS3.out.below hB)
 clear hR4 hB
 refine hK _ _ ?_
 clear hK K
 refine Q_X 3 22 15 (.tuple #[.slice A4 132 c4,.int .i64 0]) rfl ?_
 simp only [z0,z1,z2]
 refine Q_X 4 26 31 (.slice A4 132 c4) rfl ?_
 simp only [z0,z1,z2]
 refine Q_X 5 27 63 (.int .i64 0) rfl ?_
 simp only [z0,z1,z2]
 refine Q_1 6 127 rfl (fun K hK=>?_)
 go_simp
 refine hK _ _ ?_
 clear hK K
 refine Q_1 7 255 rfl (fun K hK=>?_)
 go_simp
 refine hK _ _ ?_
 clear hK K
 refine Q_end ?_
 have HP4:=Lib.hid (HP2.out.below HB4.out)
 have HID:=Lib.hid (ideal_ok A4 132 c4 _ 20 w4 HR4.out (by
  unfold Cr.ValidB
  rw [List.all_eq_true]
  intro y hy
  rcases exD16_bit y hy with h | h<;>rw [h]<;>rfl) (fun y hy=>by rcases exD16_bit y hy with h | h<;>omega) (by omega) (by omega))
 go_wp2_with fail
 refine HID.out.mono ?_
 rintro e w5 ⟨R5,rfl,hR5,hF5,hB5⟩
 have HR5:=Lib.hid hR5
 have HF5:=Lib.hid hF5
 have HP5:=Lib.hid (HP4.out.below hB5)
 have hC5:=HC4.out.below hB5
 have HC5:=Lib.hid hC5
 have HB5:=Lib.hid (HB2.out.trans ((HB4.out.trans (hB5.mono HB4.out.size)).mono HB2.out.size))
 have HW25:Hid (w2.heap.size≤w5.heap.size∧w2.heap.size≤w4.heap.size):=Lib.hid ⟨Nat.le_trans HB4.out.size hB5.size,HB4.out.size⟩
 have HPL:Hid (P<w2.heap.size):=Lib.hid HP2.out.p.lt
 clear hR5 hF5 hB5
 have HBS5:Hid (w1.heap.size≤w5.heap.size):=Lib.hid (Nat.le_trans HW12.out HW25.out.1)
 have HBW:Hid (w.heap.size≤w1.heap.size):=Lib.hid HBA.out.size
 go_wp2_with (refine ldrow (cs:=[.int .i64 16,.int .i64 132,.int .i64 2,.int .i64 1000,.int .i64 0]) rfl 36 (.tmp 1) rfl rfl hC5 _ Tryz.underlying36 rfl (by rw [infoCf];rfl) ?_)
 refine(recv16 HP5.out HBS5.out 20 (by omega) true (.inl rfl) R5 132 HR5.out).mono ?_
 rintro e w6 ⟨A6,c6,F6,z6,rfl,hR6,hB6,hZ6,⟨hz1,hz2,hz3,hz4⟩,hK6,-⟩
 obtain⟨G,cap,D,V,vc,R,r,rc,rest,hF,hq⟩:=hZ6.h
 rw [hz1,hz2,hz3,hz4]at hq
 have HQ6:=Lib.hid hq
 have HR6:=Lib.hid hR6
 have hs56:w5.heap.size≤w6.heap.size:=hB6.size
 have HL6:Hid (Rd .i64 w6 R5 132 132 (idL 20 (Cr.exD 40 1000 1 66 2 0 xs16))):=Lib.hid (rdv_heq HR5.out hs56 (fun hA hlt=>hK6 _ hlt (by have h1:=HF5.out hA;have h2:=HPL.out;have h3:=HW25.out.2;omega)))
 have hC6:Blk w6 CB 36 [.int .i64 16,.int .i64 132,.int .i64 2,.int .i64 1000,.int .i64 0]:=(hB6.block CB HCB.out).trans HC5.out
 have HC6:=Lib.hid hC6
 have HB6:=Lib.hid (HB5.out.trans (hB6.mono HBW.out))
 have HS56:=Lib.hid hs56
 clear hq hR6 hs56 hB6 hK6 hC5 hz1 hz2 hz3 hz4 hZ6 hF
 go_wp2_with (refine ldrow (cs:=[.int .i64 16,.int .i64 132,.int .i64 2,.int .i64 1000,.int .i64 0]) rfl 36 (.tmp 1) rfl rfl hC6 _ Tryz.underlying36 rfl (by rw [infoCf];rfl) ?_)
 refine(recv_done HQ6.out.a.p (by decide) 132 2 0 R5 132 132 _ HL6.out (by omega) (rc16 (idL_soft (by omega) exD16_bit) (.inr ⟨rfl,rfl⟩))).mono ?_
 rintro e w7 ⟨rfl,hB7⟩
 have HQ7:=Lib.hid (HQ6.out.below hB7)
 have HR7:=Lib.hid (Rdv.below HR6.out hB7)
 have HC7:=Lib.hid (HC6.out.below hB7)
 have HB7:=Lib.hid (HB6.out.trans (hB7.mono HB6.out.size))
 have HS57:Hid (w5.heap.size≤w7.heap.size):=Lib.hid (Nat.le_trans HS56.out hB7.size)
 clear hB7 hC6
 go_wp2_with fail
 refine(sixteen_any w7).mono ?_
 rintro e w8 ⟨A8,rfl,hR8,-,hB8⟩
 have HQ8:=Lib.hid (HQ7.out.below hB8)
 have HC8:=Lib.hid (HC7.out.below hB8)
 have HB8:=Lib.hid (HB7.out.trans (hB8.mono HB7.out.size))
 have HSM:=Lib.hid (Cr.same_any A6 A8 16 c6 16 16 xs16 xs16 w8 (Rdv.below HR7.out hB8) hR8)
 rw [decide_eq_true rfl]at HSM
 have HS58:Hid (w5.heap.size≤w8.heap.size):=Lib.hid (Nat.le_trans HS57.out hB8.size)
 clear hB8 hR8
 go_wp2_with fail
 refine HSM.out.mono ?_
 rintro e wq ⟨rfl,hqt⟩
 have hBq:=hqt.below w8.heap.size
 have HQq:=Lib.hid (HQ8.out.below hBq)
 have HCq:=Lib.hid (HC8.out.below hBq)
 have HBq:=Lib.hid (HB8.out.trans (hBq.mono HB8.out.size))
 have HSq:Hid (w5.heap.size≤wq.heap.size):=Lib.hid (Nat.le_trans HS58.out hBq.size)
 have HDE:=Lib.hid (pdecoded_any HQq.out.a (by decide))
 rw [HQq.out.t.some_iff]at HDE
 clear hqt hBq
 go_wp2_with fail
 refine HDE.out.mono ?_
 rintro e wa ⟨rfl,hBa⟩
 have HQa:=Lib.hid (HQq.out.below hBa)
 have HCa:=Lib.hid (HCq.out.below hBa)
 have HBa:=Lib.hid (HBq.out.trans (hBa.mono HBq.out.size))
 have HSa:Hid (w5.heap.size≤wa.heap.size):=Lib.hid (Nat.le_trans HSq.out hBa.size)
 have HSTa:=Lib.hid (pstate_any HQa.out.a.p (by decide))
 clear hBa
 go_wp2_with fail
 refine HSTa.out.mono ?_
 rintro e wx ⟨rfl,hwx⟩
 rw [← hwx]
 clear hwx
 have HPa:=Lib.hid HQa.out.a.p
 have HBSa:Hid (w1.heap.size≤wa.heap.size):=Lib.hid (Nat.le_trans HBS5.out HSa.out)
 have HSb:=Lib.hid HCa.out.drew
 go_wp2_with fail
 refine Q_start (fun W9=>Blk W9 CB 36 [.int .i64 16,.int .i64 132,.int .i64 2,.int .i64 1000,.int .i64 0]) 3 11 ?_
 refine Q_W 0 95 1 (.pointer (some ⟨P,0,none⟩)) rfl HSb.out ?_
 simp only [z0,z1,z2]
 refine Q_T 1 96 3 (.agg #[.int .i64 16,.int .i64 132,.int .i64 2,.int .i64 1000,.int .i64 0]) [] rfl HSb.out (yieldsIf_load_mid rfl 36 (.tmp 1) rfl CB (0) rfl [.int .i64 16,.int .i64 132,.int .i64 2,.int .i64 1000,.int .i64 0] _ (fun W hS=>fun q v hv=>by rw [Nat.zero_add];exact Blk.cell hS hv) Tryz.underlying36 rfl (by rw [infoCf];rfl)) ?_
 simp only [z0,z1,z2]
 refine Q_1S 2 7 rfl (fun K hK=>?_)
 refine wp_mk (n:=132) _ _ 39 rfl el22 rfl rfl (by omega) (by unfold maxLen;omega) ?_
 intro Am wb hO hB hA
 have HRb:Hid (Rd .i64 wb Am 132 132 (List.replicate 132 0)):=Lib.hid (by have:=hO.rd;unfold Rd;simpa using this)
 have HBb:=Lib.hid ((Below.refl _ wa).drew.trans hB)
 have HSc:=Lib.hid (HSb.out.below hB)
 clear hO hB hA
 refine hK _ _ HSc.out ?_
 clear hK K
 refine Q_1 3 15 rfl (fun K hK=>?_)
 go_simp
 refine(recvz (HPa.out.below HBb.out) (Nat.le_trans HBSa.out HBb.out.size) Am 132 HRb.out).mono ?_
 rintro e wc ⟨Ac,cc,Fc,zc,rfl,hBc,hZc,hzt⟩
 have HZc:=Lib.hid hZc
 have HZT:=Lib.hid hzt
 have HBc:=Lib.hid (HBa.out.trans (((HBb.out.mono HBSa.out).trans hBc).mono HBW.out))
 clear hBc hZc hzt
 refine hK _ _ ?_
 clear hK K
 refine Q_X 4 94 31 (.tuple #[.slice Ac 0 cc,.int .i64 2,.int .i64 0]) rfl ?_
 simp only [z0,z1,z2]
 refine Q_X 5 99 63 (.slice Ac 0 cc) rfl ?_
 simp only [z0,z1,z2]
 refine Q_X 6 100 127 (.int .i64 2) rfl ?_
 simp only [z0,z1,z2]
 refine Q_X 7 101 255 (.int .i64 0) rfl ?_
 simp only [z0,z1,z2]
 refine Q_1 8 511 rfl (fun K hK=>?_)
 go_simp
 refine hK _ _ ?_
 clear hK K
 refine Q_1 9 1023 rfl (fun K hK=>?_)
 go_simp
 refine hK _ _ ?_
 clear hK K
 refine Q_1 10 2047 rfl (fun K hK=>?_)
 go_simp
 refine hK _ _ ?_
 clear hK K
 refine Q_end ?_
 obtain⟨G2,cap2,D2,V2,vc2,R2,r2,rc2,rest2,-,hq2⟩:=HZc.out.h
 rw [HZT.out]at hq2
 have HSTc:=Lib.hid (pstate_any hq2.a.p (by decide))
 clear hq2
 go_wp2_with fail
 refine HSTc.out.mono ?_
 rintro e wx ⟨rfl,hwx⟩
 rw [← hwx]
 clear hwx
 go_wp2
 go_ret
 exact⟨rfl,HBc.out⟩
end Go.Proofs.YtkdfefpnhaebfaaGreat
