/- Bundle. Conditions: none. -/
import Derived.Test.YtkdfefpnhaebfaaGreatBwoam
import Derived.Test.YtkdfefpnhaebfaaGreatBwoan
import Derived.Deep.MidRow
set_option linter.unusedVariables false
set_option linter.unusedSimpArgs false
namespace Go.Proofs.YtkdfefpnhaebfaaGreat
set_option maxRecDepth 100000
set_option maxHeartbeats 8000000
open Go.RowKit
def D1(o:Ob)(w3:World)(n0:Nat)(v9 v31:Value)(wr:World):Prop:=∃ (j bg cap:Nat),j≤o.s.length∧v31= .int .i64 j∧v9= .slice (some ⟨bg,0,none⟩) (j+1) cap∧Mx wr n0 bg cap (frows o (j+1))∧Below n0 w3 wr
theorem decode_ok(S P A:Option Addr)(cs cp ca:Nat)(o:Ob)(w:World)(h:In3 w o S P A cs cp ca)(ho:o.ok) :
 Calls Tryz.prog 171 #[.slice S o.s.length cs,.slice P o.p.length cp,.slice A o.a.length ca] w (DecOk o w):=by
 have hb:Blk (w.alloc (.cells #[.slice none 0 0,.slice none 0 0,.slice none 0 0] 229)) w.heap.size 229 zero28:=Blk.new w zero28 229 rfl
 have H:=Lib.hid (h.alloc (.cells #[.slice none 0 0,.slice none 0 0,.slice none 0 0] 229))
 have HO:=Lib.hid ho
 have HIN:=Lib.hid h
 have HF:=Lib.hid (f_met ho)
 have HL:=Lib.hid (show o.s.length=o.a.length+3∧o.a.length≤6144 from⟨ho.2.2.1,ho.2.1⟩)
 have hn:o.s.length≤6147:=by have:=HL.out;omega
 have hn2:o.a.length≤6144:=HL.out.2
 have HAL:=Lib.hid (show 0<o.a.length from ho.1)
 clear h ho
 go_enter Tryz.func171,Tryz.ntmps171
 go_wp2_with fail
 refine(observed_ok S P A cs cp ca o _ H.out HO.out).mono ?_
 rintro e w1 ⟨bo,bb,rfl,hSW,hB1⟩
 have h62:Blk (w1.alloc (.cells #[.pointer none,.slice none 0 0] 271)) w1.heap.size 271 zero62:=Blk.new w1 zero62 271 rfl
 have h28:=(hb.below hB1).alloc (.cells #[.pointer none,.slice none 0 0] 271)
 have HSW:=Lib.hid hSW
 have HB1:=Lib.hid hB1
 clear hb hB1 hSW
 unfold swV
 go_wp2_with (first
  | (refine strow (cs:=swC bo bb) rfl 271 (.tmp 8) (.tmp 20) rfl rfl rfl h62 rfl (by rw [info62];rfl) (by simp [swC,Value.oneCell']) ?_;intro W2 h1 h2;have H1:=Lib.hid h1;have H2:=Lib.hid h2;have H28:=Lib.hid (Blk.grown h28 h2 (by have:=HB1.out.size;simp at this;omega));clear h1 h2 h62 h28))
 have hq0:Below w1.heap.size w1 W2:=((Below.refl _ w1).alloc (Nat.le_refl _) _).grown H2.out (by simp) (fun k hk=>by cases hk;exact Nat.le_refl _)
 have HS2:=Lib.hid (HSW.out.below hq0)
 have HQ0:=Lib.hid hq0
 clear hq0
 refine(none_any _).mono ?_
 rintro e w3 ⟨rfl,hB3⟩
 have HB3:=Lib.hid hB3
 have K1:=Lib.hid (H1.out.below hB3)
 have K28:=Lib.hid (H28.out.below hB3)
 have KS:=Lib.hid (HS2.out.below hB3)
 have hM:=Mx.new (W:=w3) (base:=w3.heap.size) (N:=w3.heap.size) none0 rfl (Nat.le_refl _) rfl
 have HM:=Lib.hid hM
 clear hB3 hM
 have k1:Blk (w3.alloc (.cells (ints8 none0).toArray 275)) w1.heap.size 271 (swC bo bb):=K1.out.alloc _
 have q0:=k1.cell (j:=0) (v:=.pointer (some ⟨bo,0,none⟩)) rfl
 clear k1
 have HST:=Lib.hid (fun W (h:SwAt W bo bb o S P A cs cp ca)=>steps_any bo o S P A cs cp ca W h.o)
 go_wp2_with (first
  | (refine wpM_bs rfl (.tmp 26) none0 rfl rfl rfl ?_)
  | (go_at_call 219;refine(HST.out _ (KS.out.alloc _)).mono ?_;rintro e w4 ⟨rfl,rfl⟩))
 go_loopw [9,31] (fun v9 v31 wr=>D1 o w3 w3.heap.size v9 v31 wr) (fun _ v31 _=>o.s.length - (intOf v31).toNat)
 case atStart=>exact⟨0,w3.heap.size,1,by omega,rfl,rfl,HM.out,(Below.refl _ w3).alloc (Nat.le_refl _) _⟩
 case round =>
  obtain⟨j,bg,cap,hj,rfl,rfl,hM,hB3⟩:=hrel
  by_cases hlt:j<o.s.length
  · have hix:=fun W=>ix68 bg (j+1) cap (j:=j) (by omega) .i64 W
    have hS0:(fun W=>Blk W w1.heap.size 271 (swC bo bb)∧W.rangeAt bg (8*j) (ints8 (o.f j))) wr.drew:=⟨Blk.drew (K1.out.below hB3),hM.row (frows_get o (by omega))⟩
    have KSR:=Lib.hid (KS.out.below hB3)
    have HMR:=Lib.hid hM
    have HBR:=Lib.hid hB3
    have HM8:=Lib.hid (HF.out j (by omega)).len
    clear hM hB3
    go_wp2_with fail
    refine wp_region_P (fun W=>Blk W w1.heap.size 271 (swC bo bb)∧W.rangeAt bg (8*j) (ints8 (o.f j))) 7 (by kernel_rfl) ?_
    refine wpAnyP_takeW (i:=0) (v:=.slice (some ⟨bg,0,none⟩) (j+1) cap) rfl (by kernel_rfl) (by kernel_rfl) (by kernel_rfl) (by decide) (fun _ _ _ h=>h) (Or.inl ⟨by rfl,fun W hS=>by go_simp⟩) hS0 ?_
    simp only [Act.put,yq0,yq1,yq2]
    refine wpAnyP_takeW (i:=2) (v:=.int .i64 (j:Int)) rfl (by kernel_rfl) (by kernel_rfl) (by kernel_rfl) (by decide) (fun _ _ _ h=>h) (Or.inl ⟨by rfl,fun W hS=>by go_simp⟩) hS0 ?_
    simp only [Act.put,yq0,yq1,yq2]
    refine wpAnyP_takeW (i:=3) (v:=.slice (some ⟨bg,0,none⟩) (j+1) cap) rfl (by kernel_rfl) (by kernel_rfl) (by kernel_rfl) (by decide) (fun _ _ _ h=>h) (Or.inl ⟨by rfl,fun W hS=>by go_simp⟩) hS0 ?_
    simp only [Act.put,yq0,yq1,yq2]
    refine wpAnyP_takeW (i:=4) (v:=.int .i64 (j:Int)) rfl (by kernel_rfl) (by kernel_rfl) (by kernel_rfl) (by decide) (fun _ _ _ h=>h) (Or.inl ⟨by rfl,fun W hS=>by go_simp⟩) hS0 ?_
    simp only [Act.put,yq0,yq1,yq2]
    refine wpAnyP_takeW (i:=5) (v:=.pointer (some ⟨bg,8*j,none⟩)) rfl (by kernel_rfl) (by kernel_rfl) (by kernel_rfl) (by decide) (fun _ _ _ h=>h) (Or.inl ⟨by rfl,fun W hS=>by go_simp⟩) hS0 ?_
    simp only [Act.put,yq0,yq1,yq2]
    refine wpAnyP_take (i:=1) (v:=swV bo bb) rfl (by kernel_rfl) (by kernel_rfl) (by kernel_rfl) (by kernel_rfl) (by kernel_rfl) (by decide) (fun _ _ _ h=>h) (yieldsIf_load_mid rfl 271 (.tmp 8) rfl w1.heap.size 0 rfl (swC bo bb) _ (fun W hS=>fun q v hv=>hS.1.cell (by rw [Nat.zero_add];exact hv)) Tryz.underlying271 rfl (by rw [info62];rfl)) hS0 ?_
    simp only [Act.put,yq0,yq1,yq2]
    refine wpAnyP_take (i:=6) (v:=.agg (ints8 (o.f j)).toArray) rfl (by kernel_rfl) (by kernel_rfl) (by kernel_rfl) (by kernel_rfl) (by kernel_rfl) (by decide) (fun _ _ _ h=>h) (yieldsIf_load_mid rfl 275 (.tmp 39) rfl bg (8*j) rfl (ints8 (o.f j)) _ (fun W hS=>hS.2) Tryz.underlying275 rfl (i66 HM8.out)) hS0 ?_
    simp only [Act.put,yq0,yq1,yq2]
    refine wpAnyP_one (i:=7) rfl (by kernel_rfl) rfl (by kernel_rfl) (fun K hK=>?_)
    go_simp
    refine(forward_any bo bb o S P A cs cp ca j (o.f j) (381*(j:Int)) _ (KSR.out.below (Below.refl _ wr).drew) HO.out hlt (HF.out j (by omega)) (by omega) (by omega)).mono ?_
    rintro e w4 ⟨rfl,hB4⟩
    have hBw:Below wr.heap.size wr w4:=(Below.refl _ wr).drew.trans hB4
    have HBw:=Lib.hid hBw
    have HMW:=Lib.hid (HMR.out.below hBw)
    have hfl:(o.fwd j (o.f j)).length=8:=(HF.out (j+1) (by omega)).len
    have HFS:=Lib.hid (show frows o (j+1+1)=frows o (j+1) ++ [o.fwd j (o.f j)] from frows_succ o (j+1))
    have HFL:=Lib.hid hfl
    clear hB4 hBw hS0 hix hfl
    refine hK _ _ ?_
    clear hK K
    refine wpAnyP_one (i:=8) rfl (by kernel_rfl) rfl (by kernel_rfl) (fun K hK=>?_)
    refine wpo_bs (.tmp 41) (o.fwd j (o.f j)) HFL.out rfl rfl ?_
    refine hK _ _ ?_
    clear hK K
    refine wpAnyP_one (i:=9) rfl (by kernel_rfl) rfl (by kernel_rfl) (fun K hK=>?_)
    refine wp_appM (bg:=bg) (cap:=cap) (base:=w3.heap.size) (ms:=frows o (j+1)) (.tmp 34) (.tmp 42) (o.fwd j (o.f j)) HFL.out rfl (by rw [frows_len];rfl) rfl HMW.out (by rw [frows_len];omega) (Nat.le_trans HBR.out.size HBw.out.size) ?_
    intro bg' cap' w5 hM5 hg5
    have HM5:=Lib.hid hM5
    have HB5:=Lib.hid (((HBR.out.trans (HBw.out.mono HBR.out.size)).grown hg5 (Nat.le_trans HBR.out.size HBw.out.size) (fun k hk=>by cases hk;exact HMR.out.ge):Below w3.heap.size w3 w5))
    clear hM5 hg5
    rw [frows_len]
    refine hK _ _ ?_
    clear hK K
    refine wpAnyP_one (i:=10) rfl (by kernel_rfl) rfl (by kernel_rfl) (fun K hK=>?_)
    go_simp
    refine hK _ _ ?_
    clear hK K
    refine wpAnyP_done (by kernel_rfl) ?_ _
    go_wp2
    go_roundw
    case rel=>exact⟨j+1,bg',cap',by omega,by go_num,rfl,by rw [HFS.out];exact HM5.out,HB5.out⟩
    case measure=>simp [intOf];omega
  · obtain rfl:j=o.s.length:=by omega
    have K1R:=Lib.hid (K1.out.below hB3)
    have K28R:=Lib.hid (K28.out.below hB3)
    have KSR:=Lib.hid (KS.out.below hB3)
    have HMR:=Lib.hid hM
    have HBR:=Lib.hid hB3
    clear hM hB3
    go_wp2_with fail
    refine(none_any _).mono ?_
    rintro e w6 ⟨rfl,hB6⟩
    have h66:Blk (w6.alloc (.cells #[.int .i64 0,.int .i64 0,.int .i64 0,.int .i64 0,.int .i64 0,.int .i64 0,.int .i64 0,.int .i64 0] 275)) w6.heap.size 275 (ints8 (List.replicate 8 0)):=Blk.new w6 (ints8 (List.replicate 8 0)) 275 rfl
    have HB6:=Lib.hid hB6
    clear hB6
    go_upto_region 12 with(refine strow rfl 275 (.tmp 11) (.tmp 45) rfl rfl rfl h66 rfl (i66 rfl) (ints8_one _) ?_;intro W7 h1 h2;have H66:=Lib.hid h1;have H67:=Lib.hid h2;clear h1 h2 h66)
    have K28S:=Lib.hid (((K28R.out.below HB6.out).alloc _).grown H67.out (by simp;have:=HB6.out.size;have:=K28R.out.lt;omega))
    go_cut [] from 48 to 54 (fun wx=>∃ (A1 A2 A3:Option Addr) (wc:World),Mk3 W7.drew wc o.a.length A1 A2 A3∧Blk wx w.heap.size 229 (dec3 A1 A2 A3 o.a.length)∧wc.grownBy wx (some w.heap.size))
    case first =>
     refine P_start (fun _=>True) 1 8 #[false,false,false,false,false,false,false,false] (by kernel_rfl) (by kernel_rfl) (by kernel_rfl) ?_
     refine P_w 0 48 (.int .i64 (o.a.length:Int)) #[true,false,false,false,false,false,false,false] rfl trivial ?_
     simp only [yq0,yq1,yq2]
     refine P_w 2 50 (.int .i64 (o.a.length:Int)) #[true,false,true,false,false,false,false,false] rfl trivial ?_
     simp only [yq0,yq1,yq2]
     refine P_w 4 52 (.int .i64 (o.a.length:Int)) #[true,false,true,false,true,false,false,false] rfl trivial ?_
     simp only [yq0,yq1,yq2]
     refine P_three 1 3 5 #[true,true,true,false,true,false,false,false] #[true,false,true,true,true,false,false,false] #[true,false,true,false,true,true,false,false] rfl rfl rfl (by kernel_rfl) (by kernel_rfl) (by kernel_rfl) (by kernel_rfl) rfl rfl rfl (fun _=>trivial) (fun K hK=>?_) (fun K hK=>?_) (fun K hK=>?_)
     · refine wp_mkd 49 (.tmp 48) (.tmp 48) 39 rfl rfl el22 rfl rfl (by omega) (by unfold maxLen;omega) ?_
       intro A1 x1 m1 c1 _
       refine hK _ _ ?_
       clear hK K
       simp only [yq0,yq1,yq2]
       refine P_two 3 5 #[true,true,true,true,true,false,false,false] #[true,true,true,false,true,true,false,false] rfl rfl (by kernel_rfl) (by kernel_rfl) (by kernel_rfl) rfl rfl (fun _=>trivial) (fun K hK=>?_) (fun K hK=>?_)
       · refine wp_mkd 51 (.tmp 50) (.tmp 50) 39 rfl rfl el22 rfl rfl (by omega) (by unfold maxLen;omega) ?_
         intro A2 x2 m2 c2 _
         refine hK _ _ ?_
         clear hK K
         simp only [yq0,yq1,yq2]
         refine P_one 5 #[true,true,true,true,true,true,false,false] rfl (by kernel_rfl) (by kernel_rfl) rfl (by kernel_rfl) (fun K hK=>?_)
         refine wp_mkd 53 (.tmp 52) (.tmp 52) 28 rfl rfl el26 rfl rfl (by omega) (by unfold maxLen;omega) ?_
         intro A3 x3 m3 c3 _
         refine hK _ _ ?_
         clear hK K
         simp only [yq0,yq1,yq2]
         obtain⟨p1,p2,p3,q1,q2,pb⟩:=chain3 HAL.out m1 c1 m2 c2 m3 c3
         have hmk:Mk3 W7.drew _ o.a.length A1 A2 A3:=⟨p1,p2,p3,by omega,by omega,by omega,pb⟩
         clear m1 m2 m3 c1 c2 c3 p1 p2 p3 q1 q2 pb
         have hBl:=(K28S.out.drew).below hmk.b
         refine P_one 6 #[true,true,true,true,true,true,true,false] rfl (by kernel_rfl) (by kernel_rfl) rfl (by kernel_rfl) (fun K hK=>?_)
         go_simp
         refine hK _ _ ?_
         clear hK K
         refine P_one 7 #[true,true,true,true,true,true,true,true] rfl (by kernel_rfl) (by kernel_rfl) rfl (by kernel_rfl) (fun K hK=>?_)
         refine wp_strow (cs:=dec3 A1 A2 A3 o.a.length) 229 (.tmp 6) (.tmp 54) rfl rfl rfl hBl rfl (by rw [info28];rfl) (dec3_one _ _ _ _) ?_
         intro Wx e1 e2
         refine hK _ _ ?_
         clear hK K
         refine P_done (by kernel_rfl) ?_ _
         go_wp2
         go_meet
         case rel=>exact⟨A1,A2,A3,_,hmk,e1,e2⟩
       · refine wp_mkd 53 (.tmp 52) (.tmp 52) 28 rfl rfl el26 rfl rfl (by omega) (by unfold maxLen;omega) ?_
         intro A3 x3 m3 c3 _
         refine hK _ _ ?_
         clear hK K
         simp only [yq0,yq1,yq2]
         refine P_one 3 #[true,true,true,true,true,true,false,false] rfl (by kernel_rfl) (by kernel_rfl) rfl (by kernel_rfl) (fun K hK=>?_)
         refine wp_mkd 51 (.tmp 50) (.tmp 50) 39 rfl rfl el22 rfl rfl (by omega) (by unfold maxLen;omega) ?_
         intro A2 x2 m2 c2 _
         refine hK _ _ ?_
         clear hK K
         simp only [yq0,yq1,yq2]
         obtain⟨p1,p3,p2,q1,q2,pb⟩:=chain3 HAL.out m1 c1 m3 c3 m2 c2
         have hmk:Mk3 W7.drew _ o.a.length A1 A2 A3:=⟨p1,p2,p3,by omega,by omega,by omega,pb⟩
         clear m1 m2 m3 c1 c2 c3 p1 p2 p3 q1 q2 pb
         have hBl:=(K28S.out.drew).below hmk.b
         refine P_one 6 #[true,true,true,true,true,true,true,false] rfl (by kernel_rfl) (by kernel_rfl) rfl (by kernel_rfl) (fun K hK=>?_)
         go_simp
         refine hK _ _ ?_
         clear hK K
         refine P_one 7 #[true,true,true,true,true,true,true,true] rfl (by kernel_rfl) (by kernel_rfl) rfl (by kernel_rfl) (fun K hK=>?_)
         refine wp_strow (cs:=dec3 A1 A2 A3 o.a.length) 229 (.tmp 6) (.tmp 54) rfl rfl rfl hBl rfl (by rw [info28];rfl) (dec3_one _ _ _ _) ?_
         intro Wx e1 e2
         refine hK _ _ ?_
         clear hK K
         refine P_done (by kernel_rfl) ?_ _
         go_wp2
         go_meet
         case rel=>exact⟨A1,A2,A3,_,hmk,e1,e2⟩
     · refine wp_mkd 51 (.tmp 50) (.tmp 50) 39 rfl rfl el22 rfl rfl (by omega) (by unfold maxLen;omega) ?_
       intro A2 x2 m2 c2 _
       refine hK _ _ ?_
       clear hK K
       simp only [yq0,yq1,yq2]
       refine P_two 1 5 #[true,true,true,true,true,false,false,false] #[true,false,true,true,true,true,false,false] rfl rfl (by kernel_rfl) (by kernel_rfl) (by kernel_rfl) rfl rfl (fun _=>trivial) (fun K hK=>?_) (fun K hK=>?_)
       · refine wp_mkd 49 (.tmp 48) (.tmp 48) 39 rfl rfl el22 rfl rfl (by omega) (by unfold maxLen;omega) ?_
         intro A1 x1 m1 c1 _
         refine hK _ _ ?_
         clear hK K
         simp only [yq0,yq1,yq2]
         refine P_one 5 #[true,true,true,true,true,true,false,false] rfl (by kernel_rfl) (by kernel_rfl) rfl (by kernel_rfl) (fun K hK=>?_)
         refine wp_mkd 53 (.tmp 52) (.tmp 52) 28 rfl rfl el26 rfl rfl (by omega) (by unfold maxLen;omega) ?_
         intro A3 x3 m3 c3 _
         refine hK _ _ ?_
         clear hK K
         simp only [yq0,yq1,yq2]
         obtain⟨p2,p1,p3,q1,q2,pb⟩:=chain3 HAL.out m2 c2 m1 c1 m3 c3
         have hmk:Mk3 W7.drew _ o.a.length A1 A2 A3:=⟨p1,p2,p3,by omega,by omega,by omega,pb⟩
         clear m1 m2 m3 c1 c2 c3 p1 p2 p3 q1 q2 pb
         have hBl:=(K28S.out.drew).below hmk.b
         refine P_one 6 #[true,true,true,true,true,true,true,false] rfl (by kernel_rfl) (by kernel_rfl) rfl (by kernel_rfl) (fun K hK=>?_)
         go_simp
         refine hK _ _ ?_
         clear hK K
         refine P_one 7 #[true,true,true,true,true,true,true,true] rfl (by kernel_rfl) (by kernel_rfl) rfl (by kernel_rfl) (fun K hK=>?_)
         refine wp_strow (cs:=dec3 A1 A2 A3 o.a.length) 229 (.tmp 6) (.tmp 54) rfl rfl rfl hBl rfl (by rw [info28];rfl) (dec3_one _ _ _ _) ?_
         intro Wx e1 e2
         refine hK _ _ ?_
         clear hK K
         refine P_done (by kernel_rfl) ?_ _
         go_wp2
         go_meet
         case rel=>exact⟨A1,A2,A3,_,hmk,e1,e2⟩
       · refine wp_mkd 53 (.tmp 52) (.tmp 52) 28 rfl rfl el26 rfl rfl (by omega) (by unfold maxLen;omega) ?_
         intro A3 x3 m3 c3 _
         refine hK _ _ ?_
         clear hK K
         simp only [yq0,yq1,yq2]
         refine P_one 1 #[true,true,true,true,true,true,false,false] rfl (by kernel_rfl) (by kernel_rfl) rfl (by kernel_rfl) (fun K hK=>?_)
         refine wp_mkd 49 (.tmp 48) (.tmp 48) 39 rfl rfl el22 rfl rfl (by omega) (by unfold maxLen;omega) ?_
         intro A1 x1 m1 c1 _
         refine hK _ _ ?_
         clear hK K
         simp only [yq0,yq1,yq2]
         obtain⟨p2,p3,p1,q1,q2,pb⟩:=chain3 HAL.out m2 c2 m3 c3 m1 c1
         have hmk:Mk3 W7.drew _ o.a.length A1 A2 A3:=⟨p1,p2,p3,by omega,by omega,by omega,pb⟩
         clear m1 m2 m3 c1 c2 c3 p1 p2 p3 q1 q2 pb
         have hBl:=(K28S.out.drew).below hmk.b
         refine P_one 6 #[true,true,true,true,true,true,true,false] rfl (by kernel_rfl) (by kernel_rfl) rfl (by kernel_rfl) (fun K hK=>?_)
         go_simp
         refine hK _ _ ?_
         clear hK K
         refine P_one 7 #[true,true,true,true,true,true,true,true] rfl (by kernel_rfl) (by kernel_rfl) rfl (by kernel_rfl) (fun K hK=>?_)
         refine wp_strow (cs:=dec3 A1 A2 A3 o.a.length) 229 (.tmp 6) (.tmp 54) rfl rfl rfl hBl rfl (by rw [info28];rfl) (dec3_one _ _ _ _) ?_
         intro Wx e1 e2
         refine hK _ _ ?_
         clear hK K
         refine P_done (by kernel_rfl) ?_ _
         go_wp2
         go_meet
         case rel=>exact⟨A1,A2,A3,_,hmk,e1,e2⟩
     · refine wp_mkd 53 (.tmp 52) (.tmp 52) 28 rfl rfl el26 rfl rfl (by omega) (by unfold maxLen;omega) ?_
       intro A3 x3 m3 c3 _
       refine hK _ _ ?_
       clear hK K
       simp only [yq0,yq1,yq2]
       refine P_two 1 3 #[true,true,true,false,true,true,false,false] #[true,false,true,true,true,true,false,false] rfl rfl (by kernel_rfl) (by kernel_rfl) (by kernel_rfl) rfl rfl (fun _=>trivial) (fun K hK=>?_) (fun K hK=>?_)
       · refine wp_mkd 49 (.tmp 48) (.tmp 48) 39 rfl rfl el22 rfl rfl (by omega) (by unfold maxLen;omega) ?_
         intro A1 x1 m1 c1 _
         refine hK _ _ ?_
         clear hK K
         simp only [yq0,yq1,yq2]
         refine P_one 3 #[true,true,true,true,true,true,false,false] rfl (by kernel_rfl) (by kernel_rfl) rfl (by kernel_rfl) (fun K hK=>?_)
         refine wp_mkd 51 (.tmp 50) (.tmp 50) 39 rfl rfl el22 rfl rfl (by omega) (by unfold maxLen;omega) ?_
         intro A2 x2 m2 c2 _
         refine hK _ _ ?_
         clear hK K
         simp only [yq0,yq1,yq2]
         obtain⟨p3,p1,p2,q1,q2,pb⟩:=chain3 HAL.out m3 c3 m1 c1 m2 c2
         have hmk:Mk3 W7.drew _ o.a.length A1 A2 A3:=⟨p1,p2,p3,by omega,by omega,by omega,pb⟩
         clear m1 m2 m3 c1 c2 c3 p1 p2 p3 q1 q2 pb
         have hBl:=(K28S.out.drew).below hmk.b
         refine P_one 6 #[true,true,true,true,true,true,true,false] rfl (by kernel_rfl) (by kernel_rfl) rfl (by kernel_rfl) (fun K hK=>?_)
         go_simp
         refine hK _ _ ?_
         clear hK K
         refine P_one 7 #[true,true,true,true,true,true,true,true] rfl (by kernel_rfl) (by kernel_rfl) rfl (by kernel_rfl) (fun K hK=>?_)
         refine wp_strow (cs:=dec3 A1 A2 A3 o.a.length) 229 (.tmp 6) (.tmp 54) rfl rfl rfl hBl rfl (by rw [info28];rfl) (dec3_one _ _ _ _) ?_
         intro Wx e1 e2
         refine hK _ _ ?_
         clear hK K
         refine P_done (by kernel_rfl) ?_ _
         go_wp2
         go_meet
         case rel=>exact⟨A1,A2,A3,_,hmk,e1,e2⟩
       · refine wp_mkd 51 (.tmp 50) (.tmp 50) 39 rfl rfl el22 rfl rfl (by omega) (by unfold maxLen;omega) ?_
         intro A2 x2 m2 c2 _
         refine hK _ _ ?_
         clear hK K
         simp only [yq0,yq1,yq2]
         refine P_one 1 #[true,true,true,true,true,true,false,false] rfl (by kernel_rfl) (by kernel_rfl) rfl (by kernel_rfl) (fun K hK=>?_)
         refine wp_mkd 49 (.tmp 48) (.tmp 48) 39 rfl rfl el22 rfl rfl (by omega) (by unfold maxLen;omega) ?_
         intro A1 x1 m1 c1 _
         refine hK _ _ ?_
         clear hK K
         simp only [yq0,yq1,yq2]
         obtain⟨p3,p2,p1,q1,q2,pb⟩:=chain3 HAL.out m3 c3 m2 c2 m1 c1
         have hmk:Mk3 W7.drew _ o.a.length A1 A2 A3:=⟨p1,p2,p3,by omega,by omega,by omega,pb⟩
         clear m1 m2 m3 c1 c2 c3 p1 p2 p3 q1 q2 pb
         have hBl:=(K28S.out.drew).below hmk.b
         refine P_one 6 #[true,true,true,true,true,true,true,false] rfl (by kernel_rfl) (by kernel_rfl) rfl (by kernel_rfl) (fun K hK=>?_)
         go_simp
         refine hK _ _ ?_
         clear hK K
         refine P_one 7 #[true,true,true,true,true,true,true,true] rfl (by kernel_rfl) (by kernel_rfl) rfl (by kernel_rfl) (fun K hK=>?_)
         refine wp_strow (cs:=dec3 A1 A2 A3 o.a.length) 229 (.tmp 6) (.tmp 54) rfl rfl rfl hBl rfl (by rw [info28];rfl) (dec3_one _ _ _ _) ?_
         intro Wx e1 e2
         refine hK _ _ ?_
         clear hK K
         refine P_done (by kernel_rfl) ?_ _
         go_wp2
         go_meet
         case rel=>exact⟨A1,A2,A3,_,hmk,e1,e2⟩
    case rest =>
     obtain⟨A1,A2,A3,wm,hmk,hdc,hgm⟩:=hcut
     have z1:=HB1.out.size
     have z3:=HB3.out.size
     have z4:=H1.out.lt
     have zr:=HBR.out.size
     have z6:=HB6.out.size
     have z7:=H67.out.size
     have zm:W7.heap.size≤wm.heap.size:=hmk.b.size
     have zg:=hgm.size
     simp at z1 z7
     have hls:o.a.length≤o.s.length:=by have:=HL.out;omega
     have g1:W7.heap.size≤blk A1:=(hmk.o1.blk_ge HAL.out).1
     have g2:W7.heap.size≤blk A2:=(hmk.o2.blk_ge HAL.out).1
     have g3:W7.heap.size≤blk A3:=(hmk.o3.blk_ge HAL.out).1
     have gS:=Rdv.blk_lt HIN.out.s (by have:=HL.out;omega)
     have gP:=Rdv.blk_lt HIN.out.p (by have:=HO.out.2.2.2.1;omega)
     have gA:=Rdv.blk_lt HIN.out.a HAL.out
     have zo:=HSW.out.o.blk.lt
     have zb:=HSW.out.b.lt
     have eo:bo≠w.heap.size:=Blk.ne KSR.out.o.blk K28R.out (by decide)
     have eb:bb≠w.heap.size:=Blk.ne KSR.out.b K28R.out (by decide)
     have hs:L2S o S P A bo bb w.heap.size w1.heap.size w3.heap.size w6.heap.size bg W7.heap.size A1 A2 A3 :=
      ⟨gS,gP,gA,by omega,zo,zb,by omega,⟨HMR.out.ge,by have:=HMR.out.lt;omega⟩,by omega,g1,g2,g3,hmk.n12,hmk.n13,hmk.n23⟩
     have s7:SwAt W7 bo bb o S P A cs cp ca:=hs.sw ((KSR.out.below HB6.out).alloc _) H67.out (by omega)
     have sm:SwAt wm bo bb o S P A cs cp ca:=s7.below ((Below.refl _ W7).drew.trans hmk.b)
     have sc:SwAt wc bo bb o S P A cs cp ca:=sm.grownX hgm eo eb (fun h=>by have:=gS h;omega) (fun h=>by have:=gP h;omega) (fun h=>by have:=gA h;omega)
     have b7:Below w.heap.size w W7:=((((((((Below.refl _ w).alloc (Nat.le_refl _) _).trans (HB1.out.mono (by simp))).trans (HQ0.out.mono (by omega))).trans (HB3.out.mono (by omega))).trans (HBR.out.mono (by omega))).trans (HB6.out.mono (by omega))).alloc (by omega) _).grown H67.out (by simp;omega) (fun k hk=>by cases hk;omega)
     have bc:Below w.heap.size w wc:=(b7.trans (((Below.refl _ W7).drew.trans hmk.b).mono (by show _≤W7.heap.size;omega))).grown hgm (by omega) (fun k hk=>by cases hk;omega)
     have k7:Blk W7 w1.heap.size 271 (swC bo bb):=((K1R.out.below HB6.out).alloc _).grown H67.out (by omega)
     have kc:Blk wc w1.heap.size 271 (swC bo bb):=(k7.drew.below hmk.b).grown hgm (by omega)
     have m7:Mx W7 w3.heap.size bg cap (frows o (o.s.length+1)):=((HMR.out.below HB6.out).alloc _).grown H67.out (by have:=HMR.out.lt;simp;omega)
     have mm:Mx wm w3.heap.size bg cap (frows o (o.s.length+1)):=m7.below ((Below.refl _ W7).drew.trans hmk.b)
     have mc:Mx wc w3.heap.size bg cap (frows o (o.s.length+1)):=mm.grown hgm (by have:=HMR.out.ge;simp;omega)
     have ac:Blk wc w6.heap.size 275 (ints8 (o.b o.s.length)):=by
      rw [show o.b o.s.length=none0 from by unfold Ob.b;rw [Nat.sub_self];rfl]
      exact(H66.out.drew.below hmk.b).grown hgm (by omega)
     have o1:Own .i64 3 wc W7.heap.size A1 o.a.length o.a.length (fillL o.tN o.a.length o.s.length):=by
      rw [fill_end _ _ _ (by omega)];exact(Own.of_eq hmk.o1 rfl (by simp)).grown hgm (fun _=>by simp;omega)
     have o2:Own .i64 3 wc W7.heap.size A2 o.a.length o.a.length (fillL o.eN o.a.length o.s.length):=by
      rw [fill_end _ _ _ (by omega)];exact(Own.of_eq hmk.o2 rfl (by simp)).grown hgm (fun _=>by simp;omega)
     have o3:Own .u8 5 wc W7.heap.size A3 o.a.length o.a.length (fillL o.bN o.a.length o.s.length):=by
      rw [fill_end _ _ _ (by omega)];exact(Own.of_eq hmk.o3 rfl (by simp)).grown hgm (fun _=>by simp;omega)
     have q0:=kc.cell (j:=0) (v:=.pointer (some ⟨bo,0,none⟩)) rfl
     have HL2:=Lib.hid (show L2 o S P A cs cp ca bo bb w.heap.size w1.heap.size w3.heap.size w6.heap.size bg cap W7.heap.size A1 A2 A3 w wc (o.b o.s.length) (fillL o.tN o.a.length o.s.length) (fillL o.eN o.a.length o.s.length) (fillL o.bN o.a.length o.s.length) from⟨sc,kc,mc,hdc,ac,o1,o2,o3,bc⟩)
     have HSS:=Lib.hid hs
     have HSC:=Lib.hid sc
     clear z1 z3 z4 zr z6 z7 zm zg g1 g2 g3 gS gP gA zo zb eo eb hs s7 sm sc b7 bc k7 kc m7 mm mc ac o1 o2 o3 hdc hgm hmk
     have hlen:3<o.s.length:=by have:=HL.out;have:=HAL.out;omega
     go_wp2_with fail
     refine(HST.out _ HSC.out).mono ?_
     rintro e w8 ⟨rfl,rfl⟩
     clear q0
     go_wp2_with fail
     go_loopw [13] (fun v wr=>L2R o S P A cs cp ca bo bb w.heap.size w1.heap.size w3.heap.size w6.heap.size bg cap W7.heap.size A1 A2 A3 w v wr) (fun v _=>(intOf v+1).toNat)
     case atStart=>exact⟨o.s.length,Nat.le_refl _,rfl,HL2.out⟩
     case round =>
      obtain⟨j,hj,rfl,hL⟩:=hrel
      rcases Nat.eq_zero_or_pos j with rfl | hpos
      · have hb:=hL.dc
        have HLD:=Lib.hid hL
        clear hL
        rw [show (((0:Nat):Int) - 1) = -1 from rfl]
        go_wp2_with (first
         | (refine ldrow (cs:=dec3 A1 A2 A3 o.a.length) rfl 229 (.tmp 6) rfl rfl hb _ Tryz.underlying229 rfl (by rw [info28];rfl) ?_)
         | (refine strow (cs:=dec3 A1 A2 A3 o.a.length) rfl 229 (.tmp 6) (.tmp 108) rfl rfl rfl hb rfl (by rw [info28];rfl) (dec3_one _ _ _ _) ?_;intro W9 h1 h2;have H91:=Lib.hid h1;have H92:=Lib.hid h2;clear h1 h2 hb))
        have hl:=HLD.out
        have a1:=HSS.out.h1
        have a2:=HSS.out.h2
        have a3:=HSS.out.h3
        have a7:=HSS.out.h67
        have a13:=HSS.out.h13
        have a01:=HSS.out.h01
        have ag:=HSS.out.hg
        refine bodyPost_ret (results12 H91.out rfl rfl rfl) rfl ⟨A1,A2,A3,rfl,?_,?_,?_,HSS.out.n12,HSS.out.n13,HSS.out.n23,hl.bl.grown H92.out (by have:=hl.dc.lt;omega) (fun k hk=>by cases hk;exact Nat.le_refl _)⟩
        · rw [← fill_all];exact(Ownv.grown hl.o1 H92.out (fun _=>by simp;omega)).mono (by omega)
        · rw [← fill_all];exact(Ownv.grown hl.o2 H92.out (fun _=>by simp;omega)).mono (by omega)
        · rw [← fill_all];exact(Ownv.grown hl.o3 H92.out (fun _=>by simp;omega)).mono (by omega)
      · obtain⟨i,rfl⟩:∃ i,j=i+1:=⟨j - 1,by omega⟩
        rw [show (((i+1:Nat):Int) - 1)=(i:Int) from by omega]
        have HBM:=Lib.hid (bd_met HO.out (o.s.length - (i+1)) (by omega))
        have HBI:=Lib.hid (show o.b i=o.bwd i (o.b (i+1)) from by
         unfold Ob.b
         rw [show o.s.length - i=(o.s.length - (i+1))+1 from by omega]
         show o.bwd (o.s.length - 1 - (o.s.length - (i+1))) _=_
         rw [show o.s.length - 1 - (o.s.length - (i+1))=i from by omega])
        have HBK:Hid (∀ W (h:SwAt W bo bb o S P A cs cp ca),Calls Tryz.prog 222 #[swV bo bb,.int .i64 (i:Int),.agg (ints8 (o.b (i+1))).toArray] W fun e w'=>e= .returned (.agg (ints8 (o.b i)).toArray)∧Below W.heap.size W w'):=Lib.hid (by
         rw [HBI.out]
         exact fun W h=>backward_any bo bb o S P A cs cp ca i (o.b (i+1)) (381*((o.s.length - (i+1):Nat):Int)) W h HO.out (by omega) HBM.out (by omega) (by omega))
        have HML:Hid ((o.b (i+1)).length=8):=Lib.hid HBM.out.len
        have HML2:Hid ((o.b i).length=8):=Lib.hid (bd_met HO.out (o.s.length - i) (by omega)).len
        by_cases hk:i<o.a.length
        · have hix:=fun W=>ix68 bg (o.s.length+1) cap (j:=i) (by omega) .i64 W
          have hS0:(fun W=>Blk W w1.heap.size 271 (swC bo bb)∧W.rangeAt bg (8*i) (ints8 (o.f i))∧Blk W w6.heap.size 275 (ints8 (o.b (i+1)))) wr.drew:=⟨hL.k1.drew,hL.mx.row (frows_get o (by omega)),hL.af.drew⟩
          have HLD:=Lib.hid hL
          have HFM:=Lib.hid (HF.out i (by omega))
          have HFL:=Lib.hid (HF.out i (by omega)).len
          have HTO:Hid (∀ W (h:SwAt W bo bb o S P A cs cp ca),Calls Tryz.prog 221 #[swV bo bb,.int .i64 (i:Int),.agg (ints8 (o.f i)).toArray,.agg (ints8 (o.b (i+1))).toArray] W fun e w'=>e= .returned (.int .i64 (o.tN i))∧Below W.heap.size W w'):=Lib.hid
           (fun W h=>total_any bo bb o S P A cs cp ca i (o.f i) (o.b (i+1)) (381*(o.s.length:Int)) W h HO.out (by omega) (HFM.out.mono (by omega)) (HBM.out.mono (by omega)) (by omega) (by omega))
          have htb:=tN_bd HO.out i (by omega)
          have hsb:-127≤gi o.s i∧gi o.s i≤127:=HO.out.2.2.2.2.1 _ (gi_mem o.s i (by omega))
          have hab:-127≤gi o.a i∧gi o.a i≤127:=HO.out.2.2.2.2.2.2 _ (gi_mem o.a i hk)
          have HS1:=Lib.hid (fill_set o.tN o.a.length i hk)
          have HS2:Hid ((fillL o.eN o.a.length (i+1)).set i (ext (o.tN i - gi o.s i - gi o.a i))=fillL o.eN o.a.length i):=Lib.hid (fill_set o.eN o.a.length i hk)
          have HS3:Hid (o.tN i<0→(fillL o.bN o.a.length (i+1)).set i 1=fillL o.bN o.a.length i):=Lib.hid (fun h=>by rw [← fill_set o.bN o.a.length i hk,bN_t h])
          have HS4:Hid (¬ o.tN i<0→fillL o.bN o.a.length (i+1)=fillL o.bN o.a.length i):=Lib.hid (fun h=>fill_same o.bN o.a.length i (bN_f h))
          generalize o.tN i=tv at *
          clear hL
          go_wp2_with fail
          refine P_start (fun W=>Blk W w1.heap.size 271 (swC bo bb)∧W.rangeAt bg (8*i) (ints8 (o.f i))∧Blk W w6.heap.size 275 (ints8 (o.b (i+1)))) 7 9 #[false,false,false,false,false,false,false,false,false] (by kernel_rfl) (by kernel_rfl) (by kernel_rfl) ?_
          refine P_k 0 66 (swV bo bb) #[true,false,false,false,false,false,false,false,false] rfl (yieldsIf_load_mid rfl 271 (.tmp 8) rfl w1.heap.size (0) rfl (swC bo bb) _ (fun W hS=>fun q v hv=>hS.1.cell (by rw [Nat.zero_add];exact hv)) Tryz.underlying271 rfl (by rw [info62];rfl)) hS0 ?_
          simp only [yq0,yq1,yq2]
          refine P_w 1 67 (.int .i64 (i:Int)) #[true,true,false,false,false,false,false,false,false] rfl hS0 ?_
          simp only [yq0,yq1,yq2]
          refine P_w 2 68 (.slice (some ⟨bg,0,none⟩) (o.s.length+1) cap) #[true,true,true,false,false,false,false,false,false] rfl hS0 ?_
          simp only [yq0,yq1,yq2]
          refine P_w 3 69 (.int .i64 (i:Int)) #[true,true,true,true,false,false,false,false,false] rfl hS0 ?_
          simp only [yq0,yq1,yq2]
          refine P_w 4 70 (.pointer (some ⟨bg,8*i,none⟩)) #[true,true,true,true,true,false,false,false,false] rfl hS0 ?_
          simp only [yq0,yq1,yq2]
          refine P_k 5 71 (.agg (ints8 (o.f i)).toArray) #[true,true,true,true,true,true,false,false,false] rfl (yieldsIf_load_mid rfl 275 (.tmp 70) rfl bg (8*i) rfl (ints8 (o.f i)) _ (fun W hS=>hS.2.1) Tryz.underlying275 rfl (i66 HFL.out)) hS0 ?_
          simp only [yq0,yq1,yq2]
          refine P_k 6 72 (.agg (ints8 (o.b (i+1))).toArray) #[true,true,true,true,true,true,true,false,false] rfl (yieldsIf_load_mid rfl 275 (.tmp 11) rfl w6.heap.size (0) rfl (ints8 (o.b (i+1))) _ (fun W hS=>fun q v hv=>hS.2.2.cell (by rw [Nat.zero_add];exact hv)) Tryz.underlying275 rfl (i66 HML.out)) hS0 ?_
          simp only [yq0,yq1,yq2]
          refine P_one 7 #[true,true,true,true,true,true,true,true,false] rfl (by kernel_rfl) (by kernel_rfl) rfl (by kernel_rfl) (fun K hK=>?_)
          go_simp
          refine(HTO.out _ (HLD.out.sw.below (Below.refl _ wr).drew)).mono ?_
          rintro e w9 ⟨rfl,hB9⟩
          have HLE:=Lib.hid (HLD.out.call ((Below.refl _ wr).drew.trans hB9))
          clear hB9 hS0 hix
          refine hK _ _ ?_
          clear hK K
          refine P_one 8 #[true,true,true,true,true,true,true,true,true] rfl (by kernel_rfl) (by kernel_rfl) rfl (by kernel_rfl) (fun K hK=>?_)
          go_simp
          refine hK _ _ ?_
          clear hK K
          refine P_done (by kernel_rfl) ?_ _
          have d0:=HLE.out.dc.cell (j:=0) (v:=.slice A1 o.a.length o.a.length) rfl
          have hix1:=fun W=>Rdv.ix HLE.out.o1.rd el22 hk .i64 W
          have c1:=Rd.cell HLE.out.o1.rd hk
          have f1:=Ownv.frozen HLE.out.o1 HAL.out i
          have HLF:=Lib.hid ((HLE.out.set1 HSS.out hk tv).call (Below.refl _ _).drew)
          go_wp2_with fail
          clear d0 hix1 c1 f1
          refine P_start (fun W=>W.cell? ⟨w.heap.size,1,none⟩=some (.slice A2 o.a.length o.a.length)∧W.cell? (adr S i)=some (.int .i64 (gi o.s i))∧W.cell? (adr A i)=some (.int .i64 (gi o.a i))) 19 20 #[false,false,false,false,false,false,false,false,false,false,false,false,false,false,false,false,false,false,false,false] (by kernel_rfl) (by kernel_rfl) (by kernel_rfl) ?_
          generalize (w9.setCell (adr A1 i) (.int .i64 tv)).drew=w11 at *
          have hS1:(fun W=>W.cell? ⟨w.heap.size,1,none⟩=some (.slice A2 o.a.length o.a.length)∧W.cell? (adr S i)=some (.int .i64 (gi o.s i))∧W.cell? (adr A i)=some (.int .i64 (gi o.a i))) w11:=⟨HLF.out.dc.cell rfl,Rd.cell HLF.out.sw.o.s (by omega),Rd.cell HLF.out.sw.o.a hk⟩
          have hixS:=fun W=>Rdv.ix HLF.out.sw.o.s el22 (j:=i) (by omega) .i64 W
          have hixA:=fun W=>Rdv.ix HLF.out.sw.o.a el22 hk .i64 W
          have hix2:=fun W=>Rdv.ix HLF.out.o2.rd el22 hk .i64 W
          have c2:=Rd.cell HLF.out.o2.rd hk
          have f2:=Ownv.frozen HLF.out.o2 HAL.out i
          have HLG:=Lib.hid (HLF.out.set2 HSS.out hk (ext (tv - gi o.s i - gi o.a i)))
          generalize gi o.s i=sv at *
          generalize gi o.a i=av at *
          have hq:=tdiv_bd (3*(tv - sv - av)) 4 (by omega) 9000000000000000 (by omega)
          have v1:IntKind.i64.wrap (tv - sv)=tv - sv:=IntWalk.i64_in _ (by omega)
          have v2:IntKind.i64.wrap (tv - sv - av)=tv - sv - av:=IntWalk.i64_in _ (by omega)
          have v3:IntKind.i64.wrap (3*(tv - sv - av))=3*(tv - sv - av):=IntWalk.i64_in _ (by omega)
          have v4:IntKind.i64.wrap ((3*(tv - sv - av)).tdiv 4)=(3*(tv - sv - av)).tdiv 4:=IntWalk.i64_in _ (by omega)
          refine P_w 0 79 (.pointer (some ⟨w.heap.size,1,none⟩)) #[true,false,false,false,false,false,false,false,false,false,false,false,false,false,false,false,false,false,false,false] rfl hS1 ?_
          simp only [yq0,yq1,yq2]
          refine P_k 1 80 (.slice A2 o.a.length o.a.length) #[true,true,false,false,false,false,false,false,false,false,false,false,false,false,false,false,false,false,false,false] rfl (Or.inl ⟨by rfl,fun W hS=>by obtain⟨s0,s1,s2⟩:=hS;go_simp⟩) hS1 ?_
          simp only [yq0,yq1,yq2]
          refine P_w 2 81 (.int .i64 (i:Int)) #[true,true,true,false,false,false,false,false,false,false,false,false,false,false,false,false,false,false,false,false] rfl hS1 ?_
          simp only [yq0,yq1,yq2]
          refine P_w 3 82 (.int .i64 tv) #[true,true,true,true,false,false,false,false,false,false,false,false,false,false,false,false,false,false,false,false] rfl hS1 ?_
          simp only [yq0,yq1,yq2]
          refine P_w 4 83 (.slice S o.s.length cs) #[true,true,true,true,true,false,false,false,false,false,false,false,false,false,false,false,false,false,false,false] rfl hS1 ?_
          simp only [yq0,yq1,yq2]
          refine P_w 5 84 (.int .i64 (i:Int)) #[true,true,true,true,true,true,false,false,false,false,false,false,false,false,false,false,false,false,false,false] rfl hS1 ?_
          simp only [yq0,yq1,yq2]
          refine P_w 6 85 (.pointer (some (adr S i))) #[true,true,true,true,true,true,true,false,false,false,false,false,false,false,false,false,false,false,false,false] rfl hS1 ?_
          simp only [yq0,yq1,yq2]
          refine P_k 7 86 (.int .i64 sv) #[true,true,true,true,true,true,true,true,false,false,false,false,false,false,false,false,false,false,false,false] rfl (Or.inl ⟨by rfl,fun W hS=>by obtain⟨s0,s1,s2⟩:=hS;go_simp⟩) hS1 ?_
          simp only [yq0,yq1,yq2]
          refine P_w 8 87 (.int .i64 (tv - sv)) #[true,true,true,true,true,true,true,true,true,false,false,false,false,false,false,false,false,false,false,false] rfl hS1 ?_
          simp only [yq0,yq1,yq2]
          refine P_w 9 88 (.slice A o.a.length ca) #[true,true,true,true,true,true,true,true,true,true,false,false,false,false,false,false,false,false,false,false] rfl hS1 ?_
          simp only [yq0,yq1,yq2]
          refine P_w 10 89 (.int .i64 (i:Int)) #[true,true,true,true,true,true,true,true,true,true,true,false,false,false,false,false,false,false,false,false] rfl hS1 ?_
          simp only [yq0,yq1,yq2]
          refine P_w 11 90 (.pointer (some (adr A i))) #[true,true,true,true,true,true,true,true,true,true,true,true,false,false,false,false,false,false,false,false] rfl hS1 ?_
          simp only [yq0,yq1,yq2]
          refine P_k 12 91 (.int .i64 av) #[true,true,true,true,true,true,true,true,true,true,true,true,true,false,false,false,false,false,false,false] rfl (Or.inl ⟨by rfl,fun W hS=>by obtain⟨s0,s1,s2⟩:=hS;go_simp⟩) hS1 ?_
          simp only [yq0,yq1,yq2]
          refine P_w 13 92 (.int .i64 (tv - sv - av)) #[true,true,true,true,true,true,true,true,true,true,true,true,true,true,false,false,false,false,false,false] rfl hS1 ?_
          simp only [yq0,yq1,yq2]
          refine P_w 14 93 (.int .i64 (3*(tv - sv - av))) #[true,true,true,true,true,true,true,true,true,true,true,true,true,true,true,false,false,false,false,false] rfl hS1 ?_
          simp only [yq0,yq1,yq2]
          refine P_w 15 94 (.int .i64 ((3*(tv - sv - av)).tdiv 4)) #[true,true,true,true,true,true,true,true,true,true,true,true,true,true,true,true,false,false,false,false] rfl hS1 ?_
          simp only [yq0,yq1,yq2]
          refine P_oneS 16 #[true,true,true,true,true,true,true,true,true,true,true,true,true,true,true,true,true,false,false,false] rfl (by kernel_rfl) (by kernel_rfl) rfl (fun K hK=>?_)
          go_simp
          rw [max_if]
          refine hK _ _ hS1 ?_
          clear hK K
          refine P_oneS 17 #[true,true,true,true,true,true,true,true,true,true,true,true,true,true,true,true,true,true,false,false] rfl (by kernel_rfl) (by kernel_rfl) rfl (fun K hK=>?_)
          go_simp
          rw [min_if]
          refine hK _ _ hS1 ?_
          clear hK K
          refine P_w 18 97 (.pointer (some (adr A2 i))) #[true,true,true,true,true,true,true,true,true,true,true,true,true,true,true,true,true,true,true,false] rfl hS1 ?_
          simp only [yq0,yq1,yq2]
          clear v1 v2 v3 v4 hixS hixA hix2
          refine P_one 19 #[true,true,true,true,true,true,true,true,true,true,true,true,true,true,true,true,true,true,true,true] rfl (by kernel_rfl) (by kernel_rfl) rfl (by kernel_rfl) (fun K hK=>?_)
          go_simp
          refine hK _ _ ?_
          clear hK K
          refine P_done (by kernel_rfl) ?_ _
          rw [show min (max ((3*(tv - sv - av)).tdiv 4) (-127)) 127=ext (tv - sv - av) from rfl]
          clear c2 f2 hS1 hq
          generalize w11.setCell (adr A2 i) (.int .i64 (ext (tv - sv - av)))=w12 at *
          by_cases htv:tv<0
          · have d2:=HLG.out.dc.cell (j:=2) (v:=.slice A3 o.a.length o.a.length) rfl
            have hix3:=fun W=>Rdv.ix HLG.out.o3.rd el26 hk .i64 W
            have c3:=Rd.cell HLG.out.o3.rd hk
            have f3:=Ownv.frozen HLG.out.o3 HAL.out i
            have HLH:=Lib.hid (HLG.out.set3 HSS.out hk 1)
            have hb8:=HLH.out.af
            have k8:=HLH.out.k1
            go_wp2_with (first
             | (refine ldrow (cs:=swC bo bb) rfl 271 (.tmp 8) rfl rfl k8 _ Tryz.underlying271 rfl (by rw [info62];rfl) ?_)
             | (refine ldrow rfl 275 (.tmp 11) rfl rfl hb8 _ Tryz.underlying275 rfl (i66 HML.out) ?_))
            refine(HBK.out _ HLH.out.sw).mono ?_
            rintro e w19 ⟨rfl,hB9⟩
            have HLJ:=Lib.hid (HLH.out.call hB9)
            clear hB9 hb8 k8
            have hb8:=HLJ.out.af
            go_wp2_with (refine strow rfl 275 (.tmp 11) (.tmp 107) rfl rfl rfl hb8 (by simp [ints8,HML.out,HML2.out]) (i66 HML2.out) (ints8_one _) ?_;intro W9 h1 h2;have H91:=Lib.hid h1;have H92:=Lib.hid h2;clear h1 h2 hb8)
            go_roundw
            case rel=>exact⟨i,by omega,rfl,by rw [← HS1.out,← HS2.out,← HS3.out htv];exact HLJ.out.setm HSS.out H91.out H92.out⟩
            case measure=>simp [intOf]
          · have hb8:=HLG.out.af
            have k8:=HLG.out.k1
            go_wp2_with (first
             | (refine ldrow (cs:=swC bo bb) rfl 271 (.tmp 8) rfl rfl k8 _ Tryz.underlying271 rfl (by rw [info62];rfl) ?_)
             | (refine ldrow rfl 275 (.tmp 11) rfl rfl hb8 _ Tryz.underlying275 rfl (i66 HML.out) ?_))
            refine(HBK.out _ HLG.out.sw).mono ?_
            rintro e w19 ⟨rfl,hB9⟩
            have HLJ:=Lib.hid (HLG.out.call hB9)
            clear hB9 hb8 k8
            have hb8:=HLJ.out.af
            go_wp2_with (refine strow rfl 275 (.tmp 11) (.tmp 107) rfl rfl rfl hb8 (by simp [ints8,HML.out,HML2.out]) (i66 HML2.out) (ints8_one _) ?_;intro W9 h1 h2;have H91:=Lib.hid h1;have H92:=Lib.hid h2;clear h1 h2 hb8)
            go_roundw
            case rel=>exact⟨i,by omega,rfl,by rw [← HS1.out,← HS2.out,← HS4.out htv];exact HLJ.out.setm HSS.out H91.out H92.out⟩
            case measure=>simp [intOf]
        · have hb8:=hL.af
          have k8:=hL.k1
          have HLD:=Lib.hid hL
          have HF1:=Lib.hid (fill_past o.tN o.a.length i (by omega))
          have HF2:=Lib.hid (fill_past o.eN o.a.length i (by omega))
          have HF3:=Lib.hid (fill_past o.bN o.a.length i (by omega))
          clear hL
          go_wp2_with (first
           | (refine ldrow (cs:=swC bo bb) rfl 271 (.tmp 8) rfl rfl k8 _ Tryz.underlying271 rfl (by rw [info62];rfl) ?_)
           | (refine ldrow rfl 275 (.tmp 11) rfl rfl hb8 _ Tryz.underlying275 rfl (i66 HML.out) ?_))
          refine(HBK.out _ HLD.out.sw).mono ?_
          rintro e w9 ⟨rfl,hB9⟩
          have HLE:=Lib.hid (HLD.out.call hB9)
          clear hB9 hb8 k8
          have hb8:=HLE.out.af
          go_wp2_with (refine strow rfl 275 (.tmp 11) (.tmp 107) rfl rfl rfl hb8 (by simp [ints8,HML.out,HML2.out]) (i66 HML2.out) (ints8_one _) ?_;intro W9 h1 h2;have H91:=Lib.hid h1;have H92:=Lib.hid h2;clear h1 h2 hb8)
          go_roundw
          case rel=>exact⟨i,by omega,rfl,by rw [← HF1.out,← HF2.out,← HF3.out];exact HLE.out.setm HSS.out H91.out H92.out⟩
          case measure=>simp [intOf]
    end Go.Proofs.YtkdfefpnhaebfaaGreat
namespace Go.Proofs.YtkdfefpnhaebfaaGreat
open Go.RowKit
section
variable {P : Program} {W W' : World} {base cap e sz : Nat} {A : Option Addr} {rs : List (List Value)}
end
end Go.Proofs.YtkdfefpnhaebfaaGreat
