/- Bundle. Conditions: none. -/
import Derived.Test.YtkdfefpnhaebfaaGreatBwobg
import Derived.Test.YtkdfefpnhaebfaaGreatBwoar
set_option linter.unusedVariables false
set_option linter.unusedSimpArgs false
namespace Go.Proofs.YtkdfefpnhaebfaaGreat
open Go.RowKit
attribute [local go_sem] Oper.semAt_some
set_option maxRecDepth 100000
set_option maxHeartbeats 2000000
theorem cloneI_any(A:Option Addr)(n c:Nat)(xs:List Int)(w:World)(h:Rd .i64 w A n c xs)(hn:n≤1000000) :
 Calls Tryz.prog 67 #[.slice A n c] w fun e w'=>∃ A' c',e= .returned (.slice A' n c')∧Own .i64 3 w' w.heap.size A' n c' xs∧Below w.heap.size w w':=by
 have e1:=fun W=>Lib.run_eql_slice_nil (P:=Tryz.prog) W 39 3 A n c 0 0 el22.u
 cases A with
 | none =>
   have hc:=h.nil rfl
   have hnc:=h.le
   obtain rfl:n=0:=by omega
   subst hc
   obtain rfl:xs=[]:=List.eq_nil_of_length_eq_zero h.len
   go_enter Tryz.func67,Tryz.ntmps67
   go_wp2
   go_ret
   exact⟨none,0,rfl,Own.nilv .i64 3 w _,Below.refl _ _⟩
 | some ad =>
   have h1:=Rdv.alloc h (.cells #[] 3)
   have hO0:Ownv 3 (w.alloc (.cells #[] 3)) w.heap.size (some ⟨w.heap.size,0,none⟩) 0 0 []:=Ownv.lit w #[] 3 rfl (Nat.le_refl _) (Nat.zero_le _)
   go_enter Tryz.func67,Tryz.ntmps67
   go_wp2_with (at_builtin;refine list_of rfl fun K hK=>wp_app _ _ 39 rfl el22 rfl rfl hO0 h1 (oneCell_ints .i64 xs) (by omega) (by unfold maxLen;omega) (by simp) ?_;intro A' c' w' hO hg;refine hK _ _ ?_;clear hK K)
   go_ret
   exact⟨A',c',ret_sl rfl rfl rfl,Own.of_eq hO (Nat.zero_add n) (List.nil_append _),(Below.refl _ _).grown (grownBy_of_alloc hg) (Nat.le_refl _) (by simp [Value.ownBlock])⟩
theorem own_ne_top{k:IntKind}{e:TypeId}{w:World}{base:Nat}{A:Option Addr}{n c:Nat}{xs:List Int}(h:Own k e w base A n c xs):A≠none→blk A≠w.heap.size:=by
 intro hA
 obtain⟨-,g1⟩:=Ownv.cases h
 rcases g1 with⟨h1,-⟩ | ⟨g,cur,h1,-,hh,-⟩
 · exact absurd h1 hA
 · subst h1
   have h9:=heap_lt' hh
   show g≠w.heap.size
   omega
theorem rd_ne_top{k:IntKind}{w:World}{A:Option Addr}{n c:Nat}{xs:List Int}(h:Rd k w A n c xs)(hn:0<n):A≠none→blk A≠w.heap.size:=by
 intro hA
 have hle:=Rdv.le h
 obtain⟨b,o,rfl,hb⟩:=Rdv.ptr h (by omega)
 show b≠w.heap.size
 omega
def wrE(vs:List Int)(kind most:Int):Int:=if vs.length % 3≠0∨Tu.validK ((vs.length:Int) / 3 - 4)=false∨kind<0∨4<kind∨most<1∨64<most then 2 else if SoftB vs=true then 0 else 6
def BgX(k:Nat)(vs:List Int)(w1:World)(v6 v7:Value)(wx:World):Prop :=
 v7= .int .i64 0∧∃ D V vc O oc I ic A ac,v6= .pointer (some ⟨D,0,none⟩)∧DS wx D k vs (List.replicate k 0) [] 0 V vc O oc I ic A ac none 0 0∧w1.heap.size≤D∧Below w1.heap.size w1 wx
def BgP(k:Nat)(vs:List Int)(w:World)(e:Ending)(w':World):Prop :=
 ∃ D V vc O oc I ic A ac,e= .returned (.tuple #[.pointer (some ⟨D,0,none⟩),.int .i64 0])∧DS w' D k vs (List.replicate k 0) [] 0 V vc O oc I ic A ac none 0 0∧w.heap.size≤D∧Below w.heap.size w w'
theorem begun_bad(S:Option Addr)(n cs:Nat)(vs:List Int)(kind most:Int)(w:World)(h:Rd .i64 w S n cs vs)(hn:n≤100000)(hw:vs.length % 3≠0∨Tu.validK ((vs.length:Int) / 3 - 4)=false∨kind<0∨4<kind∨most<1∨64<most) :
 Calls Tryz.prog 122 #[.slice S n cs,.int .i64 kind,.int .i64 most] w fun e w'=>e= .returned (.tuple #[.pointer none,.int .i64 2])∧Below w.heap.size w w':=by
 have hl:=Rd.len h
 rw [hl]at hw
 have HSZ:=Lib.hid (fun W=>size_any S n cs W (by omega))
 have HV:=Lib.hid (fun W=>Tu.valid_any ((n:Int) / 3 - 4) W)
 obtain⟨r,hr⟩:∃ r:Nat,r=n % 3:=⟨_,rfl⟩
 have a1:(n:Int).tmod 3=(r:Int):=by rw [Int.tmod_eq_emod_of_nonneg (by omega),hr];omega
 have a2:(n:Int) % 3=(r:Int):=by rw [hr];omega
 rw [← hr]at hw
 generalize Tu.validK ((n:Int) / 3 - 4)=vb at *
 generalize (n:Int) / 3 - 4=kk at *
 clear hr hl
 rcases (by
  by_cases c1:r≠0
  · exact .inl c1
  · have c1:r=0:=by omega
    by_cases c2:vb=false
    · exact .inr (.inl ⟨c1,c2⟩)
    · have c2:vb=true:=by simpa using c2
      by_cases c3:kind<0
      · exact .inr (.inr (.inl ⟨c1,c2,c3⟩))
      · by_cases c4:4<kind
        · exact .inr (.inr (.inr (.inl ⟨c1,c2,by omega,c4⟩)))
        · by_cases c5:most<1
          · exact .inr (.inr (.inr (.inr (.inl ⟨c1,c2,by omega,by omega,c5⟩))))
          · refine .inr (.inr (.inr (.inr (.inr ⟨c1,c2,by omega,by omega,by omega,?_⟩))))
            rcases hw with h | h | h | h | h | h
            · omega
            · rw [h]at c2;cases c2
            · omega
            · omega
            · omega
            · exact h:r≠0∨(r=0∧vb=false)∨(r=0∧vb=true∧kind<0)∨(r=0∧vb=true∧0≤kind∧4<kind)∨(r=0∧vb=true∧0≤kind∧kind≤4∧most<1)∨(r=0∧vb=true∧0≤kind∧kind≤4∧1≤most∧64<most)) with h1 | ⟨h1,rfl⟩ | ⟨h1,rfl,h3⟩ | ⟨h1,rfl,h3,h4⟩ | ⟨h1,rfl,h3,h4,h5⟩ | ⟨h1,rfl,h3,h4,h5,h6⟩<;>clear hw
 case' inl=>have q1:((r:Int) != 0)=true:=bne_t (by omega)
 case' inr.inl=>have q1:((r:Int) != 0)=false:=bne_f (by omega)
 case' inr.inr.inl=>have q1:((r:Int) != 0)=false:=bne_f (by omega)
 case' inr.inr.inr.inl=>have q1:((r:Int) != 0)=false:=bne_f (by omega)
 case' inr.inr.inr.inr.inl=>have q1:((r:Int) != 0)=false:=bne_f (by omega)
 case' inr.inr.inr.inr.inr=>have q1:((r:Int) != 0)=false:=bne_f (by omega)
 all_goals
  clear h1
  go_enter Tryz.func122,Tryz.ntmps122
  go_wp2_with fail
  refine wp_scope_fwd 0 rfl ?_
  go_wp2_with (first
   | (go_at_call 166;refine(HSZ.out _).mono ?_;rintro e w0 ⟨rfl,rfl⟩)
   | (go_at_call 102;refine(HV.out _).mono ?_;rintro e w0 ⟨rfl,hB0⟩))
  go_step3
  refine⟨rfl,?_⟩
  go_wp2
  simp only [Exit.jump]
  go_ret2
  exact⟨rfl,by first | exact Below.refl _ _ | assumption⟩
theorem begun_soft(S:Option Addr)(n cs:Nat)(vs:List Int)(kind most:Int)(w:World)(h:Rd .i64 w S n cs vs)(hn:n≤100000)(h3:n % 3=0)(hv:Tu.validK ((n:Int) / 3 - 4)=true)(hk:0≤kind∧kind≤4)(hm:1≤most∧most≤64)(hs:SoftB vs=false) :
 Calls Tryz.prog 122 #[.slice S n cs,.int .i64 kind,.int .i64 most] w fun e w'=>e= .returned (.tuple #[.pointer none,.int .i64 6])∧Below w.heap.size w w':=by
 have HSZ:=Lib.hid (fun W=>size_any S n cs W (by omega))
 have HV:=Lib.hid (fun W=>Tu.valid_any ((n:Int) / 3 - 4) W)
 have HC:=Lib.hid (fun W h=>bcont_any S n cs vs W h)
 rw [hs,Bool.not_false]at HC
 rw [hv]at HV
 have HH:=Lib.hid h
 have a1:(n:Int).tmod 3=0:=by rw [Int.tmod_eq_emod_of_nonneg (by omega)];omega
 have a2:(n:Int) % 3=0:=by omega
 have b1:decide (kind<0)=false:=by simp;omega
 have b2:decide (kind > 4)=false:=by simp;omega
 have b3:decide (most<1)=false:=by simp;omega
 have b4:decide (most > 64)=false:=by simp;omega
 generalize (n:Int) / 3 - 4=kk at *
 clear h3 hv h hs
 go_enter Tryz.func122,Tryz.ntmps122
 go_wp2_with fail
 refine wp_scope_fwd 0 rfl ?_
 go_wp2_with (first
  | (go_at_call 166;refine(HSZ.out _).mono ?_;rintro e w0 ⟨rfl,rfl⟩)
  | (go_at_call 102;refine(HV.out _).mono ?_;rintro e w0 ⟨rfl,hB0⟩;have HB0:=Lib.hid hB0;have HH0:=Lib.hid (Rdv.below HH.out hB0);clear hB0)
  | (go_at_call 109;refine(HC.out _ HH0.out).mono ?_;rintro e w1 ⟨rfl,rfl⟩))
 go_step3
 refine⟨rfl,?_⟩
 go_wp2
 simp only [Exit.jump]
 go_ret2
 exact⟨rfl,HB0.out⟩
theorem begun_ok(S:Option Addr)(k cs:Nat)(vs:List Int)(kind most:Int)(w:World)(h:Rd .i64 w S (3*(k+4)) cs vs)(hv:Tu.validK (k:Int)=true)(hk:0≤kind∧kind≤4)(hm:1≤most∧most≤64)(hs:SoftB vs=true) :
 Calls Tryz.prog 122 #[.slice S (3*(k+4)) cs,.int .i64 kind,.int .i64 most] w (BgP k vs w):=by
 have hkb:=Tu.valid_bd hv
 have hk0:0<k:=by omega
 have hk9:k≤6144:=by omega
 have hvl:(((3*(k+4):Nat):Int)) / 3 - 4=(k:Int):=by omega
 have HSZ:=Lib.hid (fun W=>size_any S (3*(k+4)) cs W (by omega))
 rw [hvl]at HSZ
 have HV:=Lib.hid (fun W=>Tu.valid_any (k:Int) W)
 rw [hv]at HV
 have HC:=Lib.hid (fun W h=>bcont_any S (3*(k+4)) cs vs W h)
 rw [hs,Bool.not_true]at HC
 have HOR:=Lib.hid (fun W=>Tu.order_any (k:Int) W)
 have HIN:=Lib.hid (fun W=>Tu.inverse_any (k:Int) W)
 rw [show Tu.permE (k:Int)=0 from by unfold Tu.permE;rw [if_pos hv],show Tu.ordR (k:Int)=Tu.ordL k from by unfold Tu.ordR;rw [if_pos hv,Int.toNat_natCast]]at HOR
 rw [show Tu.permE (k:Int)=0 from by unfold Tu.permE;rw [if_pos hv],show Tu.invR (k:Int)=Tu.invL k from by unfold Tu.invR;rw [if_pos hv,Int.toNat_natCast]]at HIN
 have HH:=Lib.hid h
 have a1:((3*(k+4):Nat):Int).tmod 3=0:=by rw [Int.tmod_eq_emod_of_nonneg (by omega)];omega
 have a2:((3*(k+4):Nat):Int) % 3=0:=by omega
 have b1:decide (kind<0)=false:=by simp;omega
 have b2:decide (kind > 4)=false:=by simp;omega
 have b3:decide (most<1)=false:=by simp;omega
 have b4:decide (most > 64)=false:=by simp;omega
 clear hv h hs hkb
 go_enter Tryz.func122,Tryz.ntmps122
 go_wp2_with fail
 go_step3
 go_wp2_with (first
  | (go_at_call 166;refine(HSZ.out _).mono ?_;rintro e w0 ⟨rfl,rfl⟩)
  | (go_at_call 102;refine(HV.out _).mono ?_;rintro e w0 ⟨rfl,hB0⟩;have HB0:=Lib.hid hB0;have HH0:=Lib.hid (Rdv.below HH.out hB0);clear hB0)
  | (go_at_call 109;refine(HC.out _ HH0.out).mono ?_;rintro e w1 ⟨rfl,rfl⟩)
  | (go_at_call 168;refine(HOR.out _).mono ?_;rintro e w2 ⟨O,on,rfl,hO,hB2⟩;have hon:=Rd.len (Own.rd hO);rw [Tu.ordL_len]at hon;subst hon;have HO2:=Lib.hid (Own.rd hO);have HH2:=Lib.hid (Rdv.below HH0.out hB2);have HB2:=Lib.hid (HB0.out.trans (hB2.mono HB0.out.size));clear hO hB2)
  | (go_at_call 169;refine(HIN.out _).mono ?_;rintro e w1 ⟨I,im,rfl,hI,hB1⟩;have him:=Rd.len (Own.rd hI);rw [inv_len]at him;subst him;have HI1:=Lib.hid (Own.rd hI);have HO1:=Lib.hid (Rdv.below HO2.out hB1);have HH1:=Lib.hid (Rdv.below HH2.out hB1);have HB1:=Lib.hid (HB2.out.trans (hB1.mono HB2.out.size));clear hI hB1))
 have HCL:=Lib.hid (fun W (hW:Below w1.heap.size w1 W)=>cloneI_any S (3*(k+4)) cs vs W (Rdv.below HH1.out hW) (by omega))
 have HS:Hid (Below w1.heap.size w1 w1.drew):=Lib.hid (Below.refl _ _).drew
 clear HOR HIN HC HV HSZ a1 a2 b1 b2 b3 b4 HH HH0 HH2 HO2 HB0 HB2
 go_cut [6,7] from 50 to 57 (fun v6 v7 wx=>BgX k vs w1 v6 v7 wx)
 case first =>
  refine Q_start (fun W=>Below w1.heap.size w1 W) 7 10 ?_
  refine Q_W 0 50 1 (.slice S (3*(k+4)) cs) rfl HS.out ?_
  simp only [z0,z1,z2]
  refine Q_W 2 52 5 (.slice O k k) rfl HS.out ?_
  simp only [z0,z1,z2]
  refine Q_W 3 53 13 (.slice I k k) rfl HS.out ?_
  simp only [z0,z1,z2]
  refine Q_W 4 54 29 (.int .i64 (k:Int)) rfl HS.out ?_
  simp only [z0,z1,z2]
  generalize w1.drew=wd at *
  refine Q_2S 1 5 31 61 rfl rfl (fun K hK=>?_) (fun K hK=>?_)
  · go_simp
    refine(HCL.out wd HS.out).mono ?_
    rintro e wa ⟨V,vc,rfl,hV,hB1⟩
    have HV:=Lib.hid hV
    have HSc:=Lib.hid (HS.out.trans (hB1.mono HS.out.size))
    clear hB1 hV
    refine hK _ _ HSc.out ?_
    clear hK K
    refine Q_1S 5 63 rfl (fun K hK=>?_)
    refine wp_mkd 55 (.tmp 54) (.tmp 54) 39 rfl rfl el22 rfl rfl (by omega) (by unfold maxLen;omega) ?_
    intro A wb hA hB1 hA0
    have HA:Hid (Own .i64 3 wb wa.heap.size A k k (List.replicate k 0)):=Lib.hid (by unfold Own;simpa using hA)
    have HV:=Lib.hid (Ownv.below HV.out hB1)
    have HScm:=Lib.hid (HSc.out.trans (hB1.mono HSc.out.size))
    clear hB1 hA hA0
    refine hK _ _ HScm.out ?_
    clear hK K
    simp only [z0,z1,z2]
    refine Q_W 6 56 127 (.agg #[.slice V (3*(k+4)) vc,.slice O k k,.slice I k k,.slice A k k,.slice none 0 0,.int .i64 0]) rfl HScm.out ?_
    simp only [z0,z1,z2]
    refine Q_1 7 255 rfl (fun K hK=>?_)
    go_simp
    have HF:Hid (BgX k vs w1 (.pointer (some ⟨wb.heap.size,0,none⟩)) (.int .i64 0) (wb.alloc (.cells #[.slice V (3*(k+4)) vc,.slice O k k,.slice I k k,.slice A k k,.slice none 0 0,.int .i64 0] 192))):=Lib.hid ⟨rfl,wb.heap.size,V,vc,O,k,I,k,A,k,rfl,⟨Blk.new wb [.slice V (3*(k+4)) vc,.slice O k k,.slice I k k,.slice A k k,.slice none 0 0,.int .i64 0] 192 rfl,Rdv.alloc (Own.rd HV.out) _,Rdv.alloc (Rdv.below HO1.out HScm.out) _,Rdv.alloc (Rdv.below HI1.out HScm.out) _,Rdv.alloc (Own.rd HA.out) _,Rd.nilv .u8 _,own_ne_top HV.out,rd_ne_top (Rdv.below HO1.out HScm.out) hk0,rd_ne_top (Rdv.below HI1.out HScm.out) hk0,own_ne_top HA.out,fun h=>absurd rfl h⟩,HScm.out.size,HScm.out.alloc HScm.out.size _⟩
    refine hK _ _ ?_
    clear hK K
    refine Q_1 8 511 rfl (fun K hK=>?_)
    go_simp
    refine hK _ _ ?_
    clear hK K
    refine Q_1 9 1023 rfl (fun K hK=>?_)
    go_simp
    refine hK _ _ ?_
    clear hK K
    refine Q_end ?_
    go_wp2_with fail
    go_meet
    exact HF.out
  · refine wp_mkd 55 (.tmp 54) (.tmp 54) 39 rfl rfl el22 rfl rfl (by omega) (by unfold maxLen;omega) ?_
    intro A wa hA hB1 hA0
    have HA:Hid (Own .i64 3 wa wd.heap.size A k k (List.replicate k 0)):=Lib.hid (by unfold Own;simpa using hA)
    have HSm:=Lib.hid (HS.out.trans (hB1.mono HS.out.size))
    clear hB1 hA hA0
    refine hK _ _ HSm.out ?_
    clear hK K
    simp only [z0,z1,z2]
    refine Q_1S 1 63 rfl (fun K hK=>?_)
    go_simp
    refine(HCL.out wa HSm.out).mono ?_
    rintro e wb ⟨V,vc,rfl,hV,hB1⟩
    have HV:=Lib.hid hV
    have HA:=Lib.hid (Ownv.below HA.out hB1)
    have HSmc:=Lib.hid (HSm.out.trans (hB1.mono HSm.out.size))
    clear hB1 hV
    refine hK _ _ HSmc.out ?_
    clear hK K
    refine Q_W 6 56 127 (.agg #[.slice V (3*(k+4)) vc,.slice O k k,.slice I k k,.slice A k k,.slice none 0 0,.int .i64 0]) rfl HSmc.out ?_
    simp only [z0,z1,z2]
    refine Q_1 7 255 rfl (fun K hK=>?_)
    go_simp
    have HF:Hid (BgX k vs w1 (.pointer (some ⟨wb.heap.size,0,none⟩)) (.int .i64 0) (wb.alloc (.cells #[.slice V (3*(k+4)) vc,.slice O k k,.slice I k k,.slice A k k,.slice none 0 0,.int .i64 0] 192))):=Lib.hid ⟨rfl,wb.heap.size,V,vc,O,k,I,k,A,k,rfl,⟨Blk.new wb [.slice V (3*(k+4)) vc,.slice O k k,.slice I k k,.slice A k k,.slice none 0 0,.int .i64 0] 192 rfl,Rdv.alloc (Own.rd HV.out) _,Rdv.alloc (Rdv.below HO1.out HSmc.out) _,Rdv.alloc (Rdv.below HI1.out HSmc.out) _,Rdv.alloc (Own.rd HA.out) _,Rd.nilv .u8 _,own_ne_top HV.out,rd_ne_top (Rdv.below HO1.out HSmc.out) hk0,rd_ne_top (Rdv.below HI1.out HSmc.out) hk0,own_ne_top HA.out,fun h=>absurd rfl h⟩,HSmc.out.size,HSmc.out.alloc HSmc.out.size _⟩
    refine hK _ _ ?_
    clear hK K
    refine Q_1 8 511 rfl (fun K hK=>?_)
    go_simp
    refine hK _ _ ?_
    clear hK K
    refine Q_1 9 1023 rfl (fun K hK=>?_)
    go_simp
    refine hK _ _ ?_
    clear hK K
    refine Q_end ?_
    go_wp2_with fail
    go_meet
    exact HF.out
 case rest =>
  obtain⟨rfl,D,V,vc,O2,oc,I2,ic,A,ac,rfl,hDS,hD,hB⟩:=hcut
  have HDS:=Lib.hid hDS
  have HDl:=Lib.hid (Nat.le_trans HB1.out.size hD)
  have HBF:=Lib.hid (HB1.out.trans (hB.mono HB1.out.size))
  clear hDS hD hB
  go_wp2
  rw [Exit.noGoto_ret]
  go_ret2
  exact⟨D,V,vc,O2,oc,I2,ic,A,ac,rfl,HDS.out,HDl.out,HBF.out⟩
theorem below_grown{w w1 w2:World}{D:Nat}(h:Below w.heap.size w w1)(hg:w1.grownBy w2 (some D)):w.grownBy w2 (some D) :=
 ⟨hg.os.trans h.os,hg.tape.trans h.tape,hg.output.trans h.output,Nat.le_trans h.size hg.size,fun j hj hne=>(hg.block j (Nat.lt_of_lt_of_le hj h.size) hne).trans (h.block j hj)⟩
theorem agrees_any{D k:Nat}{vs a bs:List Int}{h:Nat}{V:Option Addr}{vc:Nat}{O:Option Addr}{oc:Nat}{I:Option Addr}{ic:Nat}{A:Option Addr}{ac:Nat}{B:Option Addr}{bn bc:Nat}(R:Option Addr)(rn rc:Nat)(xs:List Int)(w:World)(hs:DS w D k vs a bs h V vc O oc I ic A ac B bn bc)(hr:Rd .u8 w R rn rc xs)(hh:h≤100000) :
 Calls Tryz.prog 178 #[.pointer (some ⟨D,0,none⟩),.slice R rn rc] w fun e w'=>e= .returned (.bool (decide (2≤h) && decide (xs=bs)))∧Below w.heap.size w w':=by
 have k5:=hs.b.cell (j:=5) (v:=.int .i64 (h:Int)) rfl
 have k4:=hs.b.cell (j:=4) (v:=.slice B bn bc) rfl
 have HEQ:=Lib.hid (Cr.equal_any R B rn rc bn bc xs bs w hr hs.p)
 clear hs hr
 by_cases h2:2≤h
 · have q:decide ((h:Int) ≥ 2)=true:=by simp;omega
   rw [decide_eq_true h2,Bool.true_and]
   clear h2
   generalize decide (xs=bs)=p at *
   go_enter Tryz.func178,Tryz.ntmps178
   go_wp2_with fail
   refine HEQ.out.mono ?_
   rintro e w1 ⟨rfl,q1,rfl⟩
   go_wp2
   go_ret
   exact⟨rfl,Qt.below ⟨q1,rfl⟩ _⟩
 · have q:decide ((h:Int) ≥ 2)=false:=by simp;omega
   rw [decide_eq_false h2,Bool.false_and]
   clear h2
   go_enter Tryz.func178,Tryz.ntmps178
   go_wp2
   go_ret
   exact⟨rfl,Below.refl _ _⟩
theorem pass1_any{D k:Nat}{vs a bs:List Int}{h:Nat}{V:Option Addr}{vc:Nat}{O:Option Addr}{oc:Nat}{I:Option Addr}{ic:Nat}{A:Option Addr}{ac:Nat}{B:Option Addr}{bn bc:Nat}(b3 b4:Nat)(R:Option Addr)(rn rc:Nat)(xs:List Int)(w:World)(hs:DS w D k vs a bs h V vc O oc I ic A ac B bn bc)(hr:Rd .u8 w R rn rc xs)(hh:h≤100000)(h3:Blk w b3 186 [.pointer (some ⟨D,0,none⟩)])(h4:Blk w b4 28 [.slice R rn rc]) :
 Calls Tryz.prog 177 #[.pointer (some ⟨b3,0,none⟩),.pointer (some ⟨b4,0,none⟩)] w fun e w'=>e= .returned (.bool (decide (2≤h) && decide (xs=bs)))∧Below w.heap.size w w':=by
 have HAG:=Lib.hid (agrees_any R rn rc xs w hs hr hh)
 have k3:=h3.cell (j:=0) (v:=.pointer (some ⟨D,0,none⟩)) rfl
 have k4:=h4.cell (j:=0) (v:=.slice R rn rc) rfl
 clear hs hr h3 h4
 generalize (decide (2≤h) && decide (xs=bs))=p at *
 go_enter Tryz.func177,Tryz.ntmps177
 go_wp2_with fail
 refine HAG.out.mono ?_
 rintro e w1 ⟨rfl,hB⟩
 go_wp2
 go_ret
 exact⟨rfl,hB⟩
theorem pass2_any(b5 b4:Nat)(kind:Int)(R:Option Addr)(rn rc:Nat)(xs:List Int)(w:World)(hr:Rd .u8 w R rn rc xs)(hn:rn≤100000)(h5:Blk w b5 117 [.int .i64 kind])(h4:Blk w b4 28 [.slice R rn rc]) :
 Calls Tryz.prog 179 #[.pointer (some ⟨b5,0,none⟩),.pointer (some ⟨b4,0,none⟩)] w fun e w'=>e= .returned (.bool (decide (Cr.chkErr kind xs=0)))∧Below w.heap.size w w':=by
 have HCK:=Lib.hid (Cr.check_any kind R rn rc xs w hr hn)
 have k5:=h5.cell (j:=0) (v:=.int .i64 kind) rfl
 have k4:=h4.cell (j:=0) (v:=.slice R rn rc) rfl
 clear hr h5 h4
 by_cases hE:Cr.chkErr kind xs=0
 · rw [decide_eq_true hE]
   rw [hE]at HCK
   clear hE
   go_enter Tryz.func179,Tryz.ntmps179
   go_wp2_with fail
   refine HCK.out.mono ?_
   rintro e w1 ⟨A',n',c',rfl,hO,hB⟩
   clear hO
   go_wp2
   go_ret
   exact⟨rfl,hB⟩
 · rw [decide_eq_false hE]
   have q:(Cr.chkErr kind xs == 0)=false:=beq_f hE
   generalize Cr.chkErr kind xs=E at *
   clear hE
   go_enter Tryz.func179,Tryz.ntmps179
   go_wp2_with fail
   refine HCK.out.mono ?_
   rintro e w1 ⟨A',n',c',rfl,hO,hB⟩
   clear hO
   go_wp2
   go_ret
   exact⟨rfl,hB⟩
theorem passes0_any{D k:Nat}{vs a bs:List Int}{h:Nat}{V:Option Addr}{vc:Nat}{O:Option Addr}{oc:Nat}{I:Option Addr}{ic:Nat}{A:Option Addr}{ac:Nat}{B:Option Addr}{bn bc:Nat}(R:Option Addr)(rn rc:Nat)(xs:List Int)(w:World)(hs:DS w D k vs a bs h V vc O oc I ic A ac B bn bc)(hr:Rd .u8 w R rn rc xs)(hrn:R≠none→blk R≠D)(hh:h≤100000)(hn:rn≤100000) :
 Calls Tryz.prog 124 #[.pointer (some ⟨D,0,none⟩),.slice R rn rc,.int .i64 0] w fun e w'=>e= .returned (.bool (decide (2≤h) && decide (xs=bs)))∧DS w' D k vs a xs h V vc O oc I ic A ac R rn rc∧w.grownBy w' (some D):=by
 have hD:=hs.b.lt
 have HB0:Hid (Below w.heap.size w ((((w.alloc (.cells #[.pointer (some ⟨D,0,none⟩)] 186)).alloc (.cells #[.slice R rn rc] 28)).alloc (.cells #[.int .i64 0] 117)).alloc (.cells #[.nilFunc,.nilFunc] 236))):=Lib.hid (((((Below.refl _ w).alloc (Nat.le_refl _) _).alloc (by simp) _).alloc (by simp;omega) _).alloc (by simp;omega) _)
 have hL0:Blk ((((w.alloc (.cells #[.pointer (some ⟨D,0,none⟩)] 186)).alloc (.cells #[.slice R rn rc] 28)).alloc (.cells #[.int .i64 0] 117)).alloc (.cells #[.nilFunc,.nilFunc] 236)) (w.heap.size+1+1+1) 236 [.nilFunc,.nilFunc]:=Blk.new (((w.alloc (.cells #[.pointer (some ⟨D,0,none⟩)] 186)).alloc (.cells #[.slice R rn rc] 28)).alloc (.cells #[.int .i64 0] 117)) [.nilFunc,.nilFunc] 236 (by simp)
 have H3:Hid (Blk ((((w.alloc (.cells #[.pointer (some ⟨D,0,none⟩)] 186)).alloc (.cells #[.slice R rn rc] 28)).alloc (.cells #[.int .i64 0] 117)).alloc (.cells #[.nilFunc,.nilFunc] 236)) w.heap.size 186 [.pointer (some ⟨D,0,none⟩)]):=Lib.hid ((((Blk.new w [.pointer (some ⟨D,0,none⟩)] 186 rfl).alloc _).alloc _).alloc _)
 have H4:Hid (Blk ((((w.alloc (.cells #[.pointer (some ⟨D,0,none⟩)] 186)).alloc (.cells #[.slice R rn rc] 28)).alloc (.cells #[.int .i64 0] 117)).alloc (.cells #[.nilFunc,.nilFunc] 236)) (w.heap.size+1) 28 [.slice R rn rc]):=Lib.hid (((Blk.new (w.alloc (.cells #[.pointer (some ⟨D,0,none⟩)] 186)) [.slice R rn rc] 28 (by simp)).alloc _).alloc _)
 have H5:Hid (Blk ((((w.alloc (.cells #[.pointer (some ⟨D,0,none⟩)] 186)).alloc (.cells #[.slice R rn rc] 28)).alloc (.cells #[.int .i64 0] 117)).alloc (.cells #[.nilFunc,.nilFunc] 236)) (w.heap.size+1+1) 117 [.int .i64 0]):=Lib.hid ((Blk.new ((w.alloc (.cells #[.pointer (some ⟨D,0,none⟩)] 186)).alloc (.cells #[.slice R rn rc] 28)) [.int .i64 0] 117 (by simp)).alloc _)
 have HS:=Lib.hid hs
 have HR:=Lib.hid hr
 clear hs hr
 go_enter Tryz.func124,Tryz.ntmps124
 go_wp2_with (refine strow (cs:=[.func (.func 177) #[] #[.pointer (some ⟨w.heap.size,0,none⟩),.pointer (some ⟨w.heap.size+1,0,none⟩)],.func (.func 179) #[] #[.pointer (some ⟨w.heap.size+1+1,0,none⟩),.pointer (some ⟨w.heap.size+1,0,none⟩)]]) rfl 236 (.tmp 7) (.tmp 11) rfl rfl rfl hL0 rfl (by kernel_rfl) (by simp [Value.oneCell']) ?_
              intro W5 g1 g2
              have HA:=Lib.hid g1
              have HB3:=Lib.hid (H3.out.grown g2 (by simp;omega))
              have HB4:=Lib.hid (H4.out.grown g2 (by simp))
              have HB5:=Lib.hid (H5.out.grown g2 (by simp))
              have HBW:=Lib.hid (HB0.out.grown g2 HB0.out.size (fun j e=>by cases e;omega))
              have HDS5:=Lib.hid (DS.below HS.out HBW.out)
              have HR5:=Lib.hid (Rdv.below HR.out HBW.out)
              have k5:=HB5.out.cell (j:=0) (v:=.int .i64 0) rfl
              have kf:W5.cell? ⟨w.heap.size+1+1+1,0,none⟩=some (.func (.func 177) #[] #[.pointer (some ⟨w.heap.size,0,none⟩),.pointer (some ⟨w.heap.size+1,0,none⟩)]):=HA.out.cell rfl
              clear g1 g2 hL0 H3 H4 H5 HB0)
 refine(pass1_any w.heap.size (w.heap.size+1) R rn rc xs W5 HDS5.out HR5.out hh HB3.out HB4.out).mono ?_
 rintro e w6 ⟨rfl,hB6⟩
 have HD6:=Lib.hid (DS.below HDS5.out hB6)
 have HR6:=Lib.hid (Rdv.below HR5.out hB6)
 have k63:=(HB3.out.below hB6).cell (j:=0) (v:=.pointer (some ⟨D,0,none⟩)) rfl
 have k64:=(HB4.out.below hB6).cell (j:=0) (v:=.slice R rn rc) rfl
 have k6d:=HD6.out.b.cell (j:=4) (v:=.slice B bn bc) rfl
 have f6d:=HD6.out.b.frozen 4
 have HBW6:=Lib.hid (HBW.out.trans (hB6.mono HBW.out.size))
 have hg:w6.grownBy (w6.setCell ⟨D,4,none⟩ (.slice R rn rc)) (some D):=grownBy_set _ _ _ _
 have HF:Hid (DS (w6.setCell ⟨D,4,none⟩ (.slice R rn rc)) D k vs a xs h V vc O oc I ic A ac R rn rc):=Lib.hid ⟨HD6.out.b.set 4 _,Rdv.grown HD6.out.v hg (nesome HD6.out.nv),Rdv.grown HD6.out.o hg (nesome HD6.out.no),Rdv.grown HD6.out.i hg (nesome HD6.out.ni),Rdv.grown HD6.out.a hg (nesome HD6.out.na),Rdv.grown HR6.out hg (nesome hrn),HD6.out.nv,HD6.out.no,HD6.out.ni,HD6.out.na,hrn⟩
 have HG:Hid (w.grownBy (w6.setCell ⟨D,4,none⟩ (.slice R rn rc)) (some D)):=Lib.hid (below_grown HBW6.out hg)
 clear hB6 hg HA HB3 HB4 HB5 k5 kf
 generalize hp:(decide (2≤h) && decide (xs=bs))=p
 have HP:=Lib.hid hp
 clear hp
 go_wp2
 go_ret
 exact⟨ret_bool HP.out.symm,HF.out,HG.out⟩
theorem passes1_any{D k:Nat}{vs a bs:List Int}{h:Nat}{V:Option Addr}{vc:Nat}{O:Option Addr}{oc:Nat}{I:Option Addr}{ic:Nat}{A:Option Addr}{ac:Nat}{B:Option Addr}{bn bc:Nat}(R:Option Addr)(rn rc:Nat)(xs:List Int)(w:World)(hs:DS w D k vs a bs h V vc O oc I ic A ac B bn bc)(hr:Rd .u8 w R rn rc xs)(hrn:R≠none→blk R≠D)(hh:h≤100000)(hn:rn≤100000) :
 Calls Tryz.prog 124 #[.pointer (some ⟨D,0,none⟩),.slice R rn rc,.int .i64 1] w fun e w'=>e= .returned (.bool (decide (Cr.chkErr 1 xs=0)))∧DS w' D k vs a xs h V vc O oc I ic A ac R rn rc∧w.grownBy w' (some D):=by
 have hD:=hs.b.lt
 have HB0:Hid (Below w.heap.size w ((((w.alloc (.cells #[.pointer (some ⟨D,0,none⟩)] 186)).alloc (.cells #[.slice R rn rc] 28)).alloc (.cells #[.int .i64 1] 117)).alloc (.cells #[.nilFunc,.nilFunc] 236))):=Lib.hid (((((Below.refl _ w).alloc (Nat.le_refl _) _).alloc (by simp) _).alloc (by simp;omega) _).alloc (by simp;omega) _)
 have hL0:Blk ((((w.alloc (.cells #[.pointer (some ⟨D,0,none⟩)] 186)).alloc (.cells #[.slice R rn rc] 28)).alloc (.cells #[.int .i64 1] 117)).alloc (.cells #[.nilFunc,.nilFunc] 236)) (w.heap.size+1+1+1) 236 [.nilFunc,.nilFunc]:=Blk.new (((w.alloc (.cells #[.pointer (some ⟨D,0,none⟩)] 186)).alloc (.cells #[.slice R rn rc] 28)).alloc (.cells #[.int .i64 1] 117)) [.nilFunc,.nilFunc] 236 (by simp)
 have H3:Hid (Blk ((((w.alloc (.cells #[.pointer (some ⟨D,0,none⟩)] 186)).alloc (.cells #[.slice R rn rc] 28)).alloc (.cells #[.int .i64 1] 117)).alloc (.cells #[.nilFunc,.nilFunc] 236)) w.heap.size 186 [.pointer (some ⟨D,0,none⟩)]):=Lib.hid ((((Blk.new w [.pointer (some ⟨D,0,none⟩)] 186 rfl).alloc _).alloc _).alloc _)
 have H4:Hid (Blk ((((w.alloc (.cells #[.pointer (some ⟨D,0,none⟩)] 186)).alloc (.cells #[.slice R rn rc] 28)).alloc (.cells #[.int .i64 1] 117)).alloc (.cells #[.nilFunc,.nilFunc] 236)) (w.heap.size+1) 28 [.slice R rn rc]):=Lib.hid (((Blk.new (w.alloc (.cells #[.pointer (some ⟨D,0,none⟩)] 186)) [.slice R rn rc] 28 (by simp)).alloc _).alloc _)
 have H5:Hid (Blk ((((w.alloc (.cells #[.pointer (some ⟨D,0,none⟩)] 186)).alloc (.cells #[.slice R rn rc] 28)).alloc (.cells #[.int .i64 1] 117)).alloc (.cells #[.nilFunc,.nilFunc] 236)) (w.heap.size+1+1) 117 [.int .i64 1]):=Lib.hid ((Blk.new ((w.alloc (.cells #[.pointer (some ⟨D,0,none⟩)] 186)).alloc (.cells #[.slice R rn rc] 28)) [.int .i64 1] 117 (by simp)).alloc _)
 have HS:=Lib.hid hs
 have HR:=Lib.hid hr
 clear hs hr
 go_enter Tryz.func124,Tryz.ntmps124
 go_wp2_with (refine strow (cs:=[.func (.func 177) #[] #[.pointer (some ⟨w.heap.size,0,none⟩),.pointer (some ⟨w.heap.size+1,0,none⟩)],.func (.func 179) #[] #[.pointer (some ⟨w.heap.size+1+1,0,none⟩),.pointer (some ⟨w.heap.size+1,0,none⟩)]]) rfl 236 (.tmp 7) (.tmp 11) rfl rfl rfl hL0 rfl (by kernel_rfl) (by simp [Value.oneCell']) ?_
              intro W5 g1 g2
              have HA:=Lib.hid g1
              have HB3:=Lib.hid (H3.out.grown g2 (by simp;omega))
              have HB4:=Lib.hid (H4.out.grown g2 (by simp))
              have HB5:=Lib.hid (H5.out.grown g2 (by simp))
              have HBW:=Lib.hid (HB0.out.grown g2 HB0.out.size (fun j e=>by cases e;omega))
              have HDS5:=Lib.hid (DS.below HS.out HBW.out)
              have HR5:=Lib.hid (Rdv.below HR.out HBW.out)
              have k5:=HB5.out.cell (j:=0) (v:=.int .i64 1) rfl
              have kf:W5.cell? ⟨w.heap.size+1+1+1,1,none⟩=some (.func (.func 179) #[] #[.pointer (some ⟨w.heap.size+1+1,0,none⟩),.pointer (some ⟨w.heap.size+1,0,none⟩)]):=HA.out.cell rfl
              clear g1 g2 hL0 H3 H4 H5 HB0)
 refine(pass2_any (w.heap.size+1+1) (w.heap.size+1) 1 R rn rc xs W5 HR5.out hn HB5.out HB4.out).mono ?_
 rintro e w6 ⟨rfl,hB6⟩
 have HD6:=Lib.hid (DS.below HDS5.out hB6)
 have HR6:=Lib.hid (Rdv.below HR5.out hB6)
 have k63:=(HB3.out.below hB6).cell (j:=0) (v:=.pointer (some ⟨D,0,none⟩)) rfl
 have k64:=(HB4.out.below hB6).cell (j:=0) (v:=.slice R rn rc) rfl
 have k6d:=HD6.out.b.cell (j:=4) (v:=.slice B bn bc) rfl
 have f6d:=HD6.out.b.frozen 4
 have HBW6:=Lib.hid (HBW.out.trans (hB6.mono HBW.out.size))
 have hg:w6.grownBy (w6.setCell ⟨D,4,none⟩ (.slice R rn rc)) (some D):=grownBy_set _ _ _ _
 have HF:Hid (DS (w6.setCell ⟨D,4,none⟩ (.slice R rn rc)) D k vs a xs h V vc O oc I ic A ac R rn rc):=Lib.hid ⟨HD6.out.b.set 4 _,Rdv.grown HD6.out.v hg (nesome HD6.out.nv),Rdv.grown HD6.out.o hg (nesome HD6.out.no),Rdv.grown HD6.out.i hg (nesome HD6.out.ni),Rdv.grown HD6.out.a hg (nesome HD6.out.na),Rdv.grown HR6.out hg (nesome hrn),HD6.out.nv,HD6.out.no,HD6.out.ni,HD6.out.na,hrn⟩
 have HG:Hid (w.grownBy (w6.setCell ⟨D,4,none⟩ (.slice R rn rc)) (some D)):=Lib.hid (below_grown HBW6.out hg)
 clear hB6 hg HA HB3 HB4 HB5 k5 kf
 generalize hp:(decide (Cr.chkErr 1 xs=0))=p
 have HP:=Lib.hid hp
 clear hp
 go_wp2
 go_ret
 exact⟨ret_bool HP.out.symm,HF.out,HG.out⟩
theorem passes2_any{D k:Nat}{vs a bs:List Int}{h:Nat}{V:Option Addr}{vc:Nat}{O:Option Addr}{oc:Nat}{I:Option Addr}{ic:Nat}{A:Option Addr}{ac:Nat}{B:Option Addr}{bn bc:Nat}(kind:Int)(hk:1<kind)(R:Option Addr)(rn rc:Nat)(xs:List Int)(w:World)(hs:DS w D k vs a bs h V vc O oc I ic A ac B bn bc)(hr:Rd .u8 w R rn rc xs)(hrn:R≠none→blk R≠D)(hh:h≤100000)(hn:rn≤100000) :
 Calls Tryz.prog 124 #[.pointer (some ⟨D,0,none⟩),.slice R rn rc,.int .i64 kind] w fun e w'=>e= .returned (.bool (decide (Cr.chkErr kind xs=0)))∧DS w' D k vs a xs h V vc O oc I ic A ac R rn rc∧w.grownBy w' (some D):=by
 have hD:=hs.b.lt
 have HB0:Hid (Below w.heap.size w ((((w.alloc (.cells #[.pointer (some ⟨D,0,none⟩)] 186)).alloc (.cells #[.slice R rn rc] 28)).alloc (.cells #[.int .i64 kind] 117)).alloc (.cells #[.nilFunc,.nilFunc] 236))):=Lib.hid (((((Below.refl _ w).alloc (Nat.le_refl _) _).alloc (by simp) _).alloc (by simp;omega) _).alloc (by simp;omega) _)
 have hL0:Blk ((((w.alloc (.cells #[.pointer (some ⟨D,0,none⟩)] 186)).alloc (.cells #[.slice R rn rc] 28)).alloc (.cells #[.int .i64 kind] 117)).alloc (.cells #[.nilFunc,.nilFunc] 236)) (w.heap.size+1+1+1) 236 [.nilFunc,.nilFunc]:=Blk.new (((w.alloc (.cells #[.pointer (some ⟨D,0,none⟩)] 186)).alloc (.cells #[.slice R rn rc] 28)).alloc (.cells #[.int .i64 kind] 117)) [.nilFunc,.nilFunc] 236 (by simp)
 have H3:Hid (Blk ((((w.alloc (.cells #[.pointer (some ⟨D,0,none⟩)] 186)).alloc (.cells #[.slice R rn rc] 28)).alloc (.cells #[.int .i64 kind] 117)).alloc (.cells #[.nilFunc,.nilFunc] 236)) w.heap.size 186 [.pointer (some ⟨D,0,none⟩)]):=Lib.hid ((((Blk.new w [.pointer (some ⟨D,0,none⟩)] 186 rfl).alloc _).alloc _).alloc _)
 have H4:Hid (Blk ((((w.alloc (.cells #[.pointer (some ⟨D,0,none⟩)] 186)).alloc (.cells #[.slice R rn rc] 28)).alloc (.cells #[.int .i64 kind] 117)).alloc (.cells #[.nilFunc,.nilFunc] 236)) (w.heap.size+1) 28 [.slice R rn rc]):=Lib.hid (((Blk.new (w.alloc (.cells #[.pointer (some ⟨D,0,none⟩)] 186)) [.slice R rn rc] 28 (by simp)).alloc _).alloc _)
 have H5:Hid (Blk ((((w.alloc (.cells #[.pointer (some ⟨D,0,none⟩)] 186)).alloc (.cells #[.slice R rn rc] 28)).alloc (.cells #[.int .i64 kind] 117)).alloc (.cells #[.nilFunc,.nilFunc] 236)) (w.heap.size+1+1) 117 [.int .i64 kind]):=Lib.hid ((Blk.new ((w.alloc (.cells #[.pointer (some ⟨D,0,none⟩)] 186)).alloc (.cells #[.slice R rn rc] 28)) [.int .i64 kind] 117 (by simp)).alloc _)
 have HS:=Lib.hid hs
 have HR:=Lib.hid hr
 clear hs hr
 go_enter Tryz.func124,Tryz.ntmps124
 go_wp2_with (refine strow (cs:=[.func (.func 177) #[] #[.pointer (some ⟨w.heap.size,0,none⟩),.pointer (some ⟨w.heap.size+1,0,none⟩)],.func (.func 179) #[] #[.pointer (some ⟨w.heap.size+1+1,0,none⟩),.pointer (some ⟨w.heap.size+1,0,none⟩)]]) rfl 236 (.tmp 7) (.tmp 11) rfl rfl rfl hL0 rfl (by kernel_rfl) (by simp [Value.oneCell']) ?_
              intro W5 g1 g2
              have HA:=Lib.hid g1
              have HB3:=Lib.hid (H3.out.grown g2 (by simp;omega))
              have HB4:=Lib.hid (H4.out.grown g2 (by simp))
              have HB5:=Lib.hid (H5.out.grown g2 (by simp))
              have HBW:=Lib.hid (HB0.out.grown g2 HB0.out.size (fun j e=>by cases e;omega))
              have HDS5:=Lib.hid (DS.below HS.out HBW.out)
              have HR5:=Lib.hid (Rdv.below HR.out HBW.out)
              have k5:=HB5.out.cell (j:=0) (v:=.int .i64 kind) rfl
              have kf:W5.cell? ⟨w.heap.size+1+1+1,1,none⟩=some (.func (.func 179) #[] #[.pointer (some ⟨w.heap.size+1+1,0,none⟩),.pointer (some ⟨w.heap.size+1,0,none⟩)]):=HA.out.cell rfl
              clear g1 g2 hL0 H3 H4 H5 HB0)
 refine(pass2_any (w.heap.size+1+1) (w.heap.size+1) kind R rn rc xs W5 HR5.out hn HB5.out HB4.out).mono ?_
 rintro e w6 ⟨rfl,hB6⟩
 have HD6:=Lib.hid (DS.below HDS5.out hB6)
 have HR6:=Lib.hid (Rdv.below HR5.out hB6)
 have k63:=(HB3.out.below hB6).cell (j:=0) (v:=.pointer (some ⟨D,0,none⟩)) rfl
 have k64:=(HB4.out.below hB6).cell (j:=0) (v:=.slice R rn rc) rfl
 have k6d:=HD6.out.b.cell (j:=4) (v:=.slice B bn bc) rfl
 have f6d:=HD6.out.b.frozen 4
 have HBW6:=Lib.hid (HBW.out.trans (hB6.mono HBW.out.size))
 have hg:w6.grownBy (w6.setCell ⟨D,4,none⟩ (.slice R rn rc)) (some D):=grownBy_set _ _ _ _
 have HF:Hid (DS (w6.setCell ⟨D,4,none⟩ (.slice R rn rc)) D k vs a xs h V vc O oc I ic A ac R rn rc):=Lib.hid ⟨HD6.out.b.set 4 _,Rdv.grown HD6.out.v hg (nesome HD6.out.nv),Rdv.grown HD6.out.o hg (nesome HD6.out.no),Rdv.grown HD6.out.i hg (nesome HD6.out.ni),Rdv.grown HD6.out.a hg (nesome HD6.out.na),Rdv.grown HR6.out hg (nesome hrn),HD6.out.nv,HD6.out.no,HD6.out.ni,HD6.out.na,hrn⟩
 have HG:Hid (w.grownBy (w6.setCell ⟨D,4,none⟩ (.slice R rn rc)) (some D)):=Lib.hid (below_grown HBW6.out hg)
 clear hB6 hg HA HB3 HB4 HB5 k5 kf
 generalize hp:(decide (Cr.chkErr kind xs=0))=p
 have HP:=Lib.hid hp
 clear hp
 go_wp2
 go_ret
 exact⟨ret_bool HP.out.symm,HF.out,HG.out⟩
end Go.Proofs.YtkdfefpnhaebfaaGreat
