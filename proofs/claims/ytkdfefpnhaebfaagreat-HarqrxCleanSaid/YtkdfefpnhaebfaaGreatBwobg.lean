/- Bundle. Conditions: none. -/
import Derived.Test.YtkdfefpnhaebfaaGreatBwoaq
import Derived.Test.YtkdfefpnhaebfaaGreatBwobf
import Derived.Test.YtkdfefpnhaebfaaGreatBwobe
set_option linter.unusedVariables false
set_option linter.unusedSimpArgs false
namespace Go.Proofs.YtkdfefpnhaebfaaGreat
open Go.RowKit
attribute [local go_sem] Oper.semAt_some
set_option maxRecDepth 100000
set_option maxHeartbeats 2000000
structure DS (W:World) (D k:Nat) (vs a bs:List Int) (h:Nat) (V:Option Addr) (vc:Nat) (O:Option Addr) (oc:Nat) (I:Option Addr) (ic:Nat) (A:Option Addr) (ac:Nat) (B:Option Addr) (bn bc:Nat):Prop where
 b:Blk W D 192 [.slice V (3*(k+4)) vc,.slice O k oc,.slice I k ic,.slice A k ac,.slice B bn bc,.int .i64 (h:Int)]
 v:Rd .i64 W V (3*(k+4)) vc vs
 o:Rd .i64 W O k oc (Tu.ordL k)
 i:Rd .i64 W I k ic (Tu.invL k)
 a:Rd .i64 W A k ac a
 p:Rd .u8 W B bn bc bs
 nv:V≠none→blk V≠D
 no:O≠none→blk O≠D
 ni:I≠none→blk I≠D
 na:A≠none→blk A≠D
 np:B≠none→blk B≠D
theorem nesome{A:Option Addr}{D:Nat}(h:A≠none→blk A≠D):A≠none→some (blk A)≠some D:=fun hA e=>h hA (Option.some.inj e)
theorem decF_any(S P A:Option Addr)(cs cp ca:Nat)(o:Ob)(w:World)(h:In3 w o S P A cs cp ca)(ho:o.ok) :
 Calls Tryz.prog 171 #[.slice S o.s.length cs,.slice P o.p.length cp,.slice A o.a.length ca] w fun e w'=>∃ A1 A2 A3,e= .returned (.tuple #[.agg #[.slice A1 o.a.length o.a.length,.slice A2 o.a.length o.a.length,.slice A3 o.a.length o.a.length],.int .i64 0]) ∧
  Own .i64 3 w' w.heap.size A2 o.a.length o.a.length o.dE∧Own .u8 5 w' w.heap.size A3 o.a.length o.a.length o.dB∧Below w.heap.size w w':=by
 refine(decode_ok S P A cs cp ca o w h ho).mono ?_
 rintro e w' ⟨A1,A2,A3,rfl,h1,h2,h3,-,-,-,hB⟩
 obtain⟨e1,e2,e3⟩:=rows_same ho
 rw [e2]at h2;rw [e3]at h3
 exact⟨A1,A2,A3,rfl,by unfold Ob.dE;rw [if_pos ho];exact h2,by unfold Ob.dB;rw [if_pos ho];exact h3,hB⟩
theorem own_ne_blk{k:IntKind}{e:TypeId}{w:World}{base:Nat}{A:Option Addr}{n c:Nat}{xs:List Int}{X:Nat}{t:TypeId}{cs:List Value}(hO:Own k e w base A n c xs)(hX:Blk w X t cs)(ht:t≠e):A≠none→some (blk A)≠some X:=by
 intro hA he
 obtain⟨-,g1⟩:=Ownv.cases hO
 rcases g1 with⟨h,-⟩ | ⟨g,cur,h,-,hh,-⟩
 · exact hA h
 · subst h
   have e9:g=X:=by simpa [blk] using he
   subst e9
   unfold Blk at hX
   rw [hX]at hh
   injection hh with hh
   injection hh with _ h9
   exact ht h9
theorem grown_of_below{w w1 w2:World}{D:Nat}(h:w.grownBy w1 (some D))(hb:Below w1.heap.size w1 w2):w.grownBy w2 (some D) :=
 ⟨hb.os.trans h.os,hb.tape.trans h.tape,hb.output.trans h.output,Nat.le_trans h.size hb.size,fun j hj hne=>(hb.block j (Nat.lt_of_lt_of_le hj h.size)).trans (h.block j hj hne)⟩
theorem grown_same{w w1 w2:World}{D:Nat}(h:w.grownBy w1 (some D))(hb:w1.grownBy w2 (some D)):w.grownBy w2 (some D) :=
 ⟨hb.os.trans h.os,hb.tape.trans h.tape,hb.output.trans h.output,Nat.le_trans h.size hb.size,fun j hj hne=>(hb.block j (Nat.lt_of_lt_of_le hj h.size) hne).trans (h.block j hj hne)⟩
theorem inv_bd(k:Nat):∀ n,n≤k→∀ v ∈ Tu.invT k n,0≤v∧v<max 1 (k:Int)
 | 0,_,v,hv=>by
   have:=List.eq_of_mem_replicate hv
   omega
 | n+1,hn,v,hv=>by
   simp only [Tu.invT]at hv
   rcases List.mem_or_eq_of_mem_set hv with h | h
   · exact inv_bd k n (by omega) v h
   · omega
theorem inv_bd'{k:Nat}(hk:0<k):∀ v ∈ Tu.invL k,0≤v∧v<(k:Int):=fun v hv=>by
 have:=inv_bd k k (Nat.le_refl _) v hv
 omega
theorem inv_len{k:Nat}:(Tu.invL k).length=k:=Tu.invT_len k k
theorem DS.below{W W':World}{D k:Nat}{vs a bs:List Int}{h:Nat}{V:Option Addr}{vc:Nat}{O:Option Addr}{oc:Nat}{I:Option Addr}{ic:Nat}{A:Option Addr}{ac:Nat}{B:Option Addr}{bn bc:Nat}(hs:DS W D k vs a bs h V vc O oc I ic A ac B bn bc)(hB:Below W.heap.size W W'):DS W' D k vs a bs h V vc O oc I ic A ac B bn bc :=
 ⟨hs.b.below hB,Rdv.below hs.v hB,Rdv.below hs.o hB,Rdv.below hs.i hB,Rdv.below hs.a hB,Rdv.below hs.p hB,hs.nv,hs.no,hs.ni,hs.na,hs.np⟩
theorem ord_bd{k:Nat}(hk:0<k):∀ v ∈ Tu.ordL k,0≤v∧v<(k:Int):=by
 intro v hv
 unfold Tu.ordL at hv
 obtain⟨i,-,rfl⟩:=List.mem_map.1 hv
 have:Tu.piN k i<k:=Nat.mod_lt _ hk
 omega
theorem nx2_any(X k:Nat)(A2:Option Addr)(xs:List Int)(i:Int)(w:World)(h:Rd .i64 w A2 k k xs)(hb:w.cell? ⟨X,1,none⟩=some (.slice A2 k k))(hi:0≤i∧i<k) :
 Calls Tryz.prog 174 #[.int .i64 i,.pointer (some ⟨X,0,none⟩)] w fun e w'=>e= .returned (.int .i64 (gi xs i.toNat))∧w=w':=by
 obtain⟨j,rfl⟩:∃ j:Nat,i=(j:Int):=⟨i.toNat,by omega⟩
 have hj:j<k:=by omega
 have hc:=Rd.cell h hj
 have hix:=fun W=>Rdv.ix h el22 hj .i64 W
 rw [Int.toNat_natCast]
 clear hi
 go_enter Tryz.func174,Tryz.ntmps174
 go_wp2
 go_ret
 exact⟨rfl,rfl⟩
theorem nx1_any(X k:Nat)(A3:Option Addr)(xs:List Int)(i:Int)(w:World)(h:Rd .u8 w A3 k k xs)(hb:w.cell? ⟨X,2,none⟩=some (.slice A3 k k))(hi:0≤i∧i<k) :
 Calls Tryz.prog 173 #[.int .i64 i,.pointer (some ⟨X,0,none⟩)] w fun e w'=>e= .returned (.int .u8 (gi xs i.toNat))∧w=w':=by
 obtain⟨j,rfl⟩:∃ j:Nat,i=(j:Int):=⟨i.toNat,by omega⟩
 have hj:j<k:=by omega
 have hc:=Rd.cell h hj
 have hix:=fun W=>Rdv.ix h el26 hj .i64 W
 rw [Int.toNat_natCast]
 clear hi
 go_enter Tryz.func173,Tryz.ntmps173
 go_wp2
 go_ret
 exact⟨rfl,rfl⟩
def NxP(k D:Nat)(vs bs:List Int)(o:Ob)(code h:Nat)(V:Option Addr)(vc:Nat)(O:Option Addr)(oc:Nat)(I:Option Addr)(ic:Nat)(B:Option Addr)(bn bc:Nat)(w:World)(e:Ending)(w':World):Prop :=
 ∃ R rc A' ac',e= .returned (.slice R k rc)∧Rd .u8 w' R k rc (if code=1 then o.dB else pk o.dB (Tu.invL k))∧(R≠none→w.heap.size≤blk R)∧DS w' D k vs (pk o.dE (bkL k code)) bs (h+1) V vc O oc I ic A' ac' B bn bc∧w.grownBy w' (some D)
def XP(k:Nat)(o:Ob)(w1:World)(v7 v8:Value)(wx:World):Prop :=
 v8= .int .i64 0∧∃ X A1 A2 A3,v7= .pointer (some ⟨X,0,none⟩)∧Blk wx X 229 [.slice A1 k k,.slice A2 k k,.slice A3 k k]∧Rd .i64 wx A2 k k o.dE∧Rd .u8 wx A3 k k o.dB∧(A3≠none→w1.heap.size≤blk A3)∧Below w1.heap.size w1 wx
theorem next1_any(D k h:Nat)(vs a bs:List Int)(V:Option Addr)(vc:Nat)(O:Option Addr)(oc:Nat)(I:Option Addr)(ic:Nat)(A:Option Addr)(ac:Nat)(B:Option Addr)(bn bc:Nat)(w:World)(hs:DS w D k vs a bs h V vc O oc I ic A ac B bn bc)(hv:Tu.validK (k:Int)=true)(ho:(obH vs k 1 a).ok)
 (hbd:∀ j,j<k+3→(0≤gi (Tu.sysL k 1) j∧gi (Tu.sysL k 1) j<((3*(k+4):Nat):Int))∧(0≤gi (Tu.parI k 1) j∧gi (Tu.parI k 1) j<((3*(k+4):Nat):Int))) (hh:h≤1000) (hpar:(h+1) % 2=1) :
 Calls Tryz.prog 123 #[.pointer (some ⟨D,0,none⟩)] w (NxP k D vs bs (obH vs k 1 a) 1 h V vc O oc I ic B bn bc w):=by
 have hk:=Tu.valid_bd hv
 have hal:a.length=k:=Rd.len hs.a
 generalize hoo:obH vs k 1 a=o at *
 have els:o.s.length=k+3:=by rw [← hoo];show(pk _ _).length=_;rw [pk_len,sys_len]
 have elp:o.p.length=k+3:=by rw [← hoo];show(pk _ _).length=_;rw [pk_len,par_len]
 have ela:o.a.length=k:=by rw [← hoo];exact hal
 have ES:=Lib.hid (show pk vs (Tu.sysL k 1)=o.s by rw [← hoo];rfl)
 have EP:=Lib.hid (show pk vs (Tu.parI k 1)=o.p by rw [← hoo];rfl)
 have EA:=Lib.hid (show a=o.a by rw [← hoo];rfl)
 have EL:=Lib.hid (And.intro els (And.intro elp ela))
 clear hoo els elp ela
 have hk0:0<k:=by omega
 have hvl:(((3*(k+4):Nat):Int)) / 3 - 4=(k:Int):=by omega
 have HSZ:=Lib.hid (fun W=>size_any V (3*(k+4)) vc W (by omega))
 rw [hvl]at HSZ
 have HLY:=Lib.hid (fun W=>Tu.lay_any k 1 W hv (by omega))
 have HBD:=Lib.hid hbd
 have HO:=Lib.hid ho
 have HD:=Lib.hid hs
 have hb0:=hs.b
 have k5:=hb0.cell (j:=5) (v:=.int .i64 (h:Int)) rfl
 have f5:=hb0.frozen 5
 have HG1:Hid (w.grownBy (w.setCell ⟨D,5,none⟩ (.int .i64 ((h:Int)+1))) (some D)):=Lib.hid (grownBy_set _ _ _ _)
 have hb1:=hb0.set 5 (.int .i64 ((h:Int)+1))
 have HB1:=Lib.hid hb1
 have k50:=hb1.cell (j:=5) (v:=.int .i64 ((h:Int)+1)) rfl
 have k00:=hb1.cell (j:=0) (v:=.slice V (3*(k+4)) vc) rfl
 have q1:IntKind.i64.wrap ((h:Int)+1)=(h:Int)+1:=by rw [IntKind.wrap_i64];omega
 have q2:((h:Int)+1).tmod 2=1:=by rw [Int.tmod_eq_emod_of_nonneg (by omega)];omega
 have q3:((h:Int)+1) % 2=1:=by omega
 clear hpar hs hbd ho hb0 hb1 hv hal hvl
 go_enter Tryz.func123,Tryz.ntmps123
 go_wp2_with (first
  | (go_at_call 166;refine(HSZ.out _).mono ?_;rintro e w0 ⟨rfl,rfl⟩)
  | (go_at_call 170;refine(HLY.out _).mono ?_;rintro e w1 ⟨SA,sc,PA,pc,rfl,hSA,hPA,hB1⟩;have HSA:=Lib.hid (Own.rd hSA);have HPA:=Lib.hid (Own.rd hPA);have HBw:=Lib.hid hB1;clear hSA hPA hB1))
 have HV1:=Lib.hid (Rdv.below (Rdv.grown HD.out.v HG1.out (nesome HD.out.nv)) HBw.out)
 have HO1:=Lib.hid (Rdv.below (Rdv.grown HD.out.o HG1.out (nesome HD.out.no)) HBw.out)
 have HI1:=Lib.hid (Rdv.below (Rdv.grown HD.out.i HG1.out (nesome HD.out.ni)) HBw.out)
 have HA0:=Lib.hid (Rdv.below (Rdv.grown HD.out.a HG1.out (nesome HD.out.na)) HBw.out)
 have HP1:=Lib.hid (Rdv.below (Rdv.grown HD.out.p HG1.out (nesome HD.out.np)) HBw.out)
 have HB2:Hid (Blk w1 D 192 [.slice V (3*(k+4)) vc,.slice O k oc,.slice I k ic,.slice A k ac,.slice B bn bc,.int .i64 ((h:Int)+1)]):=Lib.hid (HB1.out.below HBw.out)
 have HG2:Hid (w.grownBy w1 (some D)):=Lib.hid (grown_of_below HG1.out HBw.out)
 have K0:Hid (w1.cell? ⟨D,0,none⟩=some (.slice V (3*(k+4)) vc)):=Lib.hid (HB2.out.cell rfl)
 have K3:Hid (w1.cell? ⟨D,3,none⟩=some (.slice A k ac)):=Lib.hid (HB2.out.cell rfl)
 have HA1:=Lib.hid (fun W (hW:Below w1.heap.size w1 W)=>at_any V SA (3*(k+4)) vc (k+3) sc vs (Tu.sysL k 1) W (Rdv.below HV1.out hW) (Rdv.below HSA.out hW) (by omega) (fun j hj=>(HBD.out j hj).1))
 have HA2:=Lib.hid (fun W (hW:Below w1.heap.size w1 W)=>at_any V PA (3*(k+4)) vc (k+3) pc vs (Tu.parI k 1) W (Rdv.below HV1.out hW) (Rdv.below HPA.out hW) (by omega) (fun j hj=>(HBD.out j hj).2))
 rw [ES.out]at HA1
 rw [EP.out]at HA2
 have HDC:=Lib.hid (fun W (R1 R2:Option Addr) (hW:Below w1.heap.size w1 W) (h1:Rd .i64 W R1 (k+3) (k+3) o.s) (h2:Rd .i64 W R2 (k+3) (k+3) o.p)=>by
  have h3:Rd .i64 W A k ac o.a:=by rw [← EA.out];exact Rdv.below HA0.out hW
  have h4:=decF_any R1 R2 A (k+3) (k+3) ac o W ⟨by rw [EL.out.1];exact h1,by rw [EL.out.2.1];exact h2,by rw [EL.out.2.2];exact h3⟩ HO.out
  rw [EL.out.1,EL.out.2.1,EL.out.2.2]at h4
  exact h4)
 have HS:Hid (Below w1.heap.size w1 w1.drew):=Lib.hid (Below.refl _ _).drew
 clear k5 f5 k50 k00 q1 q2 q3 HSZ HLY
 go_cut [7,8] from 35 to 54 (fun v7 v8 wx=>XP k o w1 v7 v8 wx)
 case first =>
  refine Q_start (fun W=>Below w1.heap.size w1 W) 21 23 ?_
  refine Q_W 0 36 1 (.pointer (some ⟨D,0,none⟩)) rfl HS.out ?_
  simp only [z0,z1,z2]
  refine Q_W 1 37 3 (.pointer (some ⟨D,0,none⟩)) rfl HS.out ?_
  simp only [z0,z1,z2]
  refine Q_W 2 38 7 (.pointer (some ⟨D,0,none⟩)) rfl HS.out ?_
  simp only [z0,z1,z2]
  refine Q_T 3 39 15 (.slice V (3*(k+4)) vc) [16,5] rfl HS.out (.inl ⟨by rfl,fun W hS=>by have h1:=cell_below K0.out hS;go_simp⟩) ?_
  simp only [z0,z1,z2]
  refine Q_W 4 40 31 (.slice SA (k+3) sc) rfl HS.out ?_
  simp only [z0,z1,z2]
  refine Q_W 6 42 95 (.pointer (some ⟨D,0,none⟩)) rfl HS.out ?_
  simp only [z0,z1,z2]
  refine Q_W 7 43 223 (.pointer (some ⟨D,0,none⟩)) rfl HS.out ?_
  simp only [z0,z1,z2]
  refine Q_W 8 44 479 (.pointer (some ⟨D,0,none⟩)) rfl HS.out ?_
  simp only [z0,z1,z2]
  refine Q_T 9 45 991 (.slice V (3*(k+4)) vc) [16,11] rfl HS.out (.inl ⟨by rfl,fun W hS=>by have h1:=cell_below K0.out hS;go_simp⟩) ?_
  simp only [z0,z1,z2]
  refine Q_W 10 46 2015 (.slice PA (k+3) pc) rfl HS.out ?_
  simp only [z0,z1,z2]
  refine Q_W 12 48 6111 (.pointer (some ⟨D,0,none⟩)) rfl HS.out ?_
  simp only [z0,z1,z2]
  refine Q_W 13 49 14303 (.pointer (some ⟨D,0,none⟩)) rfl HS.out ?_
  simp only [z0,z1,z2]
  refine Q_W 14 50 30687 (.pointer (some ⟨D,3,none⟩)) rfl HS.out ?_
  simp only [z0,z1,z2]
  refine Q_T 15 51 63455 (.slice A k ac) [16] rfl HS.out (.inl ⟨by rfl,fun W hS=>by have h1:=cell_below K3.out hS;go_simp⟩) ?_
  simp only [z0,z1,z2]
  generalize w1.drew=wd at *
  refine Q_2S 5 20 63487 1112031 rfl rfl (fun K hK=>?_) (fun K hK=>?_)
  · go_simp
    refine(HA1.out wd HS.out).mono ?_
    rintro e wdc ⟨R1,rfl,hR1,hB1⟩
    have HR1:=Lib.hid (Own.rd hR1)
    have HSc:=Lib.hid (HS.out.trans (hB1.mono HS.out.size))
    clear hB1 hR1
    refine hK _ _ HSc.out ?_
    clear hK K
    refine Q_2S 11 20 65535 1112063 rfl rfl (fun K hK=>?_) (fun K hK=>?_)
    · go_simp
      refine(HA2.out wdc HSc.out).mono ?_
      rintro e wdcc ⟨R2,rfl,hR2,hB1⟩
      have HR1:=Lib.hid (Rdv.below HR1.out hB1)
      have HR2:=Lib.hid (Own.rd hR2)
      have HScc:=Lib.hid (HSc.out.trans (hB1.mono HSc.out.size))
      clear hB1 hR2
      refine hK _ _ HScc.out ?_
      clear hK K
      refine Q_2S 16 20 131071 1114111 rfl rfl (fun K hK=>?_) (fun K hK=>?_)
      · go_simp
        have HBS:=Lib.hid HScc.out.size
        refine(HDC.out wdcc R1 R2 HScc.out HR1.out HR2.out).mono ?_
        rintro e wdccc ⟨A1,A2,A3,rfl,hR1,hR2,hB1⟩
        have HR1:=Lib.hid hR1
        have HR2:=Lib.hid hR2
        have HSccc:=Lib.hid (HScc.out.trans (hB1.mono HScc.out.size))
        clear hB1 hR1 hR2
        refine hK _ _ HSccc.out ?_
        clear hK K
        refine Q_W 17 35 262143 (.tuple #[.agg #[.slice A1 k k,.slice A2 k k,.slice A3 k k],.int .i64 0]) rfl HSccc.out ?_
        simp only [z0,z1,z2]
        refine Q_W 18 53 524287 (.agg #[.slice A1 k k,.slice A2 k k,.slice A3 k k]) rfl HSccc.out ?_
        simp only [z0,z1,z2]
        refine Q_W 19 54 1048575 (.int .i64 0) rfl HSccc.out ?_
        simp only [z0,z1,z2]
        refine Q_1S 20 2097151 rfl (fun K hK=>?_)
        go_simp
        have HX:Hid (Blk (wdccc.alloc (.cells #[.slice none 0 0,.slice none 0 0,.slice none 0 0] 229)) wdccc.heap.size 229 [.slice none 0 0,.slice none 0 0,.slice none 0 0]):=Lib.hid (Blk.new wdccc _ 229 rfl)
        have HXB:=Lib.hid (HSccc.out.size)
        have HR1:=Lib.hid (Ownv.alloc HR1.out (.cells #[.slice none 0 0,.slice none 0 0,.slice none 0 0] 229))
        have HR2:=Lib.hid (Ownv.alloc HR2.out (.cells #[.slice none 0 0,.slice none 0 0,.slice none 0 0] 229))
        have HSccca:=Lib.hid (HSccc.out.alloc HSccc.out.size (.cells #[.slice none 0 0,.slice none 0 0,.slice none 0 0] 229))
        obtain⟨XB,hXB⟩:∃ XB,XB=wdccc.heap.size:=⟨_,rfl⟩
        rw [← hXB]at HX HXB ⊢
        obtain⟨wa,hwa⟩:∃ wa,wa=(wdccc.alloc (.cells #[.slice none 0 0,.slice none 0 0,.slice none 0 0] 229)):=⟨_,rfl⟩
        rw [← hwa]at HX HSccca HR1 HR2 ⊢
        clear hXB hwa
        refine hK _ _ HSccca.out ?_
        clear hK K
        refine Q_1 21 4194303 rfl (fun K hK=>?_)
        refine wp_strow (cs:=[.slice A1 k k,.slice A2 k k,.slice A3 k k]) 229 (.tmp 7) (.tmp 53) rfl rfl rfl HX.out rfl (by kernel_rfl) (by simp [Value.oneCell']) ?_
        intro wz g1 g2
        have HF:Hid (XP k o w1 (.pointer (some ⟨XB,0,none⟩)) (.int .i64 0) wz):=Lib.hid ⟨rfl,XB,A1,A2,A3,rfl,g1,Rdv.grown (Own.rd HR1.out) g2 (own_ne_blk HR1.out HX.out (by decide)),Rdv.grown (Own.rd HR2.out) g2 (own_ne_blk HR2.out HX.out (by decide)),fun hA=>Nat.le_trans HBS.out (Ownv.blk_ge HR2.out hk0).1,HSccca.out.grown g2 HSccca.out.size (fun j e=>by cases e;exact HXB.out)⟩
        refine hK _ _ ?_
        clear hK K
        refine Q_1 22 8388607 rfl (fun K hK=>?_)
        go_simp
        refine hK _ _ ?_
        clear hK K
        refine Q_end ?_
        go_wp2_with fail
        go_meet
        exact HF.out
      · go_simp
        have HX:Hid (Blk (wdcc.alloc (.cells #[.slice none 0 0,.slice none 0 0,.slice none 0 0] 229)) wdcc.heap.size 229 [.slice none 0 0,.slice none 0 0,.slice none 0 0]):=Lib.hid (Blk.new wdcc _ 229 rfl)
        have HXB:=Lib.hid (HScc.out.size)
        have HR1:=Lib.hid (Rdv.alloc HR1.out (.cells #[.slice none 0 0,.slice none 0 0,.slice none 0 0] 229))
        have HR2:=Lib.hid (Rdv.alloc HR2.out (.cells #[.slice none 0 0,.slice none 0 0,.slice none 0 0] 229))
        have HScca:=Lib.hid (HScc.out.alloc HScc.out.size (.cells #[.slice none 0 0,.slice none 0 0,.slice none 0 0] 229))
        obtain⟨XB,hXB⟩:∃ XB,XB=wdcc.heap.size:=⟨_,rfl⟩
        rw [← hXB]at HX HXB ⊢
        obtain⟨wa,hwa⟩:∃ wa,wa=(wdcc.alloc (.cells #[.slice none 0 0,.slice none 0 0,.slice none 0 0] 229)):=⟨_,rfl⟩
        rw [← hwa]at HX HScca HR1 HR2 ⊢
        clear hXB hwa
        refine hK _ _ HScca.out ?_
        clear hK K
        refine Q_1S 16 1179647 rfl (fun K hK=>?_)
        go_simp
        have HBS:=Lib.hid HScca.out.size
        refine(HDC.out wa R1 R2 HScca.out HR1.out HR2.out).mono ?_
        rintro e wac ⟨A1,A2,A3,rfl,hR1,hR2,hB1⟩
        have HR1:=Lib.hid hR1
        have HR2:=Lib.hid hR2
        have HX:=Lib.hid (HX.out.below hB1)
        have HSccac:=Lib.hid (HScca.out.trans (hB1.mono HScca.out.size))
        clear hB1 hR1 hR2
        refine hK _ _ HSccac.out ?_
        clear hK K
        refine Q_W 17 35 1310719 (.tuple #[.agg #[.slice A1 k k,.slice A2 k k,.slice A3 k k],.int .i64 0]) rfl HSccac.out ?_
        simp only [z0,z1,z2]
        refine Q_W 18 53 1572863 (.agg #[.slice A1 k k,.slice A2 k k,.slice A3 k k]) rfl HSccac.out ?_
        simp only [z0,z1,z2]
        refine Q_W 19 54 2097151 (.int .i64 0) rfl HSccac.out ?_
        simp only [z0,z1,z2]
        refine Q_1 21 4194303 rfl (fun K hK=>?_)
        refine wp_strow (cs:=[.slice A1 k k,.slice A2 k k,.slice A3 k k]) 229 (.tmp 7) (.tmp 53) rfl rfl rfl HX.out rfl (by kernel_rfl) (by simp [Value.oneCell']) ?_
        intro wz g1 g2
        have HF:Hid (XP k o w1 (.pointer (some ⟨XB,0,none⟩)) (.int .i64 0) wz):=Lib.hid ⟨rfl,XB,A1,A2,A3,rfl,g1,Rdv.grown (Own.rd HR1.out) g2 (own_ne_blk HR1.out HX.out (by decide)),Rdv.grown (Own.rd HR2.out) g2 (own_ne_blk HR2.out HX.out (by decide)),fun hA=>Nat.le_trans HBS.out (Ownv.blk_ge HR2.out hk0).1,HSccac.out.grown g2 HSccac.out.size (fun j e=>by cases e;exact HXB.out)⟩
        refine hK _ _ ?_
        clear hK K
        refine Q_1 22 8388607 rfl (fun K hK=>?_)
        go_simp
        refine hK _ _ ?_
        clear hK K
        refine Q_end ?_
        go_wp2_with fail
        go_meet
        exact HF.out
    · go_simp
      have HX:Hid (Blk (wdc.alloc (.cells #[.slice none 0 0,.slice none 0 0,.slice none 0 0] 229)) wdc.heap.size 229 [.slice none 0 0,.slice none 0 0,.slice none 0 0]):=Lib.hid (Blk.new wdc _ 229 rfl)
      have HXB:=Lib.hid (HSc.out.size)
      have HR1:=Lib.hid (Rdv.alloc HR1.out (.cells #[.slice none 0 0,.slice none 0 0,.slice none 0 0] 229))
      have HSca:=Lib.hid (HSc.out.alloc HSc.out.size (.cells #[.slice none 0 0,.slice none 0 0,.slice none 0 0] 229))
      obtain⟨XB,hXB⟩:∃ XB,XB=wdc.heap.size:=⟨_,rfl⟩
      rw [← hXB]at HX HXB ⊢
      obtain⟨wa,hwa⟩:∃ wa,wa=(wdc.alloc (.cells #[.slice none 0 0,.slice none 0 0,.slice none 0 0] 229)):=⟨_,rfl⟩
      rw [← hwa]at HX HSca HR1 ⊢
      clear hXB hwa
      refine hK _ _ HSca.out ?_
      clear hK K
      refine Q_1S 11 1114111 rfl (fun K hK=>?_)
      go_simp
      refine(HA2.out wa HSca.out).mono ?_
      rintro e wac ⟨R2,rfl,hR2,hB1⟩
      have HR1:=Lib.hid (Rdv.below HR1.out hB1)
      have HR2:=Lib.hid (Own.rd hR2)
      have HX:=Lib.hid (HX.out.below hB1)
      have HScac:=Lib.hid (HSca.out.trans (hB1.mono HSca.out.size))
      clear hB1 hR2
      refine hK _ _ HScac.out ?_
      clear hK K
      refine Q_1S 16 1179647 rfl (fun K hK=>?_)
      go_simp
      have HBS:=Lib.hid HScac.out.size
      refine(HDC.out wac R1 R2 HScac.out HR1.out HR2.out).mono ?_
      rintro e wacc ⟨A1,A2,A3,rfl,hR1,hR2,hB1⟩
      have HR1:=Lib.hid hR1
      have HR2:=Lib.hid hR2
      have HX:=Lib.hid (HX.out.below hB1)
      have HScacc:=Lib.hid (HScac.out.trans (hB1.mono HScac.out.size))
      clear hB1 hR1 hR2
      refine hK _ _ HScacc.out ?_
      clear hK K
      refine Q_W 17 35 1310719 (.tuple #[.agg #[.slice A1 k k,.slice A2 k k,.slice A3 k k],.int .i64 0]) rfl HScacc.out ?_
      simp only [z0,z1,z2]
      refine Q_W 18 53 1572863 (.agg #[.slice A1 k k,.slice A2 k k,.slice A3 k k]) rfl HScacc.out ?_
      simp only [z0,z1,z2]
      refine Q_W 19 54 2097151 (.int .i64 0) rfl HScacc.out ?_
      simp only [z0,z1,z2]
      refine Q_1 21 4194303 rfl (fun K hK=>?_)
      refine wp_strow (cs:=[.slice A1 k k,.slice A2 k k,.slice A3 k k]) 229 (.tmp 7) (.tmp 53) rfl rfl rfl HX.out rfl (by kernel_rfl) (by simp [Value.oneCell']) ?_
      intro wz g1 g2
      have HF:Hid (XP k o w1 (.pointer (some ⟨XB,0,none⟩)) (.int .i64 0) wz):=Lib.hid ⟨rfl,XB,A1,A2,A3,rfl,g1,Rdv.grown (Own.rd HR1.out) g2 (own_ne_blk HR1.out HX.out (by decide)),Rdv.grown (Own.rd HR2.out) g2 (own_ne_blk HR2.out HX.out (by decide)),fun hA=>Nat.le_trans HBS.out (Ownv.blk_ge HR2.out hk0).1,HScacc.out.grown g2 HScacc.out.size (fun j e=>by cases e;exact HXB.out)⟩
      refine hK _ _ ?_
      clear hK K
      refine Q_1 22 8388607 rfl (fun K hK=>?_)
      go_simp
      refine hK _ _ ?_
      clear hK K
      refine Q_end ?_
      go_wp2_with fail
      go_meet
      exact HF.out
  · go_simp
    have HX:Hid (Blk (wd.alloc (.cells #[.slice none 0 0,.slice none 0 0,.slice none 0 0] 229)) wd.heap.size 229 [.slice none 0 0,.slice none 0 0,.slice none 0 0]):=Lib.hid (Blk.new wd _ 229 rfl)
    have HXB:=Lib.hid (HS.out.size)
    have HSa:=Lib.hid (HS.out.alloc HS.out.size (.cells #[.slice none 0 0,.slice none 0 0,.slice none 0 0] 229))
    obtain⟨XB,hXB⟩:∃ XB,XB=wd.heap.size:=⟨_,rfl⟩
    rw [← hXB]at HX HXB ⊢
    obtain⟨wa,hwa⟩:∃ wa,wa=(wd.alloc (.cells #[.slice none 0 0,.slice none 0 0,.slice none 0 0] 229)):=⟨_,rfl⟩
    rw [← hwa]at HX HSa ⊢
    clear hXB hwa
    refine hK _ _ HSa.out ?_
    clear hK K
    refine Q_1S 5 1112063 rfl (fun K hK=>?_)
    go_simp
    refine(HA1.out wa HSa.out).mono ?_
    rintro e wac ⟨R1,rfl,hR1,hB1⟩
    have HR1:=Lib.hid (Own.rd hR1)
    have HX:=Lib.hid (HX.out.below hB1)
    have HSac:=Lib.hid (HSa.out.trans (hB1.mono HSa.out.size))
    clear hB1 hR1
    refine hK _ _ HSac.out ?_
    clear hK K
    refine Q_1S 11 1114111 rfl (fun K hK=>?_)
    go_simp
    refine(HA2.out wac HSac.out).mono ?_
    rintro e wacc ⟨R2,rfl,hR2,hB1⟩
    have HR1:=Lib.hid (Rdv.below HR1.out hB1)
    have HR2:=Lib.hid (Own.rd hR2)
    have HX:=Lib.hid (HX.out.below hB1)
    have HSacc:=Lib.hid (HSac.out.trans (hB1.mono HSac.out.size))
    clear hB1 hR2
    refine hK _ _ HSacc.out ?_
    clear hK K
    refine Q_1S 16 1179647 rfl (fun K hK=>?_)
    go_simp
    have HBS:=Lib.hid HSacc.out.size
    refine(HDC.out wacc R1 R2 HSacc.out HR1.out HR2.out).mono ?_
    rintro e waccc ⟨A1,A2,A3,rfl,hR1,hR2,hB1⟩
    have HR1:=Lib.hid hR1
    have HR2:=Lib.hid hR2
    have HX:=Lib.hid (HX.out.below hB1)
    have HSaccc:=Lib.hid (HSacc.out.trans (hB1.mono HSacc.out.size))
    clear hB1 hR1 hR2
    refine hK _ _ HSaccc.out ?_
    clear hK K
    refine Q_W 17 35 1310719 (.tuple #[.agg #[.slice A1 k k,.slice A2 k k,.slice A3 k k],.int .i64 0]) rfl HSaccc.out ?_
    simp only [z0,z1,z2]
    refine Q_W 18 53 1572863 (.agg #[.slice A1 k k,.slice A2 k k,.slice A3 k k]) rfl HSaccc.out ?_
    simp only [z0,z1,z2]
    refine Q_W 19 54 2097151 (.int .i64 0) rfl HSaccc.out ?_
    simp only [z0,z1,z2]
    refine Q_1 21 4194303 rfl (fun K hK=>?_)
    refine wp_strow (cs:=[.slice A1 k k,.slice A2 k k,.slice A3 k k]) 229 (.tmp 7) (.tmp 53) rfl rfl rfl HX.out rfl (by kernel_rfl) (by simp [Value.oneCell']) ?_
    intro wz g1 g2
    have HF:Hid (XP k o w1 (.pointer (some ⟨XB,0,none⟩)) (.int .i64 0) wz):=Lib.hid ⟨rfl,XB,A1,A2,A3,rfl,g1,Rdv.grown (Own.rd HR1.out) g2 (own_ne_blk HR1.out HX.out (by decide)),Rdv.grown (Own.rd HR2.out) g2 (own_ne_blk HR2.out HX.out (by decide)),fun hA=>Nat.le_trans HBS.out (Ownv.blk_ge HR2.out hk0).1,HSaccc.out.grown g2 HSaccc.out.size (fun j e=>by cases e;exact HXB.out)⟩
    refine hK _ _ ?_
    clear hK K
    refine Q_1 22 8388607 rfl (fun K hK=>?_)
    go_simp
    refine hK _ _ ?_
    clear hK K
    refine Q_end ?_
    go_wp2_with fail
    go_meet
    exact HF.out
 case rest =>
  obtain⟨rfl,X,A1,A2,A3,rfl,hX,hE,hBb,hF,hB⟩:=hcut
  have HX:=Lib.hid hX
  have HE:=Lib.hid hE
  have HBb:=Lib.hid hBb
  have HF:=Lib.hid hF
  have HBc:=Lib.hid hB
  have HDc:=Lib.hid (HB2.out.below hB)
  have kL:=HDc.out.cell (j:=1) (v:=.slice O k oc) rfl
  have HPK:=Lib.hid (pickedI_any (.pointer (some ⟨X,0,none⟩)) (fun i=>gi o.dE i.toNat) O k oc (Tu.ordL k) wc (Rdv.below HO1.out hB) (by omega) (fun j hj wr hW=>nx2_any X k A2 o.dE _ wr (Rdv.below HE.out hW) (cell_below (HX.out.cell rfl) hW) (ord_bd hk0 _ (gi_mem _ j (by rw [Tu.ordL_len];exact hj)))))
  clear hX hE hBb hF hB HDC HA1 HA2 HS
  go_wp2_with fail
  refine HPK.out.mono ?_
  rintro e w3 ⟨A',rfl,hO',hB3⟩
  have HO':=Lib.hid hO'
  have HB3:=Lib.hid hB3
  have HD3:=Lib.hid (HDc.out.below hB3)
  have k3:=HD3.out.cell (j:=3) (v:=.slice A k ac) rfl
  have f3:=HD3.out.frozen 3
  have HX3:=Lib.hid (HX.out.below hB3)
  have hne:X≠D:=Blk.ne HX3.out HD3.out (by decide)
  have HX4:Hid (Blk (w3.setCell ⟨D,3,none⟩ (.slice A' k k)) X 229 [.slice A1 k k,.slice A2 k k,.slice A3 k k]):=Lib.hid (HX3.out.other (fun e=>hne e.symm) 3 _)
  have kX:=HX4.out.cell (j:=2) (v:=.slice A3 k k) rfl
  have HD4:Hid (Blk (w3.setCell ⟨D,3,none⟩ (.slice A' k k)) D 192 [.slice V (3*(k+4)) vc,.slice O k oc,.slice I k ic,.slice A' k k,.slice B bn bc,.int .i64 ((h:Int)+1)]):=Lib.hid (HD3.out.set 3 _)
  have hg4:w3.grownBy (w3.setCell ⟨D,3,none⟩ (.slice A' k k)) (some D):=grownBy_set _ _ _ _
  have hDlt:=HB2.out.lt
  have hDc:=HDc.out.lt
  have hA3:A3≠none→blk A3≠D:=fun hA=>by have:=HF.out hA;omega
  have hA':A'≠none→blk A'≠D:=fun hA=>by have:=(Ownv.blk_ge HO'.out hk0).1;omega
  have hr:∀ {X:Option Addr} {n c:Nat} {xs:List Value},Rdv w1 X n c xs→(X≠none→blk X≠D)→Rdv (w3.setCell ⟨D,3,none⟩ (.slice A' k k)) X n c xs:=fun h1 h2=>Rdv.grown (Rdv.below (Rdv.below h1 HBc.out) HB3.out) hg4 (nesome h2)
  have HDS:Hid (DS (w3.setCell ⟨D,3,none⟩ (.slice A' k k)) D k vs (pk o.dE (bkL k 1)) bs (h+1) V vc O oc I ic A' k B bn bc):=Lib.hid ⟨HD4.out,hr HV1.out HD.out.nv,hr HO1.out HD.out.no,hr HI1.out HD.out.ni,Rdv.grown (Own.rd HO'.out) hg4 (nesome hA'),hr HP1.out HD.out.np,HD.out.nv,HD.out.no,HD.out.ni,hA',HD.out.np⟩
  have HB4:Hid (Rd .u8 (w3.setCell ⟨D,3,none⟩ (.slice A' k k)) A3 k k o.dB):=Lib.hid (Rdv.grown (Rdv.below HBb.out HB3.out) hg4 (nesome hA3))
  have HA3:Hid (A3≠none→w.heap.size≤blk A3):=Lib.hid (fun hA=>Nat.le_trans HG2.out.size (HF.out hA))
  have HG4:=Lib.hid (grown_same (grown_of_below (grown_of_below HG2.out HBc.out) HB3.out) hg4)
  clear hr hg4 hDlt hDc hA3 hA' hne
  go_wp2
  go_ret
  exact⟨A3,k,A',k,rfl,by rw [if_pos rfl];exact HB4.out,HA3.out,HDS.out,HG4.out⟩
theorem next2_any(D k h:Nat)(vs a bs:List Int)(V:Option Addr)(vc:Nat)(O:Option Addr)(oc:Nat)(I:Option Addr)(ic:Nat)(A:Option Addr)(ac:Nat)(B:Option Addr)(bn bc:Nat)(w:World)(hs:DS w D k vs a bs h V vc O oc I ic A ac B bn bc)(hv:Tu.validK (k:Int)=true)(ho:(obH vs k 2 a).ok)
 (hbd:∀ j,j<k+3→(0≤gi (Tu.sysL k 2) j∧gi (Tu.sysL k 2) j<((3*(k+4):Nat):Int))∧(0≤gi (Tu.parI k 2) j∧gi (Tu.parI k 2) j<((3*(k+4):Nat):Int))) (hh:h≤1000) (hpar:(h+1) % 2=0) :
 Calls Tryz.prog 123 #[.pointer (some ⟨D,0,none⟩)] w (NxP k D vs bs (obH vs k 2 a) 2 h V vc O oc I ic B bn bc w):=by
 have hk:=Tu.valid_bd hv
 have hal:a.length=k:=Rd.len hs.a
 generalize hoo:obH vs k 2 a=o at *
 have els:o.s.length=k+3:=by rw [← hoo];show(pk _ _).length=_;rw [pk_len,sys_len]
 have elp:o.p.length=k+3:=by rw [← hoo];show(pk _ _).length=_;rw [pk_len,par_len]
 have ela:o.a.length=k:=by rw [← hoo];exact hal
 have ES:=Lib.hid (show pk vs (Tu.sysL k 2)=o.s by rw [← hoo];rfl)
 have EP:=Lib.hid (show pk vs (Tu.parI k 2)=o.p by rw [← hoo];rfl)
 have EA:=Lib.hid (show a=o.a by rw [← hoo];rfl)
 have EL:=Lib.hid (And.intro els (And.intro elp ela))
 clear hoo els elp ela
 have hk0:0<k:=by omega
 have hvl:(((3*(k+4):Nat):Int)) / 3 - 4=(k:Int):=by omega
 have HSZ:=Lib.hid (fun W=>size_any V (3*(k+4)) vc W (by omega))
 rw [hvl]at HSZ
 have HLY:=Lib.hid (fun W=>Tu.lay_any k 2 W hv (by omega))
 have HBD:=Lib.hid hbd
 have HO:=Lib.hid ho
 have HD:=Lib.hid hs
 have hb0:=hs.b
 have k5:=hb0.cell (j:=5) (v:=.int .i64 (h:Int)) rfl
 have f5:=hb0.frozen 5
 have HG1:Hid (w.grownBy (w.setCell ⟨D,5,none⟩ (.int .i64 ((h:Int)+1))) (some D)):=Lib.hid (grownBy_set _ _ _ _)
 have hb1:=hb0.set 5 (.int .i64 ((h:Int)+1))
 have HB1:=Lib.hid hb1
 have k50:=hb1.cell (j:=5) (v:=.int .i64 ((h:Int)+1)) rfl
 have k00:=hb1.cell (j:=0) (v:=.slice V (3*(k+4)) vc) rfl
 have q1:IntKind.i64.wrap ((h:Int)+1)=(h:Int)+1:=by rw [IntKind.wrap_i64];omega
 have q2:((h:Int)+1).tmod 2=0:=by rw [Int.tmod_eq_emod_of_nonneg (by omega)];omega
 have q3:((h:Int)+1) % 2=0:=by omega
 clear hpar hs hbd ho hb0 hb1 hv hal hvl
 go_enter Tryz.func123,Tryz.ntmps123
 go_wp2_with (first
  | (go_at_call 166;refine(HSZ.out _).mono ?_;rintro e w0 ⟨rfl,rfl⟩)
  | (go_at_call 170;refine(HLY.out _).mono ?_;rintro e w1 ⟨SA,sc,PA,pc,rfl,hSA,hPA,hB1⟩;have HSA:=Lib.hid (Own.rd hSA);have HPA:=Lib.hid (Own.rd hPA);have HBw:=Lib.hid hB1;clear hSA hPA hB1))
 have HV1:=Lib.hid (Rdv.below (Rdv.grown HD.out.v HG1.out (nesome HD.out.nv)) HBw.out)
 have HO1:=Lib.hid (Rdv.below (Rdv.grown HD.out.o HG1.out (nesome HD.out.no)) HBw.out)
 have HI1:=Lib.hid (Rdv.below (Rdv.grown HD.out.i HG1.out (nesome HD.out.ni)) HBw.out)
 have HA0:=Lib.hid (Rdv.below (Rdv.grown HD.out.a HG1.out (nesome HD.out.na)) HBw.out)
 have HP1:=Lib.hid (Rdv.below (Rdv.grown HD.out.p HG1.out (nesome HD.out.np)) HBw.out)
 have HB2:Hid (Blk w1 D 192 [.slice V (3*(k+4)) vc,.slice O k oc,.slice I k ic,.slice A k ac,.slice B bn bc,.int .i64 ((h:Int)+1)]):=Lib.hid (HB1.out.below HBw.out)
 have HG2:Hid (w.grownBy w1 (some D)):=Lib.hid (grown_of_below HG1.out HBw.out)
 have K0:Hid (w1.cell? ⟨D,0,none⟩=some (.slice V (3*(k+4)) vc)):=Lib.hid (HB2.out.cell rfl)
 have K3:Hid (w1.cell? ⟨D,3,none⟩=some (.slice A k ac)):=Lib.hid (HB2.out.cell rfl)
 have HA1:=Lib.hid (fun W (hW:Below w1.heap.size w1 W)=>at_any V SA (3*(k+4)) vc (k+3) sc vs (Tu.sysL k 2) W (Rdv.below HV1.out hW) (Rdv.below HSA.out hW) (by omega) (fun j hj=>(HBD.out j hj).1))
 have HA2:=Lib.hid (fun W (hW:Below w1.heap.size w1 W)=>at_any V PA (3*(k+4)) vc (k+3) pc vs (Tu.parI k 2) W (Rdv.below HV1.out hW) (Rdv.below HPA.out hW) (by omega) (fun j hj=>(HBD.out j hj).2))
 rw [ES.out]at HA1
 rw [EP.out]at HA2
 have HDC:=Lib.hid (fun W (R1 R2:Option Addr) (hW:Below w1.heap.size w1 W) (h1:Rd .i64 W R1 (k+3) (k+3) o.s) (h2:Rd .i64 W R2 (k+3) (k+3) o.p)=>by
  have h3:Rd .i64 W A k ac o.a:=by rw [← EA.out];exact Rdv.below HA0.out hW
  have h4:=decF_any R1 R2 A (k+3) (k+3) ac o W ⟨by rw [EL.out.1];exact h1,by rw [EL.out.2.1];exact h2,by rw [EL.out.2.2];exact h3⟩ HO.out
  rw [EL.out.1,EL.out.2.1,EL.out.2.2]at h4
  exact h4)
 have HS:Hid (Below w1.heap.size w1 w1.drew):=Lib.hid (Below.refl _ _).drew
 clear k5 f5 k50 k00 q1 q2 q3 HSZ HLY
 go_cut [7,8] from 35 to 54 (fun v7 v8 wx=>XP k o w1 v7 v8 wx)
 case first =>
  refine Q_start (fun W=>Below w1.heap.size w1 W) 21 23 ?_
  refine Q_W 0 36 1 (.pointer (some ⟨D,0,none⟩)) rfl HS.out ?_
  simp only [z0,z1,z2]
  refine Q_W 1 37 3 (.pointer (some ⟨D,0,none⟩)) rfl HS.out ?_
  simp only [z0,z1,z2]
  refine Q_W 2 38 7 (.pointer (some ⟨D,0,none⟩)) rfl HS.out ?_
  simp only [z0,z1,z2]
  refine Q_T 3 39 15 (.slice V (3*(k+4)) vc) [16,5] rfl HS.out (.inl ⟨by rfl,fun W hS=>by have h1:=cell_below K0.out hS;go_simp⟩) ?_
  simp only [z0,z1,z2]
  refine Q_W 4 40 31 (.slice SA (k+3) sc) rfl HS.out ?_
  simp only [z0,z1,z2]
  refine Q_W 6 42 95 (.pointer (some ⟨D,0,none⟩)) rfl HS.out ?_
  simp only [z0,z1,z2]
  refine Q_W 7 43 223 (.pointer (some ⟨D,0,none⟩)) rfl HS.out ?_
  simp only [z0,z1,z2]
  refine Q_W 8 44 479 (.pointer (some ⟨D,0,none⟩)) rfl HS.out ?_
  simp only [z0,z1,z2]
  refine Q_T 9 45 991 (.slice V (3*(k+4)) vc) [16,11] rfl HS.out (.inl ⟨by rfl,fun W hS=>by have h1:=cell_below K0.out hS;go_simp⟩) ?_
  simp only [z0,z1,z2]
  refine Q_W 10 46 2015 (.slice PA (k+3) pc) rfl HS.out ?_
  simp only [z0,z1,z2]
  refine Q_W 12 48 6111 (.pointer (some ⟨D,0,none⟩)) rfl HS.out ?_
  simp only [z0,z1,z2]
  refine Q_W 13 49 14303 (.pointer (some ⟨D,0,none⟩)) rfl HS.out ?_
  simp only [z0,z1,z2]
  refine Q_W 14 50 30687 (.pointer (some ⟨D,3,none⟩)) rfl HS.out ?_
  simp only [z0,z1,z2]
  refine Q_T 15 51 63455 (.slice A k ac) [16] rfl HS.out (.inl ⟨by rfl,fun W hS=>by have h1:=cell_below K3.out hS;go_simp⟩) ?_
  simp only [z0,z1,z2]
  generalize w1.drew=wd at *
  refine Q_2S 5 20 63487 1112031 rfl rfl (fun K hK=>?_) (fun K hK=>?_)
  · go_simp
    refine(HA1.out wd HS.out).mono ?_
    rintro e wdc ⟨R1,rfl,hR1,hB1⟩
    have HR1:=Lib.hid (Own.rd hR1)
    have HSc:=Lib.hid (HS.out.trans (hB1.mono HS.out.size))
    clear hB1 hR1
    refine hK _ _ HSc.out ?_
    clear hK K
    refine Q_2S 11 20 65535 1112063 rfl rfl (fun K hK=>?_) (fun K hK=>?_)
    · go_simp
      refine(HA2.out wdc HSc.out).mono ?_
      rintro e wdcc ⟨R2,rfl,hR2,hB1⟩
      have HR1:=Lib.hid (Rdv.below HR1.out hB1)
      have HR2:=Lib.hid (Own.rd hR2)
      have HScc:=Lib.hid (HSc.out.trans (hB1.mono HSc.out.size))
      clear hB1 hR2
      refine hK _ _ HScc.out ?_
      clear hK K
      refine Q_2S 16 20 131071 1114111 rfl rfl (fun K hK=>?_) (fun K hK=>?_)
      · go_simp
        have HBS:=Lib.hid HScc.out.size
        refine(HDC.out wdcc R1 R2 HScc.out HR1.out HR2.out).mono ?_
        rintro e wdccc ⟨A1,A2,A3,rfl,hR1,hR2,hB1⟩
        have HR1:=Lib.hid hR1
        have HR2:=Lib.hid hR2
        have HSccc:=Lib.hid (HScc.out.trans (hB1.mono HScc.out.size))
        clear hB1 hR1 hR2
        refine hK _ _ HSccc.out ?_
        clear hK K
        refine Q_W 17 35 262143 (.tuple #[.agg #[.slice A1 k k,.slice A2 k k,.slice A3 k k],.int .i64 0]) rfl HSccc.out ?_
        simp only [z0,z1,z2]
        refine Q_W 18 53 524287 (.agg #[.slice A1 k k,.slice A2 k k,.slice A3 k k]) rfl HSccc.out ?_
        simp only [z0,z1,z2]
        refine Q_W 19 54 1048575 (.int .i64 0) rfl HSccc.out ?_
        simp only [z0,z1,z2]
        refine Q_1S 20 2097151 rfl (fun K hK=>?_)
        go_simp
        have HX:Hid (Blk (wdccc.alloc (.cells #[.slice none 0 0,.slice none 0 0,.slice none 0 0] 229)) wdccc.heap.size 229 [.slice none 0 0,.slice none 0 0,.slice none 0 0]):=Lib.hid (Blk.new wdccc _ 229 rfl)
        have HXB:=Lib.hid (HSccc.out.size)
        have HR1:=Lib.hid (Ownv.alloc HR1.out (.cells #[.slice none 0 0,.slice none 0 0,.slice none 0 0] 229))
        have HR2:=Lib.hid (Ownv.alloc HR2.out (.cells #[.slice none 0 0,.slice none 0 0,.slice none 0 0] 229))
        have HSccca:=Lib.hid (HSccc.out.alloc HSccc.out.size (.cells #[.slice none 0 0,.slice none 0 0,.slice none 0 0] 229))
        obtain⟨XB,hXB⟩:∃ XB,XB=wdccc.heap.size:=⟨_,rfl⟩
        rw [← hXB]at HX HXB ⊢
        obtain⟨wa,hwa⟩:∃ wa,wa=(wdccc.alloc (.cells #[.slice none 0 0,.slice none 0 0,.slice none 0 0] 229)):=⟨_,rfl⟩
        rw [← hwa]at HX HSccca HR1 HR2 ⊢
        clear hXB hwa
        refine hK _ _ HSccca.out ?_
        clear hK K
        refine Q_1 21 4194303 rfl (fun K hK=>?_)
        refine wp_strow (cs:=[.slice A1 k k,.slice A2 k k,.slice A3 k k]) 229 (.tmp 7) (.tmp 53) rfl rfl rfl HX.out rfl (by kernel_rfl) (by simp [Value.oneCell']) ?_
        intro wz g1 g2
        have HF:Hid (XP k o w1 (.pointer (some ⟨XB,0,none⟩)) (.int .i64 0) wz):=Lib.hid ⟨rfl,XB,A1,A2,A3,rfl,g1,Rdv.grown (Own.rd HR1.out) g2 (own_ne_blk HR1.out HX.out (by decide)),Rdv.grown (Own.rd HR2.out) g2 (own_ne_blk HR2.out HX.out (by decide)),fun hA=>Nat.le_trans HBS.out (Ownv.blk_ge HR2.out hk0).1,HSccca.out.grown g2 HSccca.out.size (fun j e=>by cases e;exact HXB.out)⟩
        refine hK _ _ ?_
        clear hK K
        refine Q_1 22 8388607 rfl (fun K hK=>?_)
        go_simp
        refine hK _ _ ?_
        clear hK K
        refine Q_end ?_
        go_wp2_with fail
        go_meet
        exact HF.out
      · go_simp
        have HX:Hid (Blk (wdcc.alloc (.cells #[.slice none 0 0,.slice none 0 0,.slice none 0 0] 229)) wdcc.heap.size 229 [.slice none 0 0,.slice none 0 0,.slice none 0 0]):=Lib.hid (Blk.new wdcc _ 229 rfl)
        have HXB:=Lib.hid (HScc.out.size)
        have HR1:=Lib.hid (Rdv.alloc HR1.out (.cells #[.slice none 0 0,.slice none 0 0,.slice none 0 0] 229))
        have HR2:=Lib.hid (Rdv.alloc HR2.out (.cells #[.slice none 0 0,.slice none 0 0,.slice none 0 0] 229))
        have HScca:=Lib.hid (HScc.out.alloc HScc.out.size (.cells #[.slice none 0 0,.slice none 0 0,.slice none 0 0] 229))
        obtain⟨XB,hXB⟩:∃ XB,XB=wdcc.heap.size:=⟨_,rfl⟩
        rw [← hXB]at HX HXB ⊢
        obtain⟨wa,hwa⟩:∃ wa,wa=(wdcc.alloc (.cells #[.slice none 0 0,.slice none 0 0,.slice none 0 0] 229)):=⟨_,rfl⟩
        rw [← hwa]at HX HScca HR1 HR2 ⊢
        clear hXB hwa
        refine hK _ _ HScca.out ?_
        clear hK K
        refine Q_1S 16 1179647 rfl (fun K hK=>?_)
        go_simp
        have HBS:=Lib.hid HScca.out.size
        refine(HDC.out wa R1 R2 HScca.out HR1.out HR2.out).mono ?_
        rintro e wac ⟨A1,A2,A3,rfl,hR1,hR2,hB1⟩
        have HR1:=Lib.hid hR1
        have HR2:=Lib.hid hR2
        have HX:=Lib.hid (HX.out.below hB1)
        have HSccac:=Lib.hid (HScca.out.trans (hB1.mono HScca.out.size))
        clear hB1 hR1 hR2
        refine hK _ _ HSccac.out ?_
        clear hK K
        refine Q_W 17 35 1310719 (.tuple #[.agg #[.slice A1 k k,.slice A2 k k,.slice A3 k k],.int .i64 0]) rfl HSccac.out ?_
        simp only [z0,z1,z2]
        refine Q_W 18 53 1572863 (.agg #[.slice A1 k k,.slice A2 k k,.slice A3 k k]) rfl HSccac.out ?_
        simp only [z0,z1,z2]
        refine Q_W 19 54 2097151 (.int .i64 0) rfl HSccac.out ?_
        simp only [z0,z1,z2]
        refine Q_1 21 4194303 rfl (fun K hK=>?_)
        refine wp_strow (cs:=[.slice A1 k k,.slice A2 k k,.slice A3 k k]) 229 (.tmp 7) (.tmp 53) rfl rfl rfl HX.out rfl (by kernel_rfl) (by simp [Value.oneCell']) ?_
        intro wz g1 g2
        have HF:Hid (XP k o w1 (.pointer (some ⟨XB,0,none⟩)) (.int .i64 0) wz):=Lib.hid ⟨rfl,XB,A1,A2,A3,rfl,g1,Rdv.grown (Own.rd HR1.out) g2 (own_ne_blk HR1.out HX.out (by decide)),Rdv.grown (Own.rd HR2.out) g2 (own_ne_blk HR2.out HX.out (by decide)),fun hA=>Nat.le_trans HBS.out (Ownv.blk_ge HR2.out hk0).1,HSccac.out.grown g2 HSccac.out.size (fun j e=>by cases e;exact HXB.out)⟩
        refine hK _ _ ?_
        clear hK K
        refine Q_1 22 8388607 rfl (fun K hK=>?_)
        go_simp
        refine hK _ _ ?_
        clear hK K
        refine Q_end ?_
        go_wp2_with fail
        go_meet
        exact HF.out
    · go_simp
      have HX:Hid (Blk (wdc.alloc (.cells #[.slice none 0 0,.slice none 0 0,.slice none 0 0] 229)) wdc.heap.size 229 [.slice none 0 0,.slice none 0 0,.slice none 0 0]):=Lib.hid (Blk.new wdc _ 229 rfl)
      have HXB:=Lib.hid (HSc.out.size)
      have HR1:=Lib.hid (Rdv.alloc HR1.out (.cells #[.slice none 0 0,.slice none 0 0,.slice none 0 0] 229))
      have HSca:=Lib.hid (HSc.out.alloc HSc.out.size (.cells #[.slice none 0 0,.slice none 0 0,.slice none 0 0] 229))
      obtain⟨XB,hXB⟩:∃ XB,XB=wdc.heap.size:=⟨_,rfl⟩
      rw [← hXB]at HX HXB ⊢
      obtain⟨wa,hwa⟩:∃ wa,wa=(wdc.alloc (.cells #[.slice none 0 0,.slice none 0 0,.slice none 0 0] 229)):=⟨_,rfl⟩
      rw [← hwa]at HX HSca HR1 ⊢
      clear hXB hwa
      refine hK _ _ HSca.out ?_
      clear hK K
      refine Q_1S 11 1114111 rfl (fun K hK=>?_)
      go_simp
      refine(HA2.out wa HSca.out).mono ?_
      rintro e wac ⟨R2,rfl,hR2,hB1⟩
      have HR1:=Lib.hid (Rdv.below HR1.out hB1)
      have HR2:=Lib.hid (Own.rd hR2)
      have HX:=Lib.hid (HX.out.below hB1)
      have HScac:=Lib.hid (HSca.out.trans (hB1.mono HSca.out.size))
      clear hB1 hR2
      refine hK _ _ HScac.out ?_
      clear hK K
      refine Q_1S 16 1179647 rfl (fun K hK=>?_)
      go_simp
      have HBS:=Lib.hid HScac.out.size
      refine(HDC.out wac R1 R2 HScac.out HR1.out HR2.out).mono ?_
      rintro e wacc ⟨A1,A2,A3,rfl,hR1,hR2,hB1⟩
      have HR1:=Lib.hid hR1
      have HR2:=Lib.hid hR2
      have HX:=Lib.hid (HX.out.below hB1)
      have HScacc:=Lib.hid (HScac.out.trans (hB1.mono HScac.out.size))
      clear hB1 hR1 hR2
      refine hK _ _ HScacc.out ?_
      clear hK K
      refine Q_W 17 35 1310719 (.tuple #[.agg #[.slice A1 k k,.slice A2 k k,.slice A3 k k],.int .i64 0]) rfl HScacc.out ?_
      simp only [z0,z1,z2]
      refine Q_W 18 53 1572863 (.agg #[.slice A1 k k,.slice A2 k k,.slice A3 k k]) rfl HScacc.out ?_
      simp only [z0,z1,z2]
      refine Q_W 19 54 2097151 (.int .i64 0) rfl HScacc.out ?_
      simp only [z0,z1,z2]
      refine Q_1 21 4194303 rfl (fun K hK=>?_)
      refine wp_strow (cs:=[.slice A1 k k,.slice A2 k k,.slice A3 k k]) 229 (.tmp 7) (.tmp 53) rfl rfl rfl HX.out rfl (by kernel_rfl) (by simp [Value.oneCell']) ?_
      intro wz g1 g2
      have HF:Hid (XP k o w1 (.pointer (some ⟨XB,0,none⟩)) (.int .i64 0) wz):=Lib.hid ⟨rfl,XB,A1,A2,A3,rfl,g1,Rdv.grown (Own.rd HR1.out) g2 (own_ne_blk HR1.out HX.out (by decide)),Rdv.grown (Own.rd HR2.out) g2 (own_ne_blk HR2.out HX.out (by decide)),fun hA=>Nat.le_trans HBS.out (Ownv.blk_ge HR2.out hk0).1,HScacc.out.grown g2 HScacc.out.size (fun j e=>by cases e;exact HXB.out)⟩
      refine hK _ _ ?_
      clear hK K
      refine Q_1 22 8388607 rfl (fun K hK=>?_)
      go_simp
      refine hK _ _ ?_
      clear hK K
      refine Q_end ?_
      go_wp2_with fail
      go_meet
      exact HF.out
  · go_simp
    have HX:Hid (Blk (wd.alloc (.cells #[.slice none 0 0,.slice none 0 0,.slice none 0 0] 229)) wd.heap.size 229 [.slice none 0 0,.slice none 0 0,.slice none 0 0]):=Lib.hid (Blk.new wd _ 229 rfl)
    have HXB:=Lib.hid (HS.out.size)
    have HSa:=Lib.hid (HS.out.alloc HS.out.size (.cells #[.slice none 0 0,.slice none 0 0,.slice none 0 0] 229))
    obtain⟨XB,hXB⟩:∃ XB,XB=wd.heap.size:=⟨_,rfl⟩
    rw [← hXB]at HX HXB ⊢
    obtain⟨wa,hwa⟩:∃ wa,wa=(wd.alloc (.cells #[.slice none 0 0,.slice none 0 0,.slice none 0 0] 229)):=⟨_,rfl⟩
    rw [← hwa]at HX HSa ⊢
    clear hXB hwa
    refine hK _ _ HSa.out ?_
    clear hK K
    refine Q_1S 5 1112063 rfl (fun K hK=>?_)
    go_simp
    refine(HA1.out wa HSa.out).mono ?_
    rintro e wac ⟨R1,rfl,hR1,hB1⟩
    have HR1:=Lib.hid (Own.rd hR1)
    have HX:=Lib.hid (HX.out.below hB1)
    have HSac:=Lib.hid (HSa.out.trans (hB1.mono HSa.out.size))
    clear hB1 hR1
    refine hK _ _ HSac.out ?_
    clear hK K
    refine Q_1S 11 1114111 rfl (fun K hK=>?_)
    go_simp
    refine(HA2.out wac HSac.out).mono ?_
    rintro e wacc ⟨R2,rfl,hR2,hB1⟩
    have HR1:=Lib.hid (Rdv.below HR1.out hB1)
    have HR2:=Lib.hid (Own.rd hR2)
    have HX:=Lib.hid (HX.out.below hB1)
    have HSacc:=Lib.hid (HSac.out.trans (hB1.mono HSac.out.size))
    clear hB1 hR2
    refine hK _ _ HSacc.out ?_
    clear hK K
    refine Q_1S 16 1179647 rfl (fun K hK=>?_)
    go_simp
    have HBS:=Lib.hid HSacc.out.size
    refine(HDC.out wacc R1 R2 HSacc.out HR1.out HR2.out).mono ?_
    rintro e waccc ⟨A1,A2,A3,rfl,hR1,hR2,hB1⟩
    have HR1:=Lib.hid hR1
    have HR2:=Lib.hid hR2
    have HX:=Lib.hid (HX.out.below hB1)
    have HSaccc:=Lib.hid (HSacc.out.trans (hB1.mono HSacc.out.size))
    clear hB1 hR1 hR2
    refine hK _ _ HSaccc.out ?_
    clear hK K
    refine Q_W 17 35 1310719 (.tuple #[.agg #[.slice A1 k k,.slice A2 k k,.slice A3 k k],.int .i64 0]) rfl HSaccc.out ?_
    simp only [z0,z1,z2]
    refine Q_W 18 53 1572863 (.agg #[.slice A1 k k,.slice A2 k k,.slice A3 k k]) rfl HSaccc.out ?_
    simp only [z0,z1,z2]
    refine Q_W 19 54 2097151 (.int .i64 0) rfl HSaccc.out ?_
    simp only [z0,z1,z2]
    refine Q_1 21 4194303 rfl (fun K hK=>?_)
    refine wp_strow (cs:=[.slice A1 k k,.slice A2 k k,.slice A3 k k]) 229 (.tmp 7) (.tmp 53) rfl rfl rfl HX.out rfl (by kernel_rfl) (by simp [Value.oneCell']) ?_
    intro wz g1 g2
    have HF:Hid (XP k o w1 (.pointer (some ⟨XB,0,none⟩)) (.int .i64 0) wz):=Lib.hid ⟨rfl,XB,A1,A2,A3,rfl,g1,Rdv.grown (Own.rd HR1.out) g2 (own_ne_blk HR1.out HX.out (by decide)),Rdv.grown (Own.rd HR2.out) g2 (own_ne_blk HR2.out HX.out (by decide)),fun hA=>Nat.le_trans HBS.out (Ownv.blk_ge HR2.out hk0).1,HSaccc.out.grown g2 HSaccc.out.size (fun j e=>by cases e;exact HXB.out)⟩
    refine hK _ _ ?_
    clear hK K
    refine Q_1 22 8388607 rfl (fun K hK=>?_)
    go_simp
    refine hK _ _ ?_
    clear hK K
    refine Q_end ?_
    go_wp2_with fail
    go_meet
    exact HF.out
 case rest =>
  obtain⟨rfl,X,A1,A2,A3,rfl,hX,hE,hBb,hF,hB⟩:=hcut
  have HX:=Lib.hid hX
  have HE:=Lib.hid hE
  have HBb:=Lib.hid hBb
  have HF:=Lib.hid hF
  have HBc:=Lib.hid hB
  have HDc:=Lib.hid (HB2.out.below hB)
  have kL:=HDc.out.cell (j:=2) (v:=.slice I k ic) rfl
  have HPK:=Lib.hid (pickedI_any (.pointer (some ⟨X,0,none⟩)) (fun i=>gi o.dE i.toNat) I k ic (Tu.invL k) wc (Rdv.below HI1.out hB) (by omega) (fun j hj wr hW=>nx2_any X k A2 o.dE _ wr (Rdv.below HE.out hW) (cell_below (HX.out.cell rfl) hW) (inv_bd' hk0 _ (gi_mem _ j (by rw [inv_len];exact hj)))))
  clear hX hE hBb hF hB HDC HA1 HA2 HS
  go_wp2_with fail
  refine HPK.out.mono ?_
  rintro e w3 ⟨A',rfl,hO',hB3⟩
  have HO':=Lib.hid hO'
  have HB3:=Lib.hid hB3
  have HD3:=Lib.hid (HDc.out.below hB3)
  have k3:=HD3.out.cell (j:=3) (v:=.slice A k ac) rfl
  have f3:=HD3.out.frozen 3
  have HX3:=Lib.hid (HX.out.below hB3)
  have hne:X≠D:=Blk.ne HX3.out HD3.out (by decide)
  have HX4:Hid (Blk (w3.setCell ⟨D,3,none⟩ (.slice A' k k)) X 229 [.slice A1 k k,.slice A2 k k,.slice A3 k k]):=Lib.hid (HX3.out.other (fun e=>hne e.symm) 3 _)
  have kX:=HX4.out.cell (j:=2) (v:=.slice A3 k k) rfl
  have HD4:Hid (Blk (w3.setCell ⟨D,3,none⟩ (.slice A' k k)) D 192 [.slice V (3*(k+4)) vc,.slice O k oc,.slice I k ic,.slice A' k k,.slice B bn bc,.int .i64 ((h:Int)+1)]):=Lib.hid (HD3.out.set 3 _)
  have hg4:w3.grownBy (w3.setCell ⟨D,3,none⟩ (.slice A' k k)) (some D):=grownBy_set _ _ _ _
  have hDlt:=HB2.out.lt
  have hDc:=HDc.out.lt
  have hA3:A3≠none→blk A3≠D:=fun hA=>by have:=HF.out hA;omega
  have hA':A'≠none→blk A'≠D:=fun hA=>by have:=(Ownv.blk_ge HO'.out hk0).1;omega
  have hr:∀ {X:Option Addr} {n c:Nat} {xs:List Value},Rdv w1 X n c xs→(X≠none→blk X≠D)→Rdv (w3.setCell ⟨D,3,none⟩ (.slice A' k k)) X n c xs:=fun h1 h2=>Rdv.grown (Rdv.below (Rdv.below h1 HBc.out) HB3.out) hg4 (nesome h2)
  have HDS:Hid (DS (w3.setCell ⟨D,3,none⟩ (.slice A' k k)) D k vs (pk o.dE (bkL k 2)) bs (h+1) V vc O oc I ic A' k B bn bc):=Lib.hid ⟨HD4.out,hr HV1.out HD.out.nv,hr HO1.out HD.out.no,hr HI1.out HD.out.ni,Rdv.grown (Own.rd HO'.out) hg4 (nesome hA'),hr HP1.out HD.out.np,HD.out.nv,HD.out.no,HD.out.ni,hA',HD.out.np⟩
  have HB4:Hid (Rd .u8 (w3.setCell ⟨D,3,none⟩ (.slice A' k k)) A3 k k o.dB):=Lib.hid (Rdv.grown (Rdv.below HBb.out HB3.out) hg4 (nesome hA3))
  have HA3:Hid (A3≠none→w.heap.size≤blk A3):=Lib.hid (fun hA=>Nat.le_trans HG2.out.size (HF.out hA))
  have HG4:=Lib.hid (grown_same (grown_of_below (grown_of_below HG2.out HBc.out) HB3.out) hg4)
  clear hr hg4 hDlt hDc hA3 hA' hne
  have kJ:=HDS.out.b.cell (j:=2) (v:=.slice I k ic) rfl
  have HPB:=Lib.hid (pickedB_any (.pointer (some ⟨X,0,none⟩)) (fun i=>gi o.dB i.toNat) I k ic (Tu.invL k) (w3.setCell ⟨D,3,none⟩ (.slice A' k k)) HDS.out.i (by omega) (fun j hj wr hW=>nx1_any X k A3 o.dB _ wr (Rdv.below HB4.out hW) (cell_below (HX4.out.cell rfl) hW) (inv_bd' hk0 _ (gi_mem _ j (by rw [inv_len];exact hj)))))
  go_wp2_with fail
  refine HPB.out.mono ?_
  rintro e w5 ⟨R,rfl,hR,hB5⟩
  have HR:=Lib.hid hR
  have HB5:=Lib.hid hB5
  have HD5:=Lib.hid (DS.below HDS.out hB5)
  have hDl:=HDS.out.b.lt
  have HRn:Hid (R≠none→w.heap.size≤blk R):=Lib.hid (fun hA=>Nat.le_trans HG4.out.size (Ownv.blk_ge HR.out hk0).1)
  clear hR hB5 hDl
  go_wp2
  go_ret
  exact⟨R,k,A',k,rfl,by rw [if_neg (by decide)];exact Own.rd HR.out,HRn.out,HD5.out,grown_of_below HG4.out HB5.out⟩
end Go.Proofs.YtkdfefpnhaebfaaGreat
