/- Bundle. Conditions: none. -/
import Derived.Test.YtkdfefpnhaebfaaGreatBwobk
import Derived.Test.YtkdfefpnhaebfaaGreatBwoaq
import Derived.Test.YtkdfefpnhaebfaaGreatBwobj
import Derived.Test.YtkdfefpnhaebfaaGreatBwobh
import Derived.StillTailTactics
set_option linter.unusedVariables false
set_option linter.unusedSimpArgs false
namespace Go.Proofs.YtkdfefpnhaebfaaGreat
open Go.RowKit
attribute [local go_sem] Oper.semAt_some
set_option maxRecDepth 100000
set_option maxHeartbeats 2000000
structure DmS (W:World) (base D k f:Nat) (lim:Int) (V:Option Addr) (vc:Nat) (vs:List Int) (cnt:Int):Prop where
 b:Blk W D 157 [.int .i64 (k:Int),.int .i64 (f:Int),.int .i64 lim,.slice V (3*(k+4)) vc,.int .i64 cnt]
 v:Own .i64 3 W base V (3*(k+4)) vc vs
 d:base≤D
def NwX(k f:Nat)(lim:Int)(w1:World)(v6 v7:Value)(wx:World):Prop:=v7= .int .i64 0∧∃ D V,v6= .pointer (some ⟨D,0,none⟩)∧DmS wx w1.heap.size D k f lim V (3*(k+4)) (frL k f) 0∧Below w1.heap.size w1 wx
theorem new_ok(k f:Nat)(lim:Int)(w:World)(h1:40≤k)(h2:k≤6144)(hf:f<k)(hl:1≤lim) :
 Calls Tryz.prog 70 #[.int .i64 (k:Int),.int .i64 (f:Int),.int .i64 lim] w fun e w'=>∃ D V,e= .returned (.tuple #[.pointer (some ⟨D,0,none⟩),.int .i64 0])∧DmS w' w.heap.size D k f lim V (3*(k+4)) (frL k f) 0∧Below w.heap.size w w':=by
 have HU:=Lib.hid (Cr.usable_ok k f lim w h1 h2 hf hl)
 have HFR:=Lib.hid (fun W=>fresh_any k f lim W h2 hf)
 clear h1 h2 hf hl
 go_enter Tryz.func70,Tryz.ntmps70
 go_wp2_with fail
 refine HU.out.mono ?_
 rintro e w1 ⟨rfl,hB⟩
 have HB1:=Lib.hid hB
 clear hB
 go_wp2_with fail
 have hx:Blk (w1.alloc (.cells #[.int .i64 (k:Int),.int .i64 (f:Int),.int .i64 lim] 155)) w1.heap.size 155 [.int .i64 (k:Int),.int .i64 (f:Int),.int .i64 lim]:=Blk.new w1 [.int .i64 (k:Int),.int .i64 (f:Int),.int .i64 lim] _ rfl
 have hq:=(Below.refl w1.heap.size w1).alloc (Nat.le_refl _) (.cells #[.int .i64 (k:Int),.int .i64 (f:Int),.int .i64 lim] 155)
 have HB2:=Lib.hid (HB1.out.trans (hq.mono HB1.out.size))
 generalize w1.alloc (.cells #[.int .i64 (k:Int),.int .i64 (f:Int),.int .i64 lim] 155)=w2 at *
 generalize w1.heap.size=BX at *
 have HS:Hid (Blk w2.drew BX 155 [.int .i64 (k:Int),.int .i64 (f:Int),.int .i64 lim]):=Lib.hid hx
 clear hx hq
 go_cut [6,7] from 25 to 29 (fun v6 v7 wx=>NwX k f lim w2 v6 v7 wx)
 case first =>
  refine Q_start (fun W=>Blk W BX 155 [.int .i64 (k:Int),.int .i64 (f:Int),.int .i64 lim]) 4 7 ?_
  refine Q_T 0 25 1 (.agg #[.int .i64 (k:Int),.int .i64 (f:Int),.int .i64 lim]) [3] rfl HS.out (yieldsIf_load_mid rfl 155 (.tmp 10) rfl BX (0) rfl [.int .i64 (k:Int),.int .i64 (f:Int),.int .i64 lim] _ (fun W hS=>fun q v hv=>Blk.cell hS (by rw [Nat.zero_add];exact hv)) Tryz.underlying155 rfl (by rw [info3i];rfl)) ?_
  simp only [z0,z1,z2]
  refine Q_T 1 26 3 (.agg #[.int .i64 (k:Int),.int .i64 (f:Int),.int .i64 lim]) [3,2] rfl HS.out (yieldsIf_load_mid rfl 155 (.tmp 10) rfl BX (0) rfl [.int .i64 (k:Int),.int .i64 (f:Int),.int .i64 lim] _ (fun W hS=>fun q v hv=>Blk.cell hS (by rw [Nat.zero_add];exact hv)) Tryz.underlying155 rfl (by rw [info3i];rfl)) ?_
  simp only [z0,z1,z2]
  refine Q_1S 2 7 rfl (fun K hK=>?_)
  go_simp
  refine(HFR.out w2.drew).mono ?_
  rintro e w3 ⟨A,rfl,hO,hB⟩
  have HO:=Lib.hid (show Own .i64 3 w3 w2.heap.size A (3*(k+4)) (3*(k+4)) (frL k f) from hO)
  have HB3:Hid (Below w2.heap.size w2 w3):=Lib.hid ((Below.refl _ w2).drew.trans hB)
  have HS3:=Lib.hid (HS.out.below hB)
  clear hO hB
  refine hK _ _ HS3.out ?_
  clear hK K
  refine Q_W 3 28 15 (.agg #[.int .i64 (k:Int),.int .i64 (f:Int),.int .i64 lim,.slice A (3*(k+4)) (3*(k+4)),.int .i64 0]) rfl HS3.out ?_
  simp only [z0,z1,z2]
  have HF:Hid (NwX k f lim w2 (.pointer (some ⟨w3.heap.size,0,none⟩)) (.int .i64 0) (w3.alloc (.cells #[.int .i64 (k:Int),.int .i64 (f:Int),.int .i64 lim,.slice A (3*(k+4)) (3*(k+4)),.int .i64 0] 157))):=Lib.hid ⟨rfl,w3.heap.size,A,rfl,⟨Blk.new w3 [.int .i64 (k:Int),.int .i64 (f:Int),.int .i64 lim,.slice A (3*(k+4)) (3*(k+4)),.int .i64 0] _ rfl,Ownv.alloc HO.out _,HB3.out.size⟩,HB3.out.alloc HB3.out.size _⟩
  refine Q_1 4 31 rfl (fun K hK=>?_)
  go_simp
  refine hK _ _ ?_
  clear hK K
  refine Q_1 5 63 rfl (fun K hK=>?_)
  go_simp
  refine hK _ _ ?_
  clear hK K
  refine Q_1 6 127 rfl (fun K hK=>?_)
  go_simp
  refine hK _ _ ?_
  clear hK K
  refine Q_end ?_
  go_wp2_with fail
  go_meet
  exact HF.out
 case rest =>
  obtain⟨rfl,D,V,rfl,hD,hB⟩:=hcut
  have HD:=Lib.hid hD
  have HBX:=Lib.hid (HB2.out.trans (hB.mono HB2.out.size))
  clear hD hB
  go_wp2
  go_ret2
  exact⟨D,V,rfl,⟨HD.out.b,Ownv.mono HD.out.v HB2.out.size,Nat.le_trans HB2.out.size HD.out.d⟩,HBX.out⟩
section
variable {W : World} {base D k f : Nat} {lim : Int} {V : Option Addr} {vc : Nat} {vs : List Int} {cnt : Int}
theorem DmS.ne(h:DmS W base D k f lim V vc vs cnt):V≠none:=own_ne3 h.v (q:=0) (by omega)
theorem dnone_any(h:DmS W base D k f lim V vc vs cnt):Calls Tryz.prog 90 #[.pointer (some ⟨D,0,none⟩)] W fun e w'=>e= .returned (.bool false)∧W=w':=by
 have c3:=h.b.cell (j:=3) (v:=.slice V (3*(k+4)) vc) rfl
 have hV:=h.ne
 cases V with
 | none=>exact absurd rfl hV
 | some a =>
   have e1:=fun W=>Lib.run_eql_slice_nil (P:=Tryz.prog) W 39 3 (some a) (3*(k+4)) vc 0 0 el22.u
   clear h hV
   go_enter Tryz.func90,Tryz.ntmps90
   go_wp2
   go_ret
   exact⟨rfl,rfl⟩
theorem values_any(h:DmS W base D k f lim V vc vs cnt)(hk:k≤6144):Calls Tryz.prog 74 #[.pointer (some ⟨D,0,none⟩)] W fun e w'=>∃ A c,e= .returned (.slice A (3*(k+4)) c)∧Own .i64 3 w' W.heap.size A (3*(k+4)) c vs∧Below W.heap.size W w':=by
 have c3:=h.b.cell (j:=3) (v:=.slice V (3*(k+4)) vc) rfl
 have HN:=Lib.hid (dnone_any h)
 have HC:=Lib.hid (cloneI_any V (3*(k+4)) vc vs W (Own.rd h.v) (by omega))
 clear h
 go_enter Tryz.func74,Tryz.ntmps74
 go_wp2_with fail
 refine HN.out.mono ?_
 rintro e w1 ⟨rfl,rfl⟩
 go_wp2_with fail
 refine HC.out.mono ?_
 rintro e w1 ⟨A,c,rfl,hO,hB⟩
 have HO:=Lib.hid hO
 have HB:=Lib.hid hB
 clear hO hB
 go_wp2
 go_ret
 exact⟨A,c,rfl,HO.out,HB.out⟩
end
theorem add1_any(a b:Int)(w:World):Calls Tryz.prog 119 #[.int .i64 a,.int .i64 b] w fun e w'=>e= .returned (.int .i64 (addI a b))∧Below w.heap.size w w':=by
 have HA:=Lib.hid (sadd_any a b w)
 generalize addI a b=z at *
 go_enter Tryz.func119,Tryz.ntmps119
 go_wp2_with fail
 refine HA.out.mono ?_
 rintro e w1 ⟨rfl,hB⟩
 have HB:=Lib.hid hB
 clear hB
 go_wp2
 go_ret
 exact⟨rfl,HB.out⟩
def cmbL(at' l vs:List Int):Nat→List Int
 | 0=>vs
 | j+1=>(cmbL at' l vs j).set (gi at' j).toNat (addI (gi (cmbL at' l vs j) (gi at' j).toNat) (gi l j))
theorem cmbL_len(at' l vs:List Int):∀ j,(cmbL at' l vs j).length=vs.length
 | 0=>rfl
 | j+1=>by show(List.set _ _ _).length=_;rw [List.length_set];exact cmbL_len at' l vs j
def CbI(w:World)(base:Nat)(V:Option Addr)(N vc m:Nat)(ps l vs:List Int)(i:Value)(wr:World):Prop:=∃ j:Nat,j≤m∧i= .int .i64 (j:Int)∧Own .i64 3 wr base V N vc (cmbL ps l vs j)∧w.grownBy wr (some (blk V))
theorem combined_any(V:Option Addr)(N vc base:Nat)(vs:List Int)(A2:Option Addr)(m c2:Nat)(ps:List Int)(A3:Option Addr)(c3:Nat)(l:List Int)(w:World)(hv:Own .i64 3 w base V N vc vs)(hp:Rd .i64 w A2 m c2 ps)(hl:Rd .i64 w A3 m c3 l)
 (hn2:A2≠none→blk A2≠blk V) (hn3:A3≠none→blk A3≠blk V) (hb:∀ j,j<m→∃ p:Nat,gi ps j=(p:Int)∧p<N) (hm:m≤200000) :
 Calls Tryz.prog 118 #[.slice V N vc,.slice A2 m c2,.slice A3 m c3,.func (.func 119) #[] #[]] w fun e w'=>(∃ v,e= .returned v)∧Own .i64 3 w' base V N vc (cmbL ps l vs m)∧w.grownBy w' (some (blk V)):=by
 have HV:=Lib.hid hv
 have HP:=Lib.hid hp
 have HL:=Lib.hid hl
 have HN:=Lib.hid (And.intro hn2 hn3)
 have HBD:=Lib.hid hb
 have HAD0:=Lib.hid (fun a b W=>add1_any a b W)
 clear hv hp hl hn2 hn3 hb
 go_enter Tryz.func118,Tryz.ntmps118
 go_wp2_with fail
 go_loopw [12] (fun i wr=>CbI w base V N vc m ps l vs i wr) (fun i _=>m - (intOf i).toNat)
 case atStart=>exact⟨0,Nat.zero_le _,rfl,HV.out,World.grownBy.refl _ _⟩
 case round =>
  obtain⟨j,hj,rfl,hO,hG⟩:=hrel
  have HO:=Lib.hid hO
  have HG:=Lib.hid hG
  by_cases hlt:j<m
  · obtain⟨p,hpe,hpn⟩:=HBD.out j hlt
    have hr2:=Rdv.grown HP.out hG (fun hA=>by have:=HN.out.1 hA;simpa using this)
    have hr3:=Rdv.grown HL.out hG (fun hA=>by have:=HN.out.2 hA;simpa using this)
    have ca:=Rd.cell hr2 hlt
    have cx:=Rd.cell hr3 hlt
    rw [hpe]at ca
    have ia:=fun W=>Rdv.ix hr2 el22 hlt .i64 W
    have ix:=fun W=>Rdv.ix hr3 el22 hlt .i64 W
    have co:=Rd.cell (Own.rd hO) hpn
    have io:=fun W=>Rdv.ix (Own.rd hO) el22 hpn .i64 W
    have hvc:0<vc:=by have:=Rdv.le (Own.rd hO);omega
    have HCE:Hid (cmbL ps l vs (j+1)=(cmbL ps l vs j).set p (addI (gi (cmbL ps l vs j) p) (gi l j))):=Lib.hid (by show List.set _ _ _=_;rw [hpe,Int.toNat_natCast])
    have HS:Hid (wr.drew.cell? (adr A2 j)=some (.int .i64 (p:Int))∧wr.drew.cell? (adr V p)=some (.int .i64 (gi (cmbL ps l vs j) p))):=Lib.hid ⟨ca,co⟩
    generalize gi (cmbL ps l vs j) p=old at *
    generalize gi l j=x at *
    have HAD:=Lib.hid (HAD0.out old x)
    generalize addI old x=z at *
    clear hO hG hr2 hr3 hpe ca co
    go_wp2_with fail
    refine Q_start (fun W=>W.cell? (adr A2 j)=some (.int .i64 (p:Int))∧W.cell? (adr V p)=some (.int .i64 old)) 16 17 ?_
    refine Q_W 0 17 1 (.slice V N vc) rfl HS.out ?_
    simp only [z0,z1,z2]
    refine Q_W 1 18 3 (.slice A2 m c2) rfl HS.out ?_
    simp only [z0,z1,z2]
    refine Q_W 2 19 7 (.int .i64 (j:Int)) rfl HS.out ?_
    simp only [z0,z1,z2]
    refine Q_W 3 20 15 (.pointer (some (adr A2 j))) rfl HS.out ?_
    simp only [z0,z1,z2]
    refine Q_T 4 21 31 (.int .i64 (p:Int)) [15] rfl HS.out (.inl ⟨by rfl,fun W hS=>by obtain⟨s0,s1⟩:=hS;go_simp⟩) ?_
    simp only [z0,z1,z2]
    refine Q_W 5 22 63 (.func (.func 119) #[] #[]) rfl HS.out ?_
    simp only [z0,z1,z2]
    refine Q_W 6 23 127 (.slice V N vc) rfl HS.out ?_
    simp only [z0,z1,z2]
    refine Q_W 7 24 255 (.slice A2 m c2) rfl HS.out ?_
    simp only [z0,z1,z2]
    refine Q_W 8 25 511 (.int .i64 (j:Int)) rfl HS.out ?_
    simp only [z0,z1,z2]
    refine Q_W 9 26 1023 (.pointer (some (adr A2 j))) rfl HS.out ?_
    simp only [z0,z1,z2]
    refine Q_T 10 27 2047 (.int .i64 (p:Int)) [14,12,11] rfl HS.out (.inl ⟨by rfl,fun W hS=>by obtain⟨s0,s1⟩:=hS;go_simp⟩) ?_
    simp only [z0,z1,z2]
    refine Q_W 11 28 4095 (.pointer (some (adr V p))) rfl HS.out ?_
    simp only [z0,z1,z2]
    refine Q_T 12 29 8191 (.int .i64 old) [14] rfl HS.out (.inl ⟨by rfl,fun W hS=>by obtain⟨s0,s1⟩:=hS;go_simp⟩) ?_
    simp only [z0,z1,z2]
    refine Q_W 13 30 16383 (.int .i64 x) rfl HS.out ?_
    simp only [z0,z1,z2]
    refine Q_1S 14 32767 rfl (fun K hK=>?_)
    go_simp
    refine(HAD.out wr.drew).mono ?_
    rintro e w3 ⟨rfl,hB⟩
    have HB3:Hid (Below wr.heap.size wr w3):=Lib.hid ((Below.refl _ wr).drew.trans hB)
    have HO3:=Lib.hid (Ownv.below HO.out HB3.out)
    have hS3:=Own.set_ HO3.out hpn z
    have hf3:=Ownv.frozen HO3.out hvc p
    have hc3:=Rd.cell (Own.rd HO3.out) hpn
    have HS3:=Lib.hid hS3
    clear hB hS3
    have HSw:Hid (w3.cell? (adr A2 j)=some (.int .i64 (p:Int))∧w3.cell? (adr V p)=some (.int .i64 old)):=Lib.hid ⟨cell_below (w:=wr) HS.out.1 HB3.out,cell_below (w:=wr) HS.out.2 HB3.out⟩
    refine hK _ _ HSw.out ?_
    clear hK K
    refine Q_W 15 32 65535 (.pointer (some (adr V p))) rfl HSw.out ?_
    simp only [z0,z1,z2]
    refine Q_1 16 131071 rfl (fun K hK=>?_)
    go_simp
    refine hK _ _ ?_
    clear hK K
    refine Q_end ?_
    go_wp2_with fail
    go_roundw
    case rel=>exact⟨j+1,by omega,by go_num,by rw [HCE.out];exact HS3.out.1,grown_same (grown_of_below HG.out HB3.out) HS3.out.2⟩
    case measure=>simp [intOf];omega
  · obtain rfl:j=m:=by omega
    clear hO hG
    go_wp2
    go_end0
    exact⟨⟨_,rfl⟩,HO.out,HG.out⟩
set_option maxHeartbeats 2000000
theorem DmS.below{W W':World}{base D k f:Nat}{lim:Int}{V:Option Addr}{vc:Nat}{vs:List Int}{cnt:Int}(h:DmS W base D k f lim V vc vs cnt)(hB:Below W.heap.size W W'):DmS W' base D k f lim V vc vs cnt:=⟨h.b.below hB,Ownv.below h.v hB,h.d⟩
theorem sel_pos(k f:Nat)(lim:Int)(st:Nat)(hl:1≤lim)(T j:Nat)(hj:j<(Cr.selL ((Cr.bufL k f).take (Cr.szB k lim)) st (Cr.szB k lim) T).length):∃ p:Nat,gi (Cr.selL ((Cr.bufL k f).take (Cr.szB k lim)) st (Cr.szB k lim) T) j=(p:Int)∧p<3*(k+4):=by
 have hzb:=Cr.szB_bd k hl
 have hlen:Cr.szB k lim≤((Cr.bufL k f).take (Cr.szB k lim)).length:=by
  rw [List.length_take,show(Cr.bufL k f).length=3*Cr.nB k from by unfold Cr.bufL;exact Cr.bufT_len _ _ _]
  omega
 have hm:=gi_mem _ j hj
 obtain⟨h0,h1⟩:=Cr.selL_mem hzb.1 hlen T _ hm
 have h2:=Cr.bufL_bd k f (Cr.szB k lim) _ h1
 exact⟨(gi (Cr.selL ((Cr.bufL k f).take (Cr.szB k lim)) st (Cr.szB k lim) T) j).toNat,by omega,by omega⟩
def AdP(base D k f:Nat)(lim:Int)(rv m:Nat)(V:Option Addr)(vc:Nat)(vs l:List Int)(cnt:Int)(W:World)(e:Ending)(w':World):Prop :=
 Below base W w'∧(∀ q,q<W.heap.size→q≠D→q≠blk V→w'.heap[q]?=W.heap[q]?)∧((m≠0∧Cr.usC ((Cr.bufL k f).take (Cr.szB k lim))=0∧e= .returned (.int .i64 10)∧DmS w' base D k f lim V vc vs cnt) ∨
  ((m=0∨Cr.usC ((Cr.bufL k f).take (Cr.szB k lim))≠0)∧∃ T,(Cr.selL ((Cr.bufL k f).take (Cr.szB k lim)) (Cr.stS k (Cr.szB k lim) rv) (Cr.szB k lim) T).length=m∧e= .returned (.int .i64 0) ∧
    DmS w' base D k f lim V vc (cmbL (Cr.selL ((Cr.bufL k f).take (Cr.szB k lim)) (Cr.stS k (Cr.szB k lim) rv) (Cr.szB k lim) T) l vs m) (cnt+m)))
theorem add_any{base D k f:Nat}{lim:Int}{V:Option Addr}{vc:Nat}{vs:List Int}{cnt:Int}(rv:Nat)(A:Option Addr)(m c:Nat)(l:List Int)(W:World)(h:DmS W base D k f lim V vc vs cnt)(hl:Rd .i64 W A m c l)(hs:SoftB l=true)(hA:A≠none→blk A≠blk V)(hbs:base≤W.heap.size)
 (h1:40≤k) (h2:k≤6144) (hf:f<k) (hlm:1≤lim) (hrv:rv≤3) (hm:m≤131072) (hc:0≤cnt∧cnt≤1000000000) :
 Calls Tryz.prog 71 #[.pointer (some ⟨D,0,none⟩),.int .i64 (rv:Int),.slice A m c] W (AdP base D k f lim rv m V vc vs l cnt W):=by
 have HPO:=Lib.hid (fun W=>Cr.positions_any k f rv m lim W h1 h2 hf hlm hrv hm)
 have HNO:=Lib.hid (dnone_any h)
 have HSV:=Lib.hid (svalid_any A m c l W hl)
 rw [hs]at HSV
 have HD:=Lib.hid h
 have HL:=Lib.hid hl
 have HAV:=Lib.hid hA
 have hm2:decide ((m:Int) > 131072)=false:=by simp;omega
 have hm3:¬ (131072:Int)<(m:Int):=by omega
 have HBS:=Lib.hid hbs
 have HPB:=Lib.hid (fun T j (hj:j<(Cr.selL ((Cr.bufL k f).take (Cr.szB k lim)) (Cr.stS k (Cr.szB k lim) rv) (Cr.szB k lim) T).length)=>sel_pos k f lim (Cr.stS k (Cr.szB k lim) rv) hlm T j hj)
 clear h hl hs hA hbs
 go_enter Tryz.func71,Tryz.ntmps71
 by_cases hx:m≠0∧Cr.usC ((Cr.bufL k f).take (Cr.szB k lim))=0
 · have HX:=Lib.hid hx
   clear hx
   go_wp2_with fail
   refine wp_scope_fwd 0 rfl ?_
   go_wp2_with fail
   refine HNO.out.mono ?_
   rintro e w1 ⟨rfl,rfl⟩
   go_wp2_with fail
   refine HSV.out.mono ?_
   rintro e W2 ⟨rfl,hB⟩
   have HB2:=Lib.hid hB
   have HD2:=Lib.hid (HD.out.below hB)
   have HS:Hid (W2.drew.cell? ⟨D,0,none⟩=some (.int .i64 (k:Int))∧W2.drew.cell? ⟨D,1,none⟩=some (.int .i64 (f:Int))∧W2.drew.cell? ⟨D,2,none⟩=some (.int .i64 lim)):=Lib.hid ⟨HD2.out.b.cell rfl,HD2.out.b.cell rfl,HD2.out.b.cell rfl⟩
   clear hB
   go_wp2_with fail
   refine Q_start (fun W9=>W9.cell? ⟨D,0,none⟩=some (.int .i64 (k:Int))∧W9.cell? ⟨D,1,none⟩=some (.int .i64 (f:Int))∧W9.cell? ⟨D,2,none⟩=some (.int .i64 lim)) 18 24 ?_
   refine Q_W 0 19 1 (.pointer (some ⟨D,0,none⟩)) rfl HS.out ?_
   simp only [z0,z1,z2]
   refine Q_W 1 20 3 (.pointer (some ⟨D,0,none⟩)) rfl HS.out ?_
   simp only [z0,z1,z2]
   refine Q_W 2 21 7 (.pointer (some ⟨D,0,none⟩)) rfl HS.out ?_
   simp only [z0,z1,z2]
   refine Q_W 3 22 15 (.pointer (some ⟨D,0,none⟩)) rfl HS.out ?_
   simp only [z0,z1,z2]
   refine Q_T 4 23 31 (.int .i64 (k:Int)) [] rfl HS.out (.inl ⟨by rfl,fun W hS=>by obtain⟨s0,s1,s2⟩:=hS;go_simp⟩) ?_
   simp only [z0,z1,z2]
   refine Q_W 5 24 63 (.pointer (some ⟨D,0,none⟩)) rfl HS.out ?_
   simp only [z0,z1,z2]
   refine Q_W 6 25 127 (.pointer (some ⟨D,0,none⟩)) rfl HS.out ?_
   simp only [z0,z1,z2]
   refine Q_W 7 26 255 (.pointer (some ⟨D,0,none⟩)) rfl HS.out ?_
   simp only [z0,z1,z2]
   refine Q_W 8 27 511 (.pointer (some ⟨D,1,none⟩)) rfl HS.out ?_
   simp only [z0,z1,z2]
   refine Q_T 9 28 1023 (.int .i64 (f:Int)) [] rfl HS.out (.inl ⟨by rfl,fun W hS=>by obtain⟨s0,s1,s2⟩:=hS;go_simp⟩) ?_
   simp only [z0,z1,z2]
   refine Q_W 10 29 2047 (.pointer (some ⟨D,0,none⟩)) rfl HS.out ?_
   simp only [z0,z1,z2]
   refine Q_W 11 30 4095 (.pointer (some ⟨D,0,none⟩)) rfl HS.out ?_
   simp only [z0,z1,z2]
   refine Q_W 12 31 8191 (.pointer (some ⟨D,0,none⟩)) rfl HS.out ?_
   simp only [z0,z1,z2]
   refine Q_W 13 32 16383 (.pointer (some ⟨D,2,none⟩)) rfl HS.out ?_
   simp only [z0,z1,z2]
   refine Q_T 14 33 32767 (.int .i64 lim) [] rfl HS.out (.inl ⟨by rfl,fun W hS=>by obtain⟨s0,s1,s2⟩:=hS;go_simp⟩) ?_
   simp only [z0,z1,z2]
   refine Q_W 15 34 65535 (.int .i64 (rv:Int)) rfl HS.out ?_
   simp only [z0,z1,z2]
   refine Q_W 16 35 131071 (.slice A m c) rfl HS.out ?_
   simp only [z0,z1,z2]
   refine Q_W 17 36 262143 (.int .i64 (m:Int)) rfl HS.out ?_
   simp only [z0,z1,z2]
   refine Q_1 18 524287 rfl (fun K hK=>?_)
   go_simp
   refine(HPO.out W2.drew).mono ?_
   rintro e w3 ⟨hB,hp⟩
   have HB3:Hid (Below W2.heap.size W2 w3):=Lib.hid ((Below.refl _ W2).drew.trans hB)
   have HP3:=Lib.hid hp
   clear hB hp
   rcases HP3.out with⟨g1,g2,rfl⟩ | ⟨g1,-⟩
   · refine hK _ _ ?_
     clear hK K g1 g2 HP3
     refine Q_1 19 1048575 rfl (fun K hK=>?_)
     go_simp
     refine hK _ _ ?_
     clear hK K
     refine Q_X 20 38 2097151 (.slice none 0 0) rfl ?_
     simp only [z0,z1,z2]
     refine Q_X 21 39 4194303 (.int .i64 10) rfl ?_
     simp only [z0,z1,z2]
     refine Q_1 22 8388607 rfl (fun K hK=>?_)
     go_simp
     refine hK _ _ ?_
     clear hK K
     refine Q_1 23 16777215 rfl (fun K hK=>?_)
     go_simp
     refine hK _ _ ?_
     clear hK K
     refine Q_end ?_
     go_wp2_with fail
     go_step3
     refine⟨rfl,?_⟩
     go_wp2
     simp only [Exit.jump]
     go_ret
     have hB9:=HB2.out.trans (HB3.out.mono HB2.out.size)
     exact⟨hB9.mono HBS.out,fun q hq _ _=>hB9.block q hq,.inl ⟨HX.out.1,HX.out.2,rfl,HD2.out.below HB3.out⟩⟩
   · exact absurd HX.out (by omega)
 · have HX:=Lib.hid hx
   clear hx
   go_wp2_with fail
   go_step3
   go_wp2_with fail
   refine HNO.out.mono ?_
   rintro e w1 ⟨rfl,rfl⟩
   go_wp2_with fail
   refine HSV.out.mono ?_
   rintro e W2 ⟨rfl,hB⟩
   have HB2:=Lib.hid hB
   have HD2:=Lib.hid (HD.out.below hB)
   have HL2:=Lib.hid (Rdv.below HL.out hB)
   have HS:Hid (W2.drew.cell? ⟨D,0,none⟩=some (.int .i64 (k:Int))∧W2.drew.cell? ⟨D,1,none⟩=some (.int .i64 (f:Int))∧W2.drew.cell? ⟨D,2,none⟩=some (.int .i64 lim)):=Lib.hid ⟨HD2.out.b.cell rfl,HD2.out.b.cell rfl,HD2.out.b.cell rfl⟩
   clear hB
   go_wp2_with fail
   refine Q_start (fun W9=>W9.cell? ⟨D,0,none⟩=some (.int .i64 (k:Int))∧W9.cell? ⟨D,1,none⟩=some (.int .i64 (f:Int))∧W9.cell? ⟨D,2,none⟩=some (.int .i64 lim)) 18 24 ?_
   refine Q_W 0 19 1 (.pointer (some ⟨D,0,none⟩)) rfl HS.out ?_
   simp only [z0,z1,z2]
   refine Q_W 1 20 3 (.pointer (some ⟨D,0,none⟩)) rfl HS.out ?_
   simp only [z0,z1,z2]
   refine Q_W 2 21 7 (.pointer (some ⟨D,0,none⟩)) rfl HS.out ?_
   simp only [z0,z1,z2]
   refine Q_W 3 22 15 (.pointer (some ⟨D,0,none⟩)) rfl HS.out ?_
   simp only [z0,z1,z2]
   refine Q_T 4 23 31 (.int .i64 (k:Int)) [] rfl HS.out (.inl ⟨by rfl,fun W hS=>by obtain⟨s0,s1,s2⟩:=hS;go_simp⟩) ?_
   simp only [z0,z1,z2]
   refine Q_W 5 24 63 (.pointer (some ⟨D,0,none⟩)) rfl HS.out ?_
   simp only [z0,z1,z2]
   refine Q_W 6 25 127 (.pointer (some ⟨D,0,none⟩)) rfl HS.out ?_
   simp only [z0,z1,z2]
   refine Q_W 7 26 255 (.pointer (some ⟨D,0,none⟩)) rfl HS.out ?_
   simp only [z0,z1,z2]
   refine Q_W 8 27 511 (.pointer (some ⟨D,1,none⟩)) rfl HS.out ?_
   simp only [z0,z1,z2]
   refine Q_T 9 28 1023 (.int .i64 (f:Int)) [] rfl HS.out (.inl ⟨by rfl,fun W hS=>by obtain⟨s0,s1,s2⟩:=hS;go_simp⟩) ?_
   simp only [z0,z1,z2]
   refine Q_W 10 29 2047 (.pointer (some ⟨D,0,none⟩)) rfl HS.out ?_
   simp only [z0,z1,z2]
   refine Q_W 11 30 4095 (.pointer (some ⟨D,0,none⟩)) rfl HS.out ?_
   simp only [z0,z1,z2]
   refine Q_W 12 31 8191 (.pointer (some ⟨D,0,none⟩)) rfl HS.out ?_
   simp only [z0,z1,z2]
   refine Q_W 13 32 16383 (.pointer (some ⟨D,2,none⟩)) rfl HS.out ?_
   simp only [z0,z1,z2]
   refine Q_T 14 33 32767 (.int .i64 lim) [] rfl HS.out (.inl ⟨by rfl,fun W hS=>by obtain⟨s0,s1,s2⟩:=hS;go_simp⟩) ?_
   simp only [z0,z1,z2]
   refine Q_W 15 34 65535 (.int .i64 (rv:Int)) rfl HS.out ?_
   simp only [z0,z1,z2]
   refine Q_W 16 35 131071 (.slice A m c) rfl HS.out ?_
   simp only [z0,z1,z2]
   refine Q_W 17 36 262143 (.int .i64 (m:Int)) rfl HS.out ?_
   simp only [z0,z1,z2]
   refine Q_1 18 524287 rfl (fun K hK=>?_)
   go_simp
   refine(HPO.out W2.drew).mono ?_
   rintro e w3 ⟨hB,hp⟩
   have HB3:Hid (Below W2.heap.size W2 w3):=Lib.hid ((Below.refl _ W2).drew.trans hB)
   have HP3:=Lib.hid hp
   clear hB hp
   rcases HP3.out with⟨g1,g2,rfl⟩ | ⟨g1,Ap,cp,T,hlen,rfl,hO⟩
   · exact absurd ⟨g1,g2⟩ HX.out
   · have HO3:=Lib.hid hO
     have HLE:=Lib.hid hlen
     have HOR:=Lib.hid g1
     refine hK _ _ ?_
     clear hK K g1 HP3 hO hlen
     refine Q_1 19 1048575 rfl (fun K hK=>?_)
     go_simp
     refine hK _ _ ?_
     clear hK K
     refine Q_X 20 38 2097151 (.slice Ap m cp) rfl ?_
     simp only [z0,z1,z2]
     refine Q_X 21 39 4194303 (.int .i64 0) rfl ?_
     simp only [z0,z1,z2]
     refine Q_1 22 8388607 rfl (fun K hK=>?_)
     go_simp
     refine hK _ _ ?_
     clear hK K
     refine Q_1 23 16777215 rfl (fun K hK=>?_)
     go_simp
     refine hK _ _ ?_
     clear hK K
     refine Q_end ?_
     have hD3:=HD2.out.below HB3.out
     have hV:=hD3.ne
     have hgeV:=Ownv.blk_of HD2.out.v HD2.out.ne
     have hDV:some (blk V)≠some D:=own_ne_blk hD3.v hD3.b (by decide) hV
     have HCB:=Lib.hid (combined_any V (3*(k+4)) vc base vs Ap m cp _ A c l w3 hD3.v (Own.rd HO3.out) (Rdv.below HL2.out HB3.out) (fun hA e=>by
      have h9:=(Ownv.blk_of HO3.out hA).1
      have h8:W2.heap.size≤blk Ap:=h9
      omega) HAV.out (fun j hj=>HPB.out T j (by have:=HLE.out;omega)) (by omega))
     have c43:=hD3.b.cell (j:=3) (v:=.slice V (3*(k+4)) vc) rfl
     have HD3:=Lib.hid hD3
     have HDV:=Lib.hid hDV
     have HGV:=Lib.hid (And.intro (Ownv.blk_of HD2.out.v HD2.out.ne).1 hV)
     clear hD3 hV hgeV hDV
     go_wp2_with fail
     refine HCB.out.mono ?_
     rintro e w4 ⟨⟨v,rfl⟩,hO4,hG4⟩
     have hb4:=HD3.out.b.grown hG4 (fun e=>HDV.out (by rw [e]))
     have c44:=hb4.cell (j:=4) (v:=.int .i64 cnt) rfl
     have f44:=hb4.frozen 4
     have HB4:=Lib.hid hb4
     have HO4:=Lib.hid hO4
     have HG4:=Lib.hid hG4
     have q9:IntKind.i64.wrap (cnt+(m:Int))=cnt+(m:Int):=IntWalk.i64_in _ (by omega)
     clear c43 hb4 hO4 hG4
     go_wp2
     rw [Exit.noGoto_ret]
     go_ret
     have hs:=grownBy_set w4 D 4 (.int .i64 (cnt+(m:Int)))
     have hB9:=(HB2.out.trans (HB3.out.mono HB2.out.size)).mono HBS.out
     have hB8:=(hB9.grown HG4.out (Nat.le_trans HBS.out (Nat.le_trans HB2.out.size HB3.out.size)) (fun r e=>by cases e;exact HGV.out.1))
     have hB7:=HB2.out.trans (HB3.out.mono HB2.out.size)
     exact⟨hB8.grown hs (Nat.le_trans HBS.out (Nat.le_trans HB2.out.size (Nat.le_trans HB3.out.size HG4.out.size))) (fun r e=>by cases e;exact HD3.out.d),fun q hq hD hV=>((hs.block q (Nat.lt_of_lt_of_le hq (Nat.le_trans hB7.size HG4.out.size)) (fun e=>hD (Option.some.inj e))).trans (HG4.out.block q (Nat.lt_of_lt_of_le hq hB7.size) (fun e=>hV (Option.some.inj e)))).trans (hB7.block q hq),.inr ⟨HOR.out,T,HLE.out,rfl,HB4.out.set 4 _,Ownv.grown HO4.out hs (fun hA=>HDV.out),HD3.out.d⟩⟩
def idL(m:Int)(bits:List Int):List Int:=bits.map (idI m)
theorem ideal_ok(A:Option Addr)(n c:Nat)(bits:List Int)(m:Int)(w:World)(hr:Rd .u8 w A n c bits)(hv:Cr.ValidB bits=true)(h0:∀ x ∈ bits,0≤x)(hm:0≤m∧m≤127)(hn:n≤200000) :
 Calls Tryz.prog 14 #[.slice A n c,.int .i64 m] w fun e w'=>∃ R,e= .returned (.tuple #[.slice R n n,.int .i64 0])∧Rd .i64 w' R n n (idL m bits)∧(R≠none→w.heap.size≤blk R)∧Below w.heap.size w w':=by
 obtain⟨W0,hW0⟩:∃ W0,W0=(w.alloc (.cells #[.slice A n c] 28)).alloc (.cells #[.int .i64 m] 3):=⟨_,rfl⟩
 have hb0:Below w.heap.size w W0:=by rw [hW0];exact((Below.refl _ w).alloc (Nat.le_refl _) _).alloc (by simp) _
 have xB:Blk W0 w.heap.size 28 [.slice A n c]:=by rw [hW0];exact(Blk.new w [.slice A n c] _ rfl).alloc _
 have xM:Blk W0 (w.heap.size+1) 3 [.int .i64 m]:=by rw [hW0];exact Blk.new (w.alloc _) [.int .i64 m] 3 (by simp)
 have HR0:=Lib.hid (Rdv.below hr hb0)
 have HW0:=Lib.hid hW0
 have HXB:=Lib.hid xB
 have HXM:=Lib.hid xM
 have HB0:=Lib.hid hb0
 have HV:=Lib.hid hv
 have HBT:=Lib.hid (fun i (hi:i<n)=>show gi bits i=0∨gi bits i=1 from by
  have hl:=Rd.len hr
  have hmem:=gi_mem bits i (by omega)
  have ha:=h0 _ hmem
  have hb:=(List.all_eq_true.1 hv) _ hmem
  simp at hb
  omega)
 have HLN:=Lib.hid (Rd.len hr)
 have d0:decide (m ≥ 0)=true:=by simp;omega
 have d1:decide (m≤127)=true:=by simp;omega
 have HM:=Lib.hid hm
 clear hb0 xB xM hr hv h0 hm
 go_enter Tryz.func14,Tryz.ntmps14
 go_wp2_with fail
 rw [← HW0.out]
 obtain⟨BB,hBB⟩:∃ BB,BB=w.heap.size:=⟨_,rfl⟩
 obtain⟨MB,hMB⟩:∃ MB,MB=w.heap.size+1:=⟨_,rfl⟩
 rw [← hMB]at HXM ⊢
 rw [← hBB]at HXB ⊢
 have HBB:=Lib.hid hBB
 clear hBB hMB HW0 hW0
 have HS:Hid (W0.drew.cell? ⟨MB,0,none⟩=some (.int .i64 m)∧W0.drew.cell? ⟨BB,0,none⟩=some (.slice A n c)):=Lib.hid ⟨HXM.out.cell (j:=0) rfl,HXB.out.cell (j:=0) rfl⟩
 have HBI:=Lib.hid (Cr.sbinary_any A n c bits W0.drew (Rdv.drew HR0.out))
 rw [if_pos HV.out]at HBI
 have HF1:=Lib.hid (first2_any (some ⟨W0.heap.size,0,none⟩) 2 0 0 (W0.drew.alloc (.cells #[.int .i64 0,.int .i64 0] 24)) ((Ownv.lit (base:=0) W0.drew #[.int .i64 0,.int .i64 0] 24 rfl (Nat.zero_le _) (by show 2≤maxLen;unfold maxLen;omega)).rd))
 rw [if_pos rfl]at HF1
 refine Q_start (fun W9=>W9.cell? ⟨MB,0,none⟩=some (.int .i64 m)∧W9.cell? ⟨BB,0,none⟩=some (.slice A n c)) 8 12 ?_
 refine Q_T 0 7 1 (.int .i64 m) [6,5,2,1] rfl HS.out (.inl ⟨by rfl,fun W hS=>by obtain⟨s0,s1⟩:=hS;go_simp⟩) ?_
 simp only [z0,z1,z2]
 refine Q_W 1 8 3 (.bool true) rfl HS.out ?_
 simp only [z0,z1,z2]
 refine Q_W 2 9 7 (.bool true) rfl HS.out ?_
 simp only [z0,z1,z2]
 refine Q_T 3 10 15 (.int .i64 m) [6,5,4] rfl HS.out (.inl ⟨by rfl,fun W hS=>by obtain⟨s0,s1⟩:=hS;go_simp⟩) ?_
 simp only [z0,z1,z2]
 refine Q_W 4 11 31 (.bool true) rfl HS.out ?_
 simp only [z0,z1,z2]
 refine Q_W 5 12 63 (.bool true) rfl HS.out ?_
 simp only [z0,z1,z2]
 refine Q_T 7 14 191 (.slice A n c) [] rfl HS.out (.inl ⟨by rfl,fun W hS=>by obtain⟨s0,s1⟩:=hS;go_simp⟩) ?_
 simp only [z0,z1,z2]
 refine Q_1S 6 255 rfl (fun K hK=>?_)
 go_simp
 refine(sarg_any true _).mono ?_
 rintro e w1 ⟨rfl,rfl⟩
 refine hK _ _ HS.out ?_
 clear hK K
 refine Q_1 8 511 rfl (fun K hK=>?_)
 go_simp
 refine HBI.out.mono ?_
 rintro e w1 ⟨rfl,rfl⟩
 refine hK _ _ ?_
 clear hK K
 refine Q_1 9 1023 rfl (fun K hK=>?_)
 go_simp
 refine hK _ _ ?_
 clear hK K
 refine Q_1 10 2047 rfl (fun K hK=>?_)
 go_simp
 refine HF1.out.mono ?_
 rintro e w1 ⟨rfl,rfl⟩
 refine hK _ _ ?_
 clear hK K
 refine Q_1 11 4095 rfl (fun K hK=>?_)
 go_simp
 refine hK _ _ ?_
 clear hK K
 refine Q_end ?_
 have HB1:Hid (Below W0.heap.size W0 (W0.alloc (.cells #[.int .i64 0,.int .i64 0] 24)).drew):=Lib.hid ((Below.refl _ W0).alloc (Nat.le_refl _) _).drew
 generalize (W0.alloc (.cells #[.int .i64 0,.int .i64 0] 24)).drew=W1 at *
 have HXB1:=Lib.hid (HXB.out.below HB1.out)
 have HXM1:=Lib.hid (HXM.out.below HB1.out)
 have HR1:=Lib.hid (Rdv.below HR0.out HB1.out)
 have cB:=HXB1.out.cell (j:=0) (v:=.slice A n c) rfl
 have HMP:=Lib.hid (mapped_ok (.pointer (some ⟨MB,0,none⟩)) (.pointer (some ⟨BB,0,none⟩)) (fun j=>idI m (gi bits j)) n W1 (by omega) (fun j hj wr hB=>ideal1_any MB BB A n c bits m j wr (HXM1.out.below hB) (HXB1.out.below hB) (Rdv.below HR1.out hB) hj (HBT.out j hj) HM.out))
 have hmf:∀ (fn:Fn) (first cap:Array Value) (w:World),(Instr.makeFunc fn first cap).run Tryz.prog w= .ok (.func fn first cap) w:=fun _ _ _ _=>rfl
 clear d0 d1
 go_wp2_with fail
 refine HMP.out.mono ?_
 rintro e w3 ⟨R,rfl,hR,hRn,hB⟩
 have HR:=Lib.hid hR
 have HRn:=Lib.hid hRn
 have HB3:=Lib.hid hB
 clear hR hRn hB
 go_wp2
 go_ret2
 have hB9:=HB0.out.trans ((HB1.out.trans (HB3.out.mono HB1.out.size)).mono HB0.out.size)
 have hE:idL m bits=(List.range n).map (fun j=>idI m (gi bits j)):=by
  rw [← HLN.out]
  refine ext_gi (by simp [idL]) fun i hi=>?_
  have hi2:i<bits.length:=by simpa [idL] using hi
  rw [gi_range _ hi2]
  unfold idL
  rw [gi_eq _ _ (by simpa using hi2),List.getElem_map,← gi_eq _ _ hi2]
 exact⟨R,rfl,by rw [hE];exact HR.out,fun hA=>Nat.le_trans HB0.out.size (Nat.le_trans HB1.out.size (HRn.out hA)),hB9⟩
end Go.Proofs.YtkdfefpnhaebfaaGreat
