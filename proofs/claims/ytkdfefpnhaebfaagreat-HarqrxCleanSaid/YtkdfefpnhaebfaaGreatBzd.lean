/- Bundle. Conditions: none. -/
import Derived.Test.YtkdfefpnhaebfaaGreatBzc
set_option linter.unusedVariables false
set_option linter.unusedSimpArgs false
set_option linter.unusedSectionVars false
namespace Go.Proofs.YtkdfefpnhaebfaaGreat
set_option maxRecDepth 100000
set_option maxHeartbeats 8000000
open Go.RowKit
attribute [local go_sem] Oper.semAt_some
theorem ix_ex(a:Int)(n:Nat)(hn:0<n)(h:n≤100000):∃ i:Nat,i<n∧wrap64 ((IntKind.u64.wrap a).tmod (n:Int))=(i:Int):=by
 have h0:=wrap_u64_nonneg a
 rw [Int.tmod_eq_emod_of_nonneg h0]
 have h1:=Int.emod_nonneg (IntKind.u64.wrap a) (show(n:Int)≠0 by omega)
 have h2:=Int.emod_lt_of_pos (IntKind.u64.wrap a) (show 0<(n:Int) by omega)
 generalize IntKind.u64.wrap a % (n:Int)=r at *
 exact⟨r.toNat,by omega,by unfold wrap64;omega⟩
def ClI(w1:World)(s:Nat)(A:Option Addr)(sd i:Value)(wr:World):Prop:=∃ (j:Nat) (q:Int) (xs:List Int),j≤s∧i= .int .i64 j∧sd= .int .u32 q∧Own .u8 5 wr w1.heap.size A s s xs∧Cr.Bit xs∧Below w1.heap.size w1 wr
theorem bit_set{xs:List Int}{j:Nat}{v:Int}(h:Cr.Bit xs)(hj:j<xs.length)(hv:v=0∨v=1):Cr.Bit (xs.set j v):=fun y hy=>by
 rcases List.mem_or_eq_of_mem_set hy with h1 | rfl
 · exact h y h1
 · exact hv
def llB(s K F:Nat):List Int:=[((s+24:Nat):Int),1,(K:Int),(Cr.sh (s+24):Int),(Cr.los (s+24):Int),(Cr.shs (s+24):Int),(F:Int)]
theorem lay_lit{s:Nat}(h1:1≤s)(h2:s≤472)(w:World):Calls Tryz.prog 12 #[.int .i64 (s:Int)] w fun e w'=>e= .returned (.tuple #[.agg (ints8 (llB s (kS s) (fS s))).toArray,.int .i64 0])∧Below w.heap.size w w':=by
 obtain⟨k1,k2,-⟩:=ks_nat h1 h2
 have hl:Cr.ly15 (s:Int)=(llB s (kS s) (fS s),0):=by
  unfold Cr.ly15
  rw [if_neg (by omega),show((s:Int)+24).toNat=s+24 by omega]
  unfold Cr.LY llB
  rw [Cr.bC_one (by omega),k1,k2]
  rfl
 have h:=Cr.lay_any (s:Int) w
 rw [hl]at h
 exact h
theorem validB_t'{xs:List Int}(h:∀ y ∈ xs,y=0∨y=1):Cr.ValidB xs=true:=Cr.bit_valid h
theorem id_bd{mg:Int}(hm:1≤mg∧mg≤127){W:List Int}(hw:Cr.Bit W)(q:Nat):-127≤idI mg (gi W q)∧idI mg (gi W q)≤127:=by
 unfold idI
 rcases Cr.bit_gi hw q with h | h<;>rw [h]<;>simp<;>omega
theorem fl_soft{ys:List Int}{mg:Int}{n a b:Nat}{x:List Bool}{p:Nat→Nat}(hm:1≤mg∧mg≤127)(hl:ys.length=n)(h:∀ q,q<n→gi ys q=(if q=a∨q=b then -1 else 1)*idI mg (gi (x.map ib) (p q))):SoftB ys=true:=all_gi.2 fun j hj=>by
 have h1:=id_bd hm (W:=x.map ib) (Cr.bit_ib x) (p j)
 have h2:=h j (by omega)
 have h3:-127≤gi ys j∧gi ys j≤127:=by rw [h2];split<;>omega
 simpa using h3
theorem clean_b{xs:List Int}(hb:Cr.Bit xs)(h1:1≤xs.length)(h2:xs.length≤472){half rv:Nat}{mg:Int}(hm:1≤mg∧mg≤127)(hh:1≤half∧half≤64)(a b:Nat)(ys:List Int)
 (hy:∀ q,q<nU xs.length→gi ys q=(if q=a∨q=b then -1 else 1)*idI mg (gi ((Tu.wrd (Tu.toB (wL xs))).map ib) (gi (slP (xs.length:Nat) 1048576 rv (nU xs.length)) q).toNat)) :
 bZ (half:Int) (zI (xs.length:Nat) 1048576) rv (nU xs.length) ys=some (wL xs):=by
 have h:=clean2 (x:=Tu.toB (wL xs)) h1 h2 (by have:=wL_len hb h1 h2;simpa [Tu.toB] using this) (wL_fill hb h1 h2) hm hh a b ys hy (by rw [wL_bool hb h1 h2];exact wL_chk hb h1 h2)
 rw [wL_bool hb h1 h2]at h
 exact h
theorem fn_lap{xs:List Int}(hb:Cr.Bit xs)(h1:1≤xs.length)(h2:xs.length≤472):fnK (xs.length:Nat) (some (wL xs))=1∧fnO (xs.length:Nat) (some (wL xs))=xs∧fnS 1 (xs.length:Nat) (some (wL xs))=2:=by
 obtain⟨e1,e2⟩:=wL_te hb h1 h2
 unfold fnK fnO fnS
 dsimp only
 rw [if_pos e1,if_pos e1,if_pos e1]
 exact⟨rfl,e2,rfl⟩
theorem rc_lap{s r n:Nat}{ys:List Int}(h1:1≤s)(h2:s≤472)(hr:r≤3)(hn:n=nU s)(hs:SoftB ys=true):rcE 0 0 0 (s:Int) (n:Int) 2 1048576 (r:Int) true ys n=0:=by
 obtain⟨k1,k2,k3,k4,k5,k6⟩:=ks_nat h1 h2
 obtain⟨u,hu,hu2⟩:=lo_small (b:=s+24) (by omega) (by omega)
 have hN:nU s=3*(kS s+4) - 2*fS s:=rfl
 have hV:Cr.VC (s:Int) (n:Int) 2 1048576 (r:Int)=true:=by
  unfold Cr.VC
  rw [decide_eq_true_iff]
  omega
 have hp:spE (s:Int) (n:Int) 2 1048576 (r:Int) n=0:=by
  unfold spE
  rw [if_neg (by rw [hV];simp),if_neg (fun h=>us_full h1 h2 h.1)]
 unfold rcE
 rw [hp,if_neg (by rw [hs];rintro(h | h)<;>cases h),if_neg]
 rintro⟨⟨h,-⟩,-⟩
 cases h
theorem u64_in{n:Int}(h:0≤n∧n≤100000):IntKind.u64.wrap n=n:=by
 show n % 18446744073709551616=n
 omega
theorem clean_any(half size sd rv mg i k:Int)(w:World):Calls Tryz.prog 3 #[.int .i64 half,.int .i64 size,.int .u32 sd,.int .i64 rv,.int .i64 mg,.int .i64 i,.int .i64 k] w fun e w'=>e= .returned (.bool true)∧Below w.heap.size w w':=by
 by_cases hh:half<1∨64<half
 · have HN:=Lib.hid (hnew_bad half w hh)
   clear hh
   go_enter Tryz.func3,Tryz.ntmps3
   go_wp2_with fail
   refine HN.out.mono ?_
   rintro e w1 ⟨rfl,rfl⟩
   go_wp2_with fail
   refine(known_ok _).mono ?_
   rintro e w2 ⟨rfl,hB⟩
   go_wp2
   go_ret
   exact⟨rfl,hB⟩
 obtain⟨half,rfl⟩:=Int.eq_ofNat_of_zero_le (show 0≤half by omega)
 have HN:=Lib.hid (hnew_ok half w (by omega))
 have H0:Hid ((half:Int)≠0):=Lib.hid (by omega)
 have HHF:Hid (1≤half∧half≤64):=Lib.hid (by omega)
 clear hh
 by_cases hbad:size<1∨200<size∨rv<0∨3<rv∨mg<1∨127<mg
 · rcases (by omega:size<1∨(¬ size<1∧200<size)∨(¬ size<1∧¬ 200<size∧rv<0)∨(¬ size<1∧¬ 200<size∧¬ rv<0∧3<rv)∨(¬ size<1∧¬ 200<size∧¬ rv<0∧¬ 3<rv∧mg<1)∨(¬ size<1∧¬ 200<size∧¬ rv<0∧¬ 3<rv∧¬ mg<1∧127<mg)) with b1 | ⟨b1,b2⟩ | ⟨b1,b2,b3⟩ | ⟨b1,b2,b3,b4⟩ | ⟨b1,b2,b3,b4,b5⟩ | ⟨b1,b2,b3,b4,b5,b6⟩<;>(
    clear hbad
    go_enter Tryz.func3,Tryz.ntmps3
    go_wp2_with fail
    refine HN.out.mono ?_
    rintro e w1 ⟨P,rfl,-,hB1⟩
    have HB1:=Lib.hid hB1
    clear hB1
    go_wp2_with fail
    refine(known_ok _).mono ?_
    rintro e wk ⟨rfl,hBk⟩
    go_wp2
    go_ret
    exact⟨rfl,HB1.out.trans (hBk.mono HB1.out.size)⟩)
 obtain⟨s,rfl⟩:=Int.eq_ofNat_of_zero_le (show 0≤size by omega)
 obtain⟨r,rfl⟩:=Int.eq_ofNat_of_zero_le (show 0≤rv by omega)
 have HS:Hid (1≤s∧s≤200):=Lib.hid (by omega)
 have HRV:Hid (r≤3):=Lib.hid (by omega)
 have HM:Hid (1≤mg∧mg≤127):=Lib.hid (by omega)
 have b1:¬ (s:Int)<1:=by omega
 have b2:¬ 200<(s:Int):=by omega
 have b3:¬ (r:Int)<0:=by omega
 have b4:¬ 3<(r:Int):=by omega
 have b5:¬ mg<1:=by omega
 have b6:¬ 127<mg:=by omega
 clear hbad
 go_enter Tryz.func3,Tryz.ntmps3
 go_wp2_with fail
 refine HN.out.mono ?_
 rintro e w1 ⟨P,rfl,hP1,hB1⟩
 have HP1:=Lib.hid hP1
 have HB1:=Lib.hid hB1
 clear hP1 hB1 HN
 go_wp2_with (at_make;refine list_of rfl fun K hK=>wp_mk (n:=s) _ _ 28 rfl el26 rfl rfl (by omega) (by unfold maxLen;omega) ?_;intro A w2 hO2 hB2 hA2;refine hK _ _ ?_;clear hK K)
 have HST:Hid (ClI w1 s A (.int .u32 sd) (.int .i64 0) w2):=Lib.hid ⟨0,sd,List.replicate s 0,Nat.zero_le _,rfl,rfl,Own.of_eq hO2 rfl (by simp),Cr.bit_zeros _,hB2⟩
 clear b3 b4 b5 b6 hO2 hB2 hA2
 go_loopw [2,18] (fun v i wr=>ClI w1 s A v i wr) (fun _ i _=>s - (intOf i).toNat)
 case atStart=>exact HST.out
 case round =>
  obtain⟨j,q,xs,hj,rfl,rfl,hO,hb,hB⟩:=hrel
  clear HST
  by_cases hlt:j<s
  · have hix:=fun W=>Rdv.ix (Own.rd hO) el26 hlt .i64 W
    have hcell:=Rd.cell (Own.rd hO) hlt
    have hfz:=Ownv.frozen hO (by omega) j
    have HSET:=Lib.hid (Own.set_ hO hlt ((q*1664525+1013904223) % 4294967296 / 2147483648))
    have HBT:=Lib.hid hb
    have HBr:=Lib.hid hB
    have HLV:=Lib.hid (Rd.len (Own.rd hO))
    have HGE:=Lib.hid (Ownv.blk_ge hO (by omega)).1
    clear hO hb hB
    go_wp2_with fail
    go_roundw
    case rel=>exact⟨j+1,_,_,by omega,by go_num,rfl,HSET.out.1,bit_set HBT.out (by rw [HLV.out];exact hlt) (by omega),HBr.out.grown HSET.out.2 HBr.out.size (fun k hk=>by have:=Option.some.inj hk;have:=HGE.out;omega)⟩
    case measure=>simp [intOf];omega
  · obtain rfl:j=s:=by omega
    have HXL:=Lib.hid (Rd.len (Own.rd hO))
    have HO:=Lib.hid hO
    have HBT:=Lib.hid hb
    have HBr:=Lib.hid (HB1.out.trans (hB.mono HB1.out.size))
    have HPr:=Lib.hid (HP1.out.below hB)
    clear hO hb hB hlt hj
    obtain⟨k1,k2,k3,k4,k5,k6⟩:=ks_nat HS.out.1 (by have:=HS.out.2;omega)
    have HLY:=Lib.hid (lay_lit HS.out.1 (by have:=HS.out.2;omega) wr)
    have HNU:Hid (nU j=3*(kS j+4) - 2*fS j):=Lib.hid rfl
    obtain⟨u,hu,hu2⟩:=lo_small (b:=j+24) (by omega) (by have:=HS.out.2;omega)
    obtain⟨g,hg⟩:∃ g,2*g=nU j:=⟨(nU j) / 2,by rw [HNU.out,k1,hu];omega⟩
    have HG:=Lib.hid hg
    have HKB:Hid (40≤kS j∧kS j≤496∧fS j<kS j):=Lib.hid ⟨k5,k6,k4⟩
    obtain⟨N,hN⟩:∃ N,N=nU j:=⟨_,rfl⟩
    have HN:=Lib.hid hN
    have hgn:(3*((kS j:Int)+4) - 2*(fS j:Int))=(N:Int):=by rw [hN,HNU.out];omega
    have HNB:Hid (0<N∧N≤2000):=Lib.hid (by rw [hN,HNU.out];omega)
    clear hu hu2 k1 k2 k3 hg hN
    generalize kS j=kk at *
    generalize fS j=ff at *
    go_wp2_with (first
     | (go_at_call 12;refine HLY.out.mono ?_;rintro e w3 ⟨rfl,hB3⟩
        have hL0:Blk (w3.alloc (.cells #[.int .i64 0,.int .i64 0,.int .i64 0,.int .i64 0,.int .i64 0,.int .i64 0,.int .i64 0] 31)) w3.heap.size 31 [.int .i64 0,.int .i64 0,.int .i64 0,.int .i64 0,.int .i64 0,.int .i64 0,.int .i64 0]:=Blk.new w3 _ _ rfl
        have HBw3:=Lib.hid hB3
        clear hB3)
     | (refine strow (cs:=ints8 (llB j kk ff)) rfl 31 (.tmp 19) (.tmp 83) rfl rfl rfl hL0 (by simp [ints8,llB]) (by kernel_rfl) (ints8_one _) ?_
        intro w4 g1 g2
        have hq:=(Below.refl w3.heap.size w3).alloc (Nat.le_refl _) (.cells #[.int .i64 0,.int .i64 0,.int .i64 0,.int .i64 0,.int .i64 0,.int .i64 0,.int .i64 0] 31)
        have HB3:=Lib.hid (HBw3.out.trans ((hq.grown g2 hq.size (fun k hk=>by cases hk;exact Nat.le_refl _)).mono HBw3.out.size))
        have l1:w4.cell? ⟨w3.heap.size,1,none⟩=some (.int .i64 1):=g1.cell (by simp [ints8,llB])
        have l2:w4.cell? ⟨w3.heap.size,2,none⟩=some (.int .i64 (kk:Int)):=g1.cell (by simp [ints8,llB])
        have l6:w4.cell? ⟨w3.heap.size,6,none⟩=some (.int .i64 (ff:Int)):=g1.cell (by simp [ints8,llB])
        clear g1 g2 hq hL0 HBw3))
    clear hgn
    have HC5:=Lib.hid (Blk.new w4 [.int .i64 (j:Int),.int .i64 (N:Int),.int .i64 2,.int .i64 1048576,.int .i64 (r:Int)] 36 rfl)
    have HB5:=Lib.hid (HB3.out.trans ((bal (Below.refl w4.heap.size w4) (.cells #[.int .i64 (j:Int),.int .i64 (N:Int),.int .i64 2,.int .i64 1048576,.int .i64 (r:Int)] 36)).mono HB3.out.size))
    obtain⟨CB,hCB⟩:∃ CB,CB=w4.heap.size:=⟨_,rfl⟩
    rw [← hCB]at HC5 ⊢
    have HCB:Hid (CB<(w4.alloc (.cells #[.int .i64 (j:Int),.int .i64 (N:Int),.int .i64 2,.int .i64 1048576,.int .i64 (r:Int)] 36)).heap.size):=Lib.hid HC5.out.lt
    clear hCB l1 l2 l6
    generalize w4.alloc (.cells #[.int .i64 (j:Int),.int .i64 (N:Int),.int .i64 2,.int .i64 1048576,.int .i64 (r:Int)] 36)=w5 at *
    have HX5:=Lib.hid (Rdv.below (Own.rd HO.out) HB5.out)
    have HBw5:=Lib.hid (HBr.out.trans (HB5.out.mono HBr.out.size))
    have HP5:=Lib.hid (HPr.out.below HB5.out)
    have hxl:=HXL.out
    have hL:=sl_lap HS.out.1 (by have:=HS.out.2;omega) r
    have hEX:=ex_lap HBT.out (by rw [hxl];exact HS.out.1) (by rw [hxl];have:=HS.out.2;omega) g r (by rw [hxl];exact HG.out)
    rw [hxl]at hEX
    have HEN:=Cr.enc_ok j 1 g 2 r 1048576 A j j xs w5 HS.out.1 (by have:=HS.out.2;omega) (Cr.bC_one (by have:=HS.out.2;omega)).symm (.inl rfl) (by have:=HG.out;have:=HN.out;have:=HNB.out;omega) (by omega) HRV.out rfl HX5.out (fun y hy=>by rcases HBT.out y hy with h | h<;>omega)
    rw [show ((2*g:Nat):Int)=(N:Int) by rw [HN.out,HG.out]]at HEN
    refine HEN.mono ?_
    rintro e w6 ⟨A6,n6,c6,rfl,hO6,hB6⟩
    rw [hEX.1]
    rw [hEX.2]at hO6
    obtain rfl:n6=N:=by rw [← Rd.len (Own.rd hO6),List.length_map,HN.out];exact hL.1
    have HSB:Hid (∀ y ∈ (slP (j:Int) 1048576 r (nU j)).map (fun p=>gi ((Tu.wrd (Tu.toB (wL xs))).map ib) p.toNat),y=0∨y=1):=Lib.hid (fun y hy=>by
     obtain⟨p,-,rfl⟩:=List.mem_map.1 hy
     exact Cr.bit_gi (Cr.bit_ib _) _)
    have HLL:Hid ((slP (j:Int) 1048576 r (nU j)).length=n6):=Lib.hid (by rw [HN.out];exact hL.1)
    obtain⟨sent,hsent⟩:∃ l,l=(slP (j:Int) 1048576 r (nU j)).map (fun p=>gi ((Tu.wrd (Tu.toB (wL xs))).map ib) p.toNat):=⟨_,rfl⟩
    rw [← hsent]at hO6 HSB
    have HSE:=Lib.hid hsent
    have HR6:=Lib.hid (Own.rd hO6)
    have HB6:=Lib.hid hB6
    have HID:=Lib.hid (ideal_own A6 n6 c6 sent mg w6 HR6.out (validB_t' HSB.out) (fun y hy=>by rcases HSB.out y hy with h | h<;>omega) (by have:=HM.out;omega) (by have:=HNB.out;omega))
    clear hxl hL hEX HEN hO6 hB6 hsent
    go_wp2_with fail
    refine HID.out.mono ?_
    rintro e w7 ⟨R,rfl,cR,hO7,hB7⟩
    have HO7:=Lib.hid hO7
    have HB7:=Lib.hid hB7
    have HC7:=Lib.hid ((HC5.out.below HB6.out).below hB7)
    have c1:=HC7.out.cell (j:=1) (v:=.int .i64 (n6:Int)) rfl
    have hnn:((n6:Int) != (n6:Int))=false:=bne_f rfl
    have hn0:¬ (n6:Int)=0:=by have:=HNB.out;omega
    obtain⟨a,hA1,hA2⟩:=ix_ex i n6 HNB.out.1 (by have:=HNB.out;omega)
    obtain⟨b,hB1,hB2⟩:=ix_ex k n6 HNB.out.1 (by have:=HNB.out;omega)
    clear hO7 hB7
    go_wp2_with fail
    have hz:((n6:Int) == 0)=false:=beq_f (by omega)
    have hwn:IntKind.u64.wrap (n6:Int)=(n6:Int):=u64_in (by have:=HNB.out;omega)
    go_quiet (fail)
    rw [hA2,hB2]
    have HO8:=Lib.hid (Ownv.drewN HO7.out nq)
    have HB8:Hid (Below w6.heap.size w6 (w7.drewN nq)):=Lib.hid (HB7.out.trans (Qt.below ⟨nq,rfl⟩ _))
    have HC6:=Lib.hid (HC5.out.below HB6.out)
    have HP6:=Lib.hid (HP5.out.below HB6.out)
    have HX6:=Lib.hid (Rdv.below HX5.out HB6.out)
    have HBw6:=Lib.hid (HBw5.out.trans (HB6.out.mono HBw5.out.size))
    have HAP:Hid (A≠none→blk A≠P):=Lib.hid (fun hA=>by have h1:=(Cr.Ownv.blk_of HO.out hA).1;have h2:=HP1.out.p.lt;omega)
    clear HC7 c1 hA2 hB2 hwn hz hnn hn0
    generalize w7.drewN nq=w8 at *
    have HV:Hid (∀ q,q<n6→gi (idL mg sent) q=idI mg (gi ((Tu.wrd (Tu.toB (wL xs))).map ib) (gi (slP (j:Int) 1048576 r n6) q).toNat)):=Lib.hid (fun q hq=>by
     have h1:q<(slP (j:Int) 1048576 r (nU j)).length:=by rw [HLL.out];exact hq
     rw [gi_eq (idL mg sent) q (by rw [HSE.out];simp [idL];exact h1)]
     simp only [idL,HSE.out,List.map_map,List.getElem_map,Function.comp]
     rw [← gi_eq _ q h1,← HN.out])
    have HIL:Hid ((idL mg sent).length=n6):=Lib.hid (by rw [HSE.out];simp [idL];exact HLL.out)
    have hR8:=Rdv.capn (Own.rd HO8.out)
    have hcR:0<cR:=by have:=Rdv.le (Own.rd HO8.out);omega
    have hiG:=fun W=>Rdv.ix hR8 el22 hA1 .i64 W
    have hiH:=fun W=>Rdv.ix hR8 el22 hB1 .i64 W
    have cz1:=Rd.cell hR8 hA1
    have fz1:=Ownv.frozen HO8.out hcR a
    have hv1:-127≤gi (idL mg sent) a∧gi (idL mg sent) a≤127:=by rw [HV.out a hA1];exact id_bd HM.out (Cr.bit_ib _) _
    have hv2:-127≤gi (idL mg sent) b∧gi (idL mg sent) b≤127:=by rw [HV.out b hB1];exact id_bd HM.out (Cr.bit_ib _) _
    have hs1:=Own.set_ HO8.out hA1 (-gi (idL mg sent) a)
    have hG:=(Ownv.blk_ge HO8.out hcR).1
    have hb1:Below w6.heap.size w6 (w8.setCell (adr R a) (.int .i64 (-gi (idL mg sent) a))):=HB8.out.grown hs1.2 HB8.out.size (fun k hk=>by cases hk;exact hG)
    by_cases hxy:b=a
    · subst hxy
      have hbe:((b:Int) != (b:Int))=false:=bne_f rfl
      have hyy:∀ q,q<n6→gi ((idL mg sent).set b (-gi (idL mg sent) b)) q=(if q=b∨q=b then -1 else 1)*idI mg (gi ((Tu.wrd (Tu.toB (wL xs))).map ib) (gi (slP (j:Int) 1048576 r n6) q).toNat):=fun q hq=>by
       rw [gi_set' _ _ _ _ (by rw [HIL.out];exact hq)]
       by_cases h:q=b
       · rw [if_pos h.symm,if_pos (.inl h),← h,HV.out q hq,Int.neg_one_mul]
       · rw [if_neg (fun e=>h e.symm),if_neg (by omega),HV.out q hq,Int.one_mul]
      have hcz:=(hb1.block CB HC6.out.lt).trans HC6.out
      go_wp2_with (refine ldrow (cs:=[.int .i64 (j:Int),.int .i64 (n6:Int),.int .i64 2,.int .i64 1048576,.int .i64 (r:Int)]) rfl 36 (.tmp 21) rfl rfl hcz _ Tryz.underlying36 rfl (by rw [infoCf];rfl) ?_)
      clear hcz cz1 fz1 hbe hiG hiH hv1 hv2 hR8 hcR hG
      obtain⟨hOz,-⟩:=hs1
      have hbz:=hb1
      clear hb1
      generalize w8.setCell (adr R b) (.int .i64 (-gi (idL mg sent) b))=wz at *
      have HYZ:Hid (Rd .i64 wz R n6 n6 ((idL mg sent).set b (-gi (idL mg sent) b))):=Lib.hid (Rdv.capn (Own.rd hOz))
      have HBz:=Lib.hid hbz
      have HCz:=Lib.hid ((hbz.block CB HC6.out.lt).trans HC6.out)
      have HPz:=Lib.hid (HP6.out.below hbz)
      have HXz:=Lib.hid (Rdv.below HX6.out hbz)
      have HWz:Hid (w.heap.size≤wz.heap.size):=Lib.hid (Nat.le_trans HBw6.out.size hbz.size)
      clear hOz hbz
      have hsf:=fl_soft HM.out (by simpa using HYZ.out.len) hyy
      have hbZ:=clean_b HBT.out (by rw [HXL.out];exact HS.out.1) (by rw [HXL.out];have:=HS.out.2;omega) HM.out HHF.out b b ((idL mg sent).set b (-gi (idL mg sent) b)) (by rw [HXL.out,← HN.out];exact hyy)
      rw [HXL.out,← HN.out]at hbZ
      have HRC:=recv_begin HPz.out H0.out HWz.out j r (n6:Int) 2 1048576 true R n6 n6 ((idL mg sent).set b (-gi (idL mg sent) b)) HYZ.out (by have:=HS.out.2;omega) (rc_lap HS.out.1 (by have:=HS.out.2;omega) HRV.out HN.out hsf) (.inl rfl)
      have hfn:=fn_lap HBT.out (by rw [HXL.out];exact HS.out.1) (by rw [HXL.out];have:=HS.out.2;omega)
      rw [HXL.out]at hfn
      unfold RcQ at HRC
      rw [hbZ]at HRC
      rw [show fnK (zI (j:Int) 1048576).sz (some (wL xs))=1 from hfn.1,show fnO (zI (j:Int) 1048576).sz (some (wL xs))=xs from hfn.2.1]at HRC
      have HZS:Hid ((nxZ (half:Int) (zI (j:Int) 1048576) r n6 ((idL mg sent).set b (-gi (idL mg sent) b))).st=2):=Lib.hid (by show fnS 1 _ (bZ _ _ _ _ _)=2;rw [hbZ];exact hfn.2.2)
      have HRC:=Lib.hid HRC
      clear hsf hbZ hfn hyy
      generalize (nxZ (half:Int) (zI (j:Int) 1048576) r n6 ((idL mg sent).set b (-gi (idL mg sent) b)))=zz at *
      generalize hys:((idL mg sent).set b (-gi (idL mg sent) b))=yz at *
      clear hys
      refine HRC.out.mono ?_
      rintro e w9 ⟨A9,n9,c9,F9,rfl,hR9,hB9,hZ9,hK9,-⟩
      have HX9:Hid (Rd .u8 w9 A j j xs):=Lib.hid (rdv_heq HXz.out hB9.size (fun hA hlt=>hK9 _ hlt (HAP.out hA) (by simp)))
      have HSM:=Lib.hid (Cr.same_any A9 A n9 c9 j j xs xs w9 hR9 HX9.out)
      rw [decide_eq_true rfl]at HSM
      have HZ9:=Lib.hid hZ9
      have HB9:=Lib.hid (HBw6.out.trans ((HBz.out.mono HBw6.out.size).trans hB9))
      clear hR9 hB9 hZ9 hK9 HRC
      go_wp2_with fail
      refine HSM.out.mono ?_
      rintro e wt ⟨rfl,hqt⟩
      have HTt:=Lib.hid (hqt.below w9.heap.size)
      clear hqt
      obtain⟨G,cap,D,V,vc,RR,rr,rc,rest,-,hq⟩:=(HZ9.out.below HTt.out).h
      rw [HZS.out]at hq
      have HST:=Lib.hid (pstate_any hq.a.p H0.out)
      have HBt:=Lib.hid (HB9.out.trans (HTt.out.mono HB9.out.size))
      clear hq
      go_wp2_with fail
      refine HST.out.mono ?_
      rintro e wx ⟨rfl,rfl⟩
      go_wp2_with fail
      refine(known_ok _).mono ?_
      rintro e wk ⟨rfl,hBk⟩
      go_wp2
      go_ret
      exact⟨rfl,HBt.out.trans (hBk.mono HBt.out.size)⟩
    · have hbe:((b:Int) != (a:Int))=true:=bne_t (by omega)
      have cz2:(w8.setCell (adr R a) (.int .i64 (-gi (idL mg sent) a))).cell? (adr R b)=some (.int .i64 (gi (idL mg sent) b)):=by
       have h:=Rd.cell (Rdv.capn (Own.rd hs1.1)) hB1
       rw [gi_set' _ _ _ _ (by rw [HIL.out];exact hB1),if_neg (fun e=>hxy e.symm)]at h
       exact h
      have fz3:=Ownv.frozen hs1.1 hcR b
      have hs2:=Own.set_ hs1.1 hB1 (-gi (idL mg sent) b)
      have hb2:=hb1.grown hs2.2 hb1.size (fun k hk=>by cases hk;exact hG)
      have hyy:∀ q,q<n6→gi (((idL mg sent).set a (-gi (idL mg sent) a)).set b (-gi (idL mg sent) b)) q=(if q=a∨q=b then -1 else 1)*idI mg (gi ((Tu.wrd (Tu.toB (wL xs))).map ib) (gi (slP (j:Int) 1048576 r n6) q).toNat):=fun q hq=>by
       rw [gi_set' _ _ _ _ (by rw [List.length_set,HIL.out];exact hq)]
       by_cases h:q=b
       · rw [if_pos h.symm,if_pos (.inr h),← h,HV.out q hq,Int.neg_one_mul]
       · rw [if_neg (fun e=>h e.symm),gi_set' _ _ _ _ (by rw [HIL.out];exact hq)]
         by_cases h':q=a
         · rw [if_pos h'.symm,if_pos (.inl h'),← h',HV.out q hq,Int.neg_one_mul]
         · rw [if_neg (fun e=>h' e.symm),if_neg (by omega),HV.out q hq,Int.one_mul]
      have hcz:=(hb2.block CB HC6.out.lt).trans HC6.out
      go_wp2_with (refine ldrow (cs:=[.int .i64 (j:Int),.int .i64 (n6:Int),.int .i64 2,.int .i64 1048576,.int .i64 (r:Int)]) rfl 36 (.tmp 21) rfl rfl hcz _ Tryz.underlying36 rfl (by rw [infoCf];rfl) ?_)
      clear hcz cz1 cz2 fz1 fz3 hbe hiG hiH hv1 hv2 hR8 hcR hG hs1 hb1
      obtain⟨hOz,-⟩:=hs2
      have hbz:=hb2
      clear hb2
      generalize (w8.setCell (adr R a) (.int .i64 (-gi (idL mg sent) a))).setCell (adr R b) (.int .i64 (-gi (idL mg sent) b))=wz at *
      have HYZ:Hid (Rd .i64 wz R n6 n6 (((idL mg sent).set a (-gi (idL mg sent) a)).set b (-gi (idL mg sent) b))):=Lib.hid (Rdv.capn (Own.rd hOz))
      have HBz:=Lib.hid hbz
      have HCz:=Lib.hid ((hbz.block CB HC6.out.lt).trans HC6.out)
      have HPz:=Lib.hid (HP6.out.below hbz)
      have HXz:=Lib.hid (Rdv.below HX6.out hbz)
      have HWz:Hid (w.heap.size≤wz.heap.size):=Lib.hid (Nat.le_trans HBw6.out.size hbz.size)
      clear hOz hbz
      have hsf:=fl_soft HM.out (by simpa using HYZ.out.len) hyy
      have hbZ:=clean_b HBT.out (by rw [HXL.out];exact HS.out.1) (by rw [HXL.out];have:=HS.out.2;omega) HM.out HHF.out a b (((idL mg sent).set a (-gi (idL mg sent) a)).set b (-gi (idL mg sent) b)) (by rw [HXL.out,← HN.out];exact hyy)
      rw [HXL.out,← HN.out]at hbZ
      have HRC:=recv_begin HPz.out H0.out HWz.out j r (n6:Int) 2 1048576 true R n6 n6 (((idL mg sent).set a (-gi (idL mg sent) a)).set b (-gi (idL mg sent) b)) HYZ.out (by have:=HS.out.2;omega) (rc_lap HS.out.1 (by have:=HS.out.2;omega) HRV.out HN.out hsf) (.inl rfl)
      have hfn:=fn_lap HBT.out (by rw [HXL.out];exact HS.out.1) (by rw [HXL.out];have:=HS.out.2;omega)
      rw [HXL.out]at hfn
      unfold RcQ at HRC
      rw [hbZ]at HRC
      rw [show fnK (zI (j:Int) 1048576).sz (some (wL xs))=1 from hfn.1,show fnO (zI (j:Int) 1048576).sz (some (wL xs))=xs from hfn.2.1]at HRC
      have HZS:Hid ((nxZ (half:Int) (zI (j:Int) 1048576) r n6 (((idL mg sent).set a (-gi (idL mg sent) a)).set b (-gi (idL mg sent) b))).st=2):=Lib.hid (by show fnS 1 _ (bZ _ _ _ _ _)=2;rw [hbZ];exact hfn.2.2)
      have HRC:=Lib.hid HRC
      clear hsf hbZ hfn hyy
      generalize (nxZ (half:Int) (zI (j:Int) 1048576) r n6 (((idL mg sent).set a (-gi (idL mg sent) a)).set b (-gi (idL mg sent) b)))=zz at *
      generalize hys:(((idL mg sent).set a (-gi (idL mg sent) a)).set b (-gi (idL mg sent) b))=yz at *
      clear hys
      refine HRC.out.mono ?_
      rintro e w9 ⟨A9,n9,c9,F9,rfl,hR9,hB9,hZ9,hK9,-⟩
      have HX9:Hid (Rd .u8 w9 A j j xs):=Lib.hid (rdv_heq HXz.out hB9.size (fun hA hlt=>hK9 _ hlt (HAP.out hA) (by simp)))
      have HSM:=Lib.hid (Cr.same_any A9 A n9 c9 j j xs xs w9 hR9 HX9.out)
      rw [decide_eq_true rfl]at HSM
      have HZ9:=Lib.hid hZ9
      have HB9:=Lib.hid (HBw6.out.trans ((HBz.out.mono HBw6.out.size).trans hB9))
      clear hR9 hB9 hZ9 hK9 HRC
      go_wp2_with fail
      refine HSM.out.mono ?_
      rintro e wt ⟨rfl,hqt⟩
      have HTt:=Lib.hid (hqt.below w9.heap.size)
      clear hqt
      obtain⟨G,cap,D,V,vc,RR,rr,rc,rest,-,hq⟩:=(HZ9.out.below HTt.out).h
      rw [HZS.out]at hq
      have HST:=Lib.hid (pstate_any hq.a.p H0.out)
      have HBt:=Lib.hid (HB9.out.trans (HTt.out.mono HB9.out.size))
      clear hq
      go_wp2_with fail
      refine HST.out.mono ?_
      rintro e wx ⟨rfl,rfl⟩
      go_wp2_with fail
      refine(known_ok _).mono ?_
      rintro e wk ⟨rfl,hBk⟩
      go_wp2
      go_ret
      exact⟨rfl,HBt.out.trans (hBk.mono HBt.out.size)⟩
end Go.Proofs.YtkdfefpnhaebfaaGreat
