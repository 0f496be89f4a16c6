/- Bundle. Conditions: none. -/
import Derived.Test.YtkdfefpnhaebfaaGreatBwobh
import Derived.Test.YtkdfefpnhaebfaaGreatBwobf
import Derived.Test.YtkdfefpnhaebfaaGreatBwoab
import Derived.Test.YtkdfefpnhaebfaaGreatBwobj
import Derived.BigQuiet
set_option linter.unusedVariables false
set_option linter.unusedSimpArgs false
namespace Go.Proofs.YtkdfefpnhaebfaaGreat
open Go.RowKit
attribute [local go_sem] Oper.semAt_some
set_option maxRecDepth 100000
set_option maxHeartbeats 2000000
theorem dEs_bd(o:Ob)(i:Nat):-127≤gi o.dE i∧gi o.dE i≤127:=by
 unfold Ob.dE
 split
 · rcases Nat.lt_or_ge i o.a.length with h | h
   · rw [gi_range _ h];unfold Ob.eT;exact ext_bd _
   · rw [gi_over (by simpa using h)];omega
 · rw [gi_over (by simp)];omega
theorem soft_gi{vs:List Int}(h:SoftB vs=true)(i:Nat):-127≤gi vs i∧gi vs i≤127:=by
 rcases Nat.lt_or_ge i vs.length with h1 | h1
 · exact softB_mem h _ (gi_mem vs i h1)
 · rw [gi_over h1];omega
theorem pk_bd{xs:List Int}(h:∀ i,-127≤gi xs i∧gi xs i≤127)(l:List Int):∀ v ∈ pk xs l,-127≤v∧v≤127:=fun v hv=>by
 unfold pk at hv
 obtain⟨i,-,rfl⟩:=List.mem_map.1 hv
 exact h _
theorem bkL_len(k code:Nat):(bkL k code).length=k:=by
 unfold bkL;split
 · exact Tu.ordL_len k
 · exact inv_len
theorem apN_ok(vs:List Int)(k:Nat):∀ h,(apN vs k h).length=k∧∀ v ∈ apN vs k h,-127≤v∧v≤127
 | 0=>⟨List.length_replicate ..,fun v hv=>by have:=List.eq_of_mem_replicate hv;omega⟩
 | h+1=>⟨by show(pk _ _).length=k;rw [pk_len,bkL_len],pk_bd (dEs_bd _) _⟩
theorem obN_ok{vs:List Int}{k:Nat}(hv:SoftB vs=true)(hk:1≤k∧k≤6144)(h:Nat):(obN vs k h).ok:=by
 obtain⟨h1,h2⟩:=apN_ok vs k h
 refine⟨by show 1≤(apN vs k h).length;omega,by show(apN vs k h).length≤_;omega,by show(pk _ _).length=(apN vs k h).length+3;rw [pk_len,sys_len,h1],by show(pk _ _).length=(apN vs k h).length+3;rw [pk_len,par_len,h1],pk_bd (soft_gi hv) _,pk_bd (soft_gi hv) _,h2⟩
noncomputable def befN (vs:List Int) (k:Nat):Nat→List Int
 | 0=>[]
 | h+1=>decN vs k h
noncomputable def okN (kind:Int) (vs:List Int) (k h:Nat):Bool:=if kind=0 then decide (2≤h+1) && decide (decN vs k h=befN vs k h) else decide (Cr.chkErr kind (decN vs k h)=0)
theorem cd_odd{h:Nat}(e:(h+1) % 2=1):cdN (h+1)=1:=by unfold cdN;rw [if_pos e]
theorem cd_even{h:Nat}(e:(h+1) % 2=0):cdN (h+1)=2:=by unfold cdN;rw [if_neg (by omega)]
def StN(W:World)(D k:Nat)(vs:List Int)(h:Nat):Prop:=∃ V vc O oc I ic A ac B bn bc,DS W D k vs (apN vs k h) (befN vs k h) h V vc O oc I ic A ac B bn bc
theorem StN.lt{W:World}{D k:Nat}{vs:List Int}{h:Nat}(hs:StN W D k vs h):D<W.heap.size:=by
 obtain⟨V,vc,O,oc,I,ic,A,ac,B,bn,bc,hd⟩:=hs
 exact hd.b.lt
theorem next_any(D k u h:Nat)(vs:List Int)(w:World)(hu:k=Tu.szK u)(hs:StN w D k vs h)(hv:SoftB vs=true)(hh:h≤1000) :
 Calls Tryz.prog 123 #[.pointer (some ⟨D,0,none⟩)] w fun e w'=>∃ R rc V vc O oc I ic A ac B bn bc,e= .returned (.slice R k rc)∧Rd .u8 w' R k rc (decN vs k h)∧(R≠none→w.heap.size≤blk R)∧DS w' D k vs (apN vs k (h+1)) (befN vs k h) (h+1) V vc O oc I ic A ac B bn bc∧w.grownBy w' (some D):=by
 obtain⟨V,vc,O,oc,I,ic,A,ac,B,bn,bc,hd⟩:=hs
 have hval:Tu.validK (k:Int)=true:=by rw [hu];exact Tu.szK_valid u
 have hb:=Tu.szK_bd u
 rw [← hu]at hb
 have hok:=obN_ok (vs:=vs) (k:=k) hv ⟨by omega,by omega⟩ h
 rcases Nat.mod_two_eq_zero_or_one (h+1) with e | e
 · have c:=cd_even e
   have eo:obN vs k h=obH vs k 2 (apN vs k h):=by unfold obN;rw [c]
   rw [eo]at hok
   refine(next2_any D k h vs (apN vs k h) (befN vs k h) V vc O oc I ic A ac B bn bc w hd hval hok (fun j hj=>?_) hh e).mono ?_
   · obtain⟨p,e1,e2⟩:=sys_bd hu (.inr rfl) hj
     obtain⟨q,e3,e4⟩:=par_bd (k:=k) (code:=2) (.inr rfl) hj
     rw [e1,e3];omega
   · rintro en w' ⟨R,rc,A',ac',rfl,h1,h2,h3,h4⟩
     refine⟨R,rc,V,vc,O,oc,I,ic,A',ac',B,bn,bc,rfl,?_,h2,?_,h4⟩
     · unfold decN;rw [c,eo];exact h1
     · have:apN vs k (h+1)=pk (obH vs k 2 (apN vs k h)).dE (bkL k 2):=by show pk (obH vs k (cdN (h+1)) _).dE (bkL k (cdN (h+1)))=_;rw [c]
       rw [this];exact h3
 · have c:=cd_odd e
   have eo:obN vs k h=obH vs k 1 (apN vs k h):=by unfold obN;rw [c]
   rw [eo]at hok
   refine(next1_any D k h vs (apN vs k h) (befN vs k h) V vc O oc I ic A ac B bn bc w hd hval hok (fun j hj=>?_) hh e).mono ?_
   · obtain⟨p,e1,e2⟩:=sys_bd hu (.inl rfl) hj
     obtain⟨q,e3,e4⟩:=par_bd (k:=k) (code:=1) (.inl rfl) hj
     rw [e1,e3];omega
   · rintro en w' ⟨R,rc,A',ac',rfl,h1,h2,h3,h4⟩
     refine⟨R,rc,V,vc,O,oc,I,ic,A',ac',B,bn,bc,rfl,?_,h2,?_,h4⟩
     · unfold decN;rw [c,eo];exact h1
     · have:apN vs k (h+1)=pk (obH vs k 1 (apN vs k h)).dE (bkL k 1):=by show pk (obH vs k (cdN (h+1)) _).dE (bkL k (cdN (h+1)))=_;rw [c]
       rw [this];exact h3
theorem pass_any(D k h:Nat)(vs:List Int)(kind:Int)(R:Option Addr)(rc:Nat)(V:Option Addr)(vc:Nat)(O:Option Addr)(oc:Nat)(I:Option Addr)(ic:Nat)(A:Option Addr)(ac:Nat)(B:Option Addr)(bn bc:Nat)(w:World)(hk:0≤kind)(hs:DS w D k vs (apN vs k (h+1)) (befN vs k h) (h+1) V vc O oc I ic A ac B bn bc)(hr:Rd .u8 w R k rc (decN vs k h))(hrn:R≠none→blk R≠D)(hh:h≤1000)(hn:k≤6144) :
 Calls Tryz.prog 124 #[.pointer (some ⟨D,0,none⟩),.slice R k rc,.int .i64 kind] w fun e w'=>e= .returned (.bool (okN kind vs k h))∧StN w' D k vs (h+1)∧Rd .u8 w' R k rc (decN vs k h)∧w'.cell? ⟨D,5,none⟩=some (.int .i64 ((h+1:Nat):Int))∧w.grownBy w' (some D):=by
 have fin:∀ {p:Bool} {e:Ending} {w':World},okN kind vs k h=p→(e= .returned (.bool p)∧DS w' D k vs (apN vs k (h+1)) (decN vs k h) (h+1) V vc O oc I ic A ac R k rc∧w.grownBy w' (some D))→(e= .returned (.bool (okN kind vs k h))∧StN w' D k vs (h+1)∧Rd .u8 w' R k rc (decN vs k h)∧w'.cell? ⟨D,5,none⟩=some (.int .i64 ((h+1:Nat):Int))∧w.grownBy w' (some D)):=by
  rintro p e w' hp ⟨h1,h2,h3⟩
  exact⟨by rw [hp];exact h1,⟨V,vc,O,oc,I,ic,A,ac,R,k,rc,h2⟩,h2.p,h2.b.cell rfl,h3⟩
 rcases (by omega:kind=0∨kind=1∨1<kind) with h0 | h0 | h0
 · rw [h0]at fin ⊢
   exact(passes0_any R k rc (decN vs k h) w hs hr hrn (by omega) (by omega)).mono fun e w' hp=>fin (by unfold okN;rw [if_pos rfl]) hp
 · rw [h0]at fin ⊢
   exact(passes1_any R k rc (decN vs k h) w hs hr hrn (by omega) (by omega)).mono fun e w' hp=>fin (by unfold okN;rw [if_neg (by decide)]) hp
 · exact(passes2_any kind h0 R k rc (decN vs k h) w hs hr hrn (by omega) (by omega)).mono fun e w' hp=>fin (by unfold okN;rw [if_neg (by omega)]) hp
def DcP(k:Nat)(vs:List Int)(kind:Int)(most:Nat)(w:World)(e:Ending)(w':World):Prop :=
 Below w.heap.size w w'∧((∃ h,h<most∧okN kind vs k h=true∧(∀ q,q<h→okN kind vs k q=false)∧∃ R rc,e= .returned (.tuple #[.slice R k rc,.int .i64 ((h+1:Nat):Int),.int .i64 0])∧Rd .u8 w' R k rc (decN vs k h)∧(R≠none→w.heap.size≤blk R)) ∨
  ((∀ q,q<most→okN kind vs k q=false)∧e= .returned (.tuple #[.slice none 0 0,.int .i64 0,.int .i64 11])))
def DcI(w:World)(D k:Nat)(vs:List Int)(kind:Int)(most:Nat)(i:Value)(wr:World):Prop:=∃ h:Nat,h≤most∧i= .int .i64 (h:Int)∧StN wr D k vs h∧(∀ q,q<h→okN kind vs k q=false)∧Below w.heap.size w wr
theorem decode_half(S:Option Addr)(k u cs:Nat)(vs:List Int)(kind:Int)(most:Nat)(w:World)(h:Rd .i64 w S (3*(k+4)) cs vs)(hu:k=Tu.szK u)(hk:0≤kind∧kind≤4)(hm:1≤most∧most≤64)(hs:SoftB vs=true) :
 Calls Tryz.prog 73 #[.slice S (3*(k+4)) cs,.int .i64 kind,.int .i64 (most:Int)] w (DcP k vs kind most w):=by
 have hval:Tu.validK (k:Int)=true:=by rw [hu];exact Tu.szK_valid u
 have hb:=Tu.szK_bd u
 rw [← hu]at hb
 have HBG:=Lib.hid (begun_ok S k cs vs kind (most:Int) w h hval hk (by omega) hs)
 have HNX:=Lib.hid (fun D h W hst hh=>next_any D k u h vs W hu hst hs hh)
 have HPS:=Lib.hid (fun D h R rc V vc O oc I ic A ac B bn bc W h1 h2 h3 hh=>pass_any D k h vs kind R rc V vc O oc I ic A ac B bn bc W hk.1 h1 h2 h3 hh (by omega))
 have HM:=Lib.hid hm
 clear h hu hs hval hb hk
 go_enter Tryz.func73,Tryz.ntmps73
 go_wp2_with fail
 refine HBG.out.mono ?_
 rintro e w1 ⟨D,V,vc,O,oc,I,ic,A,ac,rfl,hDS,hD,hB⟩
 have HST:Hid (StN w1 D k vs 0):=Lib.hid ⟨V,vc,O,oc,I,ic,A,ac,none,0,0,hDS⟩
 have HD:=Lib.hid hD
 have HB:=Lib.hid hB
 clear hDS hD hB
 go_wp2_with fail
 go_loopw [22] (fun i wr=>DcI w D k vs kind most i wr) (fun i _=>most - (intOf i).toNat)
 case atStart=>exact⟨0,by omega,rfl,HST.out,fun q hq=>by omega,HB.out⟩
 case round =>
  obtain⟨h,hh,rfl,hst,hno,hB⟩:=hrel
  have HNO:=Lib.hid hno
  have HBr:=Lib.hid hB
  have hm2:most≤64:=HM.out.2
  have HX:=Lib.hid (HNX.out D h wr hst (by omega))
  have HDL:=Lib.hid (StN.lt hst)
  clear hno hB hst
  by_cases hlt:h<most
  · go_wp2_with fail
    refine HX.out.mono ?_
    rintro e w2 ⟨R,rc,V,vc,O,oc,I,ic,A,ac,B,bn,bc,rfl,hr,hrn,hds,hg⟩
    have HPX:=Lib.hid (HPS.out D h R rc V vc O oc I ic A ac B bn bc w2 hds hr (fun hA=>by have:=hrn hA;have:=HDL.out;omega) (by omega))
    have HRB:=Lib.hid (fun hA=>Nat.le_trans HBr.out.size (hrn hA))
    have HB2:=Lib.hid (HBr.out.grown hg HBr.out.size (fun j e=>by cases e;exact HD.out))
    clear hr hrn hds hg
    go_wp2_with fail
    refine HPX.out.mono ?_
    rintro e w3 ⟨rfl,hst,hrd,hc5,hg⟩
    have HS3:=Lib.hid hst
    have HR3:=Lib.hid hrd
    have HB3:=Lib.hid (HB2.out.grown hg HB2.out.size (fun j e=>by cases e;exact HD.out))
    clear hst hrd hg
    obtain⟨p,hp⟩:∃ p,p=okN kind vs k h:=⟨_,rfl⟩
    rw [← hp]
    have HP:=Lib.hid hp
    clear hp
    cases p with
    | true =>
      go_wp2_with fail
      go_quiet (fail)
      go_wp2
      go_ret3
      exact⟨HB3.out.trans (Qt.below ⟨nq,rfl⟩ _),.inl ⟨h,hlt,HP.out.symm,HNO.out,R,rc,rfl,Rdv.drewN HR3.out nq,HRB.out⟩⟩
    | false =>
      go_wp2
      go_roundw
      case rel=>exact⟨h+1,by omega,by go_num,HS3.out,lt_succ_cases HNO.out HP.out.symm,HB3.out⟩
      case measure=>simp [intOf];omega
  · obtain rfl:h=most:=by omega
    clear HX
    go_wp2
    go_ret3
    exact⟨HBr.out,.inr ⟨HNO.out,rfl⟩⟩
def kOf(vs:List Int):Nat:=vs.length / 3 - 4
noncomputable def fdN (vs:List Int) (kind:Int) (most:Int):Option Nat:=(List.range most.toNat).find? (okN kind vs (kOf vs))
noncomputable def itE (vs:List Int) (kind most:Int):Int:=if wrE vs kind most=0 then(match fdN vs kind most with | some _=>0 | none=>11) else wrE vs kind most
noncomputable def itH (vs:List Int) (kind most:Int):Int:=if wrE vs kind most=0 then(match fdN vs kind most with | some h=>((h+1:Nat):Int) | none=>0) else 0
noncomputable def itD (vs:List Int) (kind most:Int):List Int:=if wrE vs kind most=0 then(match fdN vs kind most with | some h=>decN vs (kOf vs) h | none=>[]) else []
theorem wrE_zero{vs:List Int}{kind most:Int}(h:wrE vs kind most=0):vs.length % 3=0∧Tu.validK ((vs.length:Int) / 3 - 4)=true∧(0≤kind∧kind≤4)∧(1≤most∧most≤64)∧SoftB vs=true:=by
 unfold wrE at h
 split at h
 · cases h
 · rename_i hc
   split at h
   · rename_i hs
     refine⟨by omega,?_,by omega,by omega,hs⟩
     cases hv:Tu.validK ((vs.length:Int) / 3 - 4) with
     | true=>rfl
     | false=>exact absurd (.inr (.inl hv)) hc
   · cases h
theorem valid_szK{k:Nat}(h:Tu.validK (k:Int)=true)(hk:k≤512):∃ u,k=Tu.szK u:=by
 unfold Tu.validK at h
 rw [decide_eq_true_iff]at h
 refine⟨(k - 40) / 8,?_⟩
 unfold Tu.szK
 omega
def DcA(vs:List Int)(kind most:Int)(w:World)(e:Ending)(w':World):Prop :=
 ∃ R n rc,e= .returned (.tuple #[.slice R n rc,.int .i64 (itH vs kind most),.int .i64 (itE vs kind most)])∧Rd .u8 w' R n rc (itD vs kind most)∧(R≠none→w.heap.size≤blk R)∧Below w.heap.size w w'
theorem dec_any(S:Option Addr)(n cs:Nat)(vs:List Int)(kind most:Int)(w:World)(h:Rd .i64 w S n cs vs)(hn:n≤1500) :
 Calls Tryz.prog 73 #[.slice S n cs,.int .i64 kind,.int .i64 most] w (DcA vs kind most w):=by
 have hl:=Rd.len h
 by_cases hE:wrE vs kind most=0
 · obtain⟨h3,hv,hk,hm,hs⟩:=wrE_zero hE
   have hkb:=Tu.valid_bd hv
   have hkn:((vs.length:Int) / 3 - 4)=((kOf vs:Nat):Int):=by unfold kOf;omega
   rw [hkn]at hv hkb
   have hn3:n=3*(kOf vs+4):=by omega
   obtain⟨u,hu⟩:=valid_szK hv (by unfold kOf;omega)
   obtain⟨m,rfl⟩:=Int.eq_ofNat_of_zero_le (show 0≤most by omega)
   rw [hn3]at h ⊢
   refine(decode_half S (kOf vs) u cs vs kind m w h hu hk (by omega) hs).mono ?_
   rintro e w' ⟨hB,⟨j,h1,h2,h3,R,rc,rfl,hR,hF⟩ | ⟨h1,rfl⟩⟩
   · have hf:fdN vs kind (m:Int)=some j:=by
      unfold fdN
      rw [Int.toNat_natCast,List.find?_range_eq_some]
      exact⟨h2,List.mem_range.2 h1,fun q hq=>by rw [h3 q hq];rfl⟩
     refine⟨R,kOf vs,rc,?_,?_,hF,hB⟩
     · unfold itH itE;rw [if_pos hE,if_pos hE,hf]
     · unfold itD;rw [if_pos hE,hf];exact hR
   · have hf:fdN vs kind (m:Int)=none:=by
      unfold fdN
      rw [Int.toNat_natCast,List.find?_eq_none]
      intro q hq
      rw [h1 q (List.mem_range.1 hq)];decide
     refine⟨none,0,0,?_,?_,fun h=>absurd rfl h,hB⟩
     · unfold itH itE;rw [if_pos hE,if_pos hE,hf]
     · unfold itD;rw [if_pos hE,hf];exact Rd.nilv .u8 _
 · have e1:itH vs kind most=0:=by unfold itH;rw [if_neg hE]
   have e2:itE vs kind most=wrE vs kind most:=by unfold itE;rw [if_neg hE]
   have e3:itD vs kind most=[]:=by unfold itD;rw [if_neg hE]
   unfold DcA
   rw [e1,e2,e3]
   clear e1 e2 e3
   have HBG:∃ E:Int,wrE vs kind most=E∧E≠0∧Calls Tryz.prog 122 #[.slice S n cs,.int .i64 kind,.int .i64 most] w fun e w'=>e= .returned (.tuple #[.pointer none,.int .i64 E])∧Below w.heap.size w w':=by
    by_cases hc:vs.length % 3≠0∨Tu.validK ((vs.length:Int) / 3 - 4)=false∨kind<0∨4<kind∨most<1∨64<most
    · exact⟨2,by unfold wrE;rw [if_pos hc],by decide,begun_bad S n cs vs kind most w h (by omega) hc⟩
    · by_cases hs:SoftB vs=true
      · exact absurd (by unfold wrE;rw [if_neg hc,if_pos hs]) hE
      · refine⟨6,by unfold wrE;rw [if_neg hc,if_neg hs],by decide,begun_soft S n cs vs kind most w h (by omega) (by omega) ?_ (by omega) (by omega) (by simpa using hs)⟩
        rw [← hl]
        cases hv:Tu.validK ((vs.length:Int) / 3 - 4) with
        | true=>rfl
        | false=>exact absurd (.inr (.inl hv)) hc
   obtain⟨E,hEe,hE0,hcall⟩:=HBG
   have HC:=Lib.hid hcall
   have q:=bne_t hE0
   rw [hEe]
   clear hcall hE0 hEe hE h hl
   go_enter Tryz.func73,Tryz.ntmps73
   go_wp2_with fail
   refine HC.out.mono ?_
   rintro e w1 ⟨rfl,hB⟩
   go_wp2
   go_ret3
   exact⟨none,0,0,rfl,Rd.nilv .u8 _,fun h=>absurd rfl h,hB⟩
end Go.Proofs.YtkdfefpnhaebfaaGreat
namespace Go.Proofs.YtkdfefpnhaebfaaGreat
open Go.RowKit
attribute [local go_sem] Oper.semAt_some
theorem fd_of{vs:List Int}{kind:Int}{m h k:Nat}(hk:kOf vs=k)(hh:h<m)(h1:okN kind vs k h=true)(h2:∀ q,q<h→okN kind vs k q=false):fdN vs kind (m:Int)=some h:=by
 unfold fdN
 rw [Int.toNat_natCast,List.find?_range_eq_some,hk]
 exact⟨h1,List.mem_range.2 hh,fun q hq=>by rw [h2 q hq];rfl⟩
theorem it_of{vs:List Int}{kind most:Int}{h k:Nat}(hk:kOf vs=k)(hE:wrE vs kind most=0)(hf:fdN vs kind most=some h):itE vs kind most=0∧itH vs kind most=((h+1:Nat):Int)∧itD vs kind most=decN vs k h:=by
 unfold itE itH itD
 rw [if_pos hE,if_pos hE,if_pos hE,hf,hk]
 exact⟨rfl,rfl,rfl⟩
end Go.Proofs.YtkdfefpnhaebfaaGreat
namespace Go.Proofs.YtkdfefpnhaebfaaGreat
open Go.RowKit
set_option maxRecDepth 100000
theorem info2i:(Tryz.prog.info? 87).map (·.size)=some 2:=by kernel_rfl
theorem bounds_any(w:World):Calls Tryz.prog 146 #[] w fun e w'=>e= .returned (.agg #[.int .i64 (-127),.int .i64 127])∧Below w.heap.size w w':=by
 have hx:Blk (w.alloc (.cells #[.int .i64 0,.int .i64 0] 87)) w.heap.size 87 [.int .i64 0,.int .i64 0]:=Blk.new w [.int .i64 0,.int .i64 0] _ rfl
 have hq:Below w.heap.size w (w.alloc (.cells #[.int .i64 0,.int .i64 0] 87)):=(Below.refl _ w).alloc (Nat.le_refl _) _
 go_enter Tryz.func146,Tryz.ntmps146
 go_wp2_with (refine strow (cs:=[.int .i64 (-127),.int .i64 127]) rfl 87 (.tmp 0) (.tmp 1) rfl rfl rfl hx rfl (by kernel_rfl) (by simp [Value.oneCell']) ?_
              intro W' h1 h2
              have H1:=Lib.hid h1
              have H2:=Lib.hid (hq.grown h2 hq.size (fun k e=>by cases e;exact Nat.le_refl _))
              clear h1 h2 hx hq)
 have l1:(loadVar 87 ⟨w.heap.size,0,none⟩).run Tryz.prog W'= .ok (.agg [.int .i64 (-127),.int .i64 127].toArray) W':=run_loadVar_row (P:=Tryz.prog) W' _ 87 87 _ (0,0) _ H1.out Tryz.underlying87 rfl (by rw [info2i];rfl)
 refine bodyPost_ret (v:=.agg [.int .i64 (-127),.int .i64 127].toArray) ?_ rfl ⟨rfl,H2.out⟩
 rw [results_c rfl]
 simp [asAddr,Act.put,l1,Sem.run_pure]
def clI(v:Int):Int:=if v < -127 then -127 else if 127<v then 127 else v
theorem clamp_any(v:Int)(w:World):Calls Tryz.prog 89 #[.int .i64 v] w fun e w'=>e= .returned (.int .i64 (clI v))∧Below w.heap.size w w':=by
 obtain⟨u,hu⟩:∃ u,u=clI v:=⟨_,rfl⟩
 rw [← hu]
 rcases (by omega:v < -127∨127<v∨(-127<v∧v<127)∨v = -127∨v=127) with h | h | ⟨h1,h2⟩ | rfl | rfl
 case' inl=>have e1:u = -127:=by rw [hu];unfold clI;rw [if_pos h]
 case' inr.inl=>have e1:u=127:=by rw [hu];unfold clI;rw [if_neg (by omega),if_pos h]
 case' inr.inr.inl=>have e1:u=v:=by rw [hu];unfold clI;rw [if_neg (by omega),if_neg (by omega)]
 case' inr.inr.inr.inl=>have e1:u = -127:=by rw [hu];decide
 case' inr.inr.inr.inr=>have e1:u=127:=by rw [hu];decide
 all_goals
  rw [e1]
  clear hu e1
  go_enter Tryz.func89,Tryz.ntmps89
  go_wp2_with fail
  refine(bounds_any w).mono ?_
  rintro e w1 ⟨rfl,hB⟩
  have HB:=Lib.hid ((hB.alloc hB.size (.cells #[.int .i64 (-127),.int .i64 127] 87)))
  clear hB
  go_wp2
  go_ret
  exact⟨rfl,HB.out⟩
theorem clI_bd(v:Int):-127≤clI v∧clI v≤127:=by unfold clI;split<;>(try split)<;>omega
theorem clI_in{v:Int}(h:-127≤v∧v≤127):clI v=v:=by unfold clI;rw [if_neg (by omega),if_neg (by omega)]
def addI(a b:Int):Int:=clI (clI a+clI b)
theorem sadd_any(a b:Int)(w:World):Calls Tryz.prog 120 #[.int .i64 a,.int .i64 b] w fun e w'=>e= .returned (.int .i64 (addI a b))∧Below w.heap.size w w':=by
 have ha:=clI_bd a
 have hb:=clI_bd b
 have q:IntKind.i64.wrap (clI a+clI b)=clI a+clI b:=IntWalk.i64_in _ (by omega)
 have HA:=Lib.hid (fun W=>clamp_any a W)
 have HB:=Lib.hid (fun W=>clamp_any b W)
 have HC:=Lib.hid (fun W=>clamp_any (clI a+clI b) W)
 have HE:=Lib.hid (show addI a b=clI (clI a+clI b) from rfl)
 rw [HE.out]
 generalize clI (clI a+clI b)=z at *
 generalize clI a=x at *
 generalize clI b=y at *
 clear HE
 go_enter Tryz.func120,Tryz.ntmps120
 go_wp2_with fail
 refine(HA.out _).mono ?_
 rintro e w1 ⟨rfl,hB1⟩
 have H1:=Lib.hid hB1
 clear hB1
 go_wp2_with fail
 refine(HB.out _).mono ?_
 rintro e w2 ⟨rfl,hB2⟩
 have H2:=Lib.hid (H1.out.trans (hB2.mono H1.out.size))
 clear hB2
 go_wp2_with fail
 refine(HC.out _).mono ?_
 rintro e w3 ⟨rfl,hB3⟩
 have H3:=Lib.hid (H2.out.trans (hB3.mono H2.out.size))
 clear hB3
 go_wp2
 go_ret
 exact⟨rfl,H3.out⟩
theorem svalid1_any(v:Int)(w:World):Calls Tryz.prog 88 #[.int .i64 v] w fun e w'=>e= .returned (.bool (!decide (-127≤v∧v≤127)))∧Below w.heap.size w w':=by
 have HA:=Lib.hid (fun W=>clamp_any v W)
 have HE:Hid ((clI v != v)=(!decide (-127≤v∧v≤127))):=Lib.hid (by
  by_cases h:-127≤v∧v≤127
  · rw [clI_in h];simp [h]
  · have hb:=clI_bd v
    have hne:clI v≠v:=fun e=>h (by rw [← e];exact hb)
    simp [h,hne])
 rw [← HE.out]
 generalize clI v=z at *
 go_enter Tryz.func88,Tryz.ntmps88
 go_wp2_with fail
 refine(HA.out _).mono ?_
 rintro e w1 ⟨rfl,hB1⟩
 have H1:=Lib.hid hB1
 clear hB1
 go_wp2
 go_ret
 exact⟨rfl,H1.out⟩
theorem elL:El Tryz.prog 98 3 (.int .i64 0) 8:=⟨by kernel_rfl,by kernel_rfl,fun _=>by kernel_rfl,rfl⟩
set_option maxHeartbeats 2000000
def SdI(w:World)(n:Nat)(xs:List Int)(i:Value)(wr:World):Prop:=∃ j:Nat,j≤n∧i= .int .i64 (j:Int)∧(∀ q,q<j→-127≤gi xs q∧gi xs q≤127)∧Below w.heap.size w wr
def SdP(b:Bool)(w:World)(e:Ending)(w':World):Prop:=∃ r:Int,e= .returned (.int .i64 r)∧(decide (0≤r)=!b)∧Below w.heap.size w w'
theorem soidx_any(A:Option Addr)(n c:Nat)(xs:List Int)(w:World)(h:Rd .i64 w A n c xs) :
 Calls Tryz.prog 145 #[.slice A n c,.func (.func 88) #[] #[]] w (SdP (SoftB xs) w):=by
 have hbd:=h.bd.1
 have HR:=Lib.hid h
 have HL:=Lib.hid h.len
 have HV1:=Lib.hid (fun v W=>svalid1_any v W)
 clear h
 go_enter Tryz.func145,Tryz.ntmps145
 go_wp2
 go_loopw [8] (fun i wr=>SdI w n xs i wr) (fun i _=>n - (intOf i).toNat)
 case atStart=>exact⟨0,by omega,rfl,(by intro q hq;omega),Below.refl _ _⟩
 case round =>
  obtain⟨j,hj,rfl,hv,hB⟩:=hrel
  have HV:=Lib.hid hv
  have HB:=Lib.hid hB
  by_cases hlt:j<n
  · have hr:=Rdv.below HR.out hB
    have hc:=Rd.cell hr hlt
    have hix:=fun W=>Rdv.ix hr elL hlt .i64 W
    clear hv hB hr
    by_cases h1:-127≤gi xs j∧gi xs j≤127
    · have h1':(!decide (-127≤gi xs j∧gi xs j≤127))=false:=by simp;omega
      have H1:=Lib.hid h1;clear h1
      have HW:=Lib.hid (HV1.out (gi xs j) wr)
      rw [h1']at HW
      clear h1'
      obtain⟨v,hve⟩:∃ v,v=gi xs j:=⟨_,rfl⟩
      rw [← hve]at hc HW
      have HVE:=Lib.hid hve
      clear hve
      go_wp2_with fail
      refine HW.out.mono ?_
      rintro e w1 ⟨rfl,hB1⟩
      have HB1:=Lib.hid (HB.out.trans (hB1.mono HB.out.size))
      clear hB1
      go_wp2
      go_roundw
      case rel=>exact⟨j+1,by omega,by go_num,(fun q hq=>lt_succ_cases HV.out H1.out q hq),HB1.out⟩
      case measure=>simp [intOf];omega
    · have h1':(!decide (-127≤gi xs j∧gi xs j≤127))=true:=by simp;omega
      have hf:=Lib.hid (softB_f (by rw [HL.out];exact hlt) h1)
      have HW:=Lib.hid (HV1.out (gi xs j) wr)
      rw [h1']at HW
      clear h1' h1
      generalize gi xs j=v at *
      go_wp2_with fail
      refine HW.out.mono ?_
      rintro e w1 ⟨rfl,hB1⟩
      have HB1:=Lib.hid (HB.out.trans (hB1.mono HB.out.size))
      clear hB1
      go_wp2
      go_ret
      exact⟨_,rfl,by rw [hf.out];simp,HB1.out⟩
  · have hf:=Lib.hid (softB_t (xs:=xs) (by rw [HL.out];intro q hq;exact hv q (by omega)))
    clear hv hB
    go_wp2
    go_ret
    exact⟨_,rfl,by rw [hf.out];simp,HB.out⟩
theorem socont_any(A:Option Addr)(n c:Nat)(xs:List Int)(w:World)(h:Rd .i64 w A n c xs) :
 Calls Tryz.prog 87 #[.slice A n c,.func (.func 88) #[] #[]] w fun e w'=>e= .returned (.bool (!SoftB xs))∧Below w.heap.size w w':=by
 have HI:=Lib.hid (soidx_any A n c xs w h)
 generalize SoftB xs=b at *
 clear h
 go_enter Tryz.func87,Tryz.ntmps87
 go_wp2_with fail
 refine HI.out.mono ?_
 rintro e w1 ⟨r,rfl,hr,hB⟩
 have HB:=Lib.hid hB
 have HR:=Lib.hid hr
 clear hB hr
 go_wp2
 go_ret
 refine⟨ret_bool ?_,HB.out⟩
 have:=HR.out
 cases b<;>simp_all
theorem slval_any(A:Option Addr)(n c:Nat)(xs:List Int)(w:World)(h:Rd .i64 w A n c xs) :
 Calls Tryz.prog 46 #[.slice A n c] w fun e w'=>e= .returned (.bool (SoftB xs))∧Below w.heap.size w w':=by
 have HI:=Lib.hid (socont_any A n c xs w h)
 generalize SoftB xs=b at *
 clear h
 go_enter Tryz.func46,Tryz.ntmps46
 go_wp2_with fail
 refine HI.out.mono ?_
 rintro e w1 ⟨rfl,hB⟩
 have HB:=Lib.hid hB
 clear hB
 go_wp2
 go_ret
 exact⟨ret_bool (by simp),HB.out⟩
theorem svalid_any(A:Option Addr)(n c:Nat)(xs:List Int)(w:World)(h:Rd .i64 w A n c xs) :
 Calls Tryz.prog 21 #[.slice A n c] w fun e w'=>e= .returned (.bool (SoftB xs))∧Below w.heap.size w w':=by
 have HI:=Lib.hid (slval_any A n c xs w h)
 have hfld:∀ W,(Instr.field 100 (.agg #[.slice A n c]) 0).run Tryz.prog W= .ok (.slice A n c) W:=fun _=>by kernel_rfl
 generalize SoftB xs=b at *
 clear h
 go_enter Tryz.func21,Tryz.ntmps21
 go_wp2_with fail
 refine HI.out.mono ?_
 rintro e w1 ⟨rfl,hB⟩
 have HB:=Lib.hid hB
 clear hB
 go_wp2
 go_ret
 exact⟨rfl,HB.out⟩
theorem sarg_any(b:Bool)(w:World):Calls Tryz.prog 36 #[.bool b] w fun e w'=>e= .returned (.int .i64 (if b=true then 0 else 2))∧w=w':=by
 cases b<;>simp only [if_true,Bool.false_eq_true,if_false]<;>(
  go_enter Tryz.func36,Tryz.ntmps36
  go_wp2
  go_ret
  exact⟨rfl,rfl⟩)
end Go.Proofs.YtkdfefpnhaebfaaGreat
namespace Go.Proofs.YtkdfefpnhaebfaaGreat.Cr
set_option maxRecDepth 100000
set_option maxHeartbeats 2000000
open Go.RowKit Go.Shelf
attribute [local go_sem] Oper.semAt_some
theorem invS_any(b:Int)(w:World):Calls Tryz.prog 64 #[.int .u8 b] w fun e w'=>e= .returned (.bool (decide (1<b)))∧w=w':=by
 go_enter Tryz.func64,Tryz.ntmps64
 go_wp2
 go_wp2
 go_ret
 exact⟨rfl,rfl⟩
theorem idxS_any(A:Option Addr)(n c:Nat)(xs:List Int)(w:World)(h:Rd .u8 w A n c xs) :
 Calls Tryz.prog 113 #[.slice A n c,.func (.func 64) #[] #[]] w (IdxPost xs w):=by
 have hbd:=h.bd.1
 go_enter Tryz.func113,Tryz.ntmps113
 go_wp2
 go_loop [8] (fun i=>IdxInv n xs i) (fun i=>n - (intOf i).toNat)
 case atStart=>exact⟨0,by omega,rfl,by intro q hq;omega⟩
 case round =>
  obtain⟨j,hj,rfl,hv⟩:=hrel
  by_cases hlt:j<n
  · have hc:=Rd.cell h hlt
    have hix:=fun W=>Rdv.ix h el53 hlt .i64 W
    have HV:=Lib.hid hv;clear hv
    by_cases h1:gi xs j≤1
    · have h1':decide (1<gi xs j)=false:=by simp;omega
      go_wp2_with (go_at_call 64;refine(invS_any _ _).mono ?_;rintro e w' ⟨rfl,rfl⟩)
      go_round
      case rel=>exact⟨j+1,by omega,by go_num,fun q hq=>lt_succ_cases HV.out h1 q hq⟩
      case measure=>simp [intOf];omega
    · have h1':decide (1<gi xs j)=true:=by simp;omega
      have hf:=Lib.hid (validB_f (by rw [h.len];exact hlt) (by omega:1<gi xs j))
      go_wp2_with (go_at_call 64;refine(invS_any _ _).mono ?_;rintro e w' ⟨rfl,rfl⟩)
      go_ret
      exact⟨_,rfl,by rw [hf.out];simp,rfl⟩
  · have hf:=Lib.hid (validB_t (xs:=xs) (by rw [h.len];intro q hq;exact hv q (by omega)))
    go_wp2
    go_ret
    exact⟨_,rfl,by rw [hf.out];simp,rfl⟩
theorem containsS_any(A:Option Addr)(n c:Nat)(xs:List Int)(w:World)(h:Rd .u8 w A n c xs) :
 Calls Tryz.prog 61 #[.slice A n c,.func (.func 64) #[] #[]] w fun e w'=>e= .returned (.bool (!ValidB xs))∧w=w':=by
 go_enter Tryz.func61,Tryz.ntmps61
 go_wp2_with (go_at_call 113;refine(idxS_any A n c xs w h).mono ?_;rintro e w' ⟨r,rfl,hr,rfl⟩)
 go_ret
 refine⟨ret_bool ?_,rfl⟩
 cases hv:ValidB xs<;>simp_all
theorem sbinary_any(A:Option Addr)(n c:Nat)(xs:List Int)(w:World)(h:Rd .u8 w A n c xs) :
 Calls Tryz.prog 37 #[.slice A n c] w fun e w'=>e= .returned (.int .i64 (if ValidB xs=true then 0 else 3))∧w=w':=by
 have HI:=Lib.hid (containsS_any A n c xs w h)
 generalize ValidB xs=b at *
 clear h
 cases b<;>simp only [if_true,Bool.false_eq_true,if_false,Bool.not_true,Bool.not_false]at HI ⊢<;>(
  go_enter Tryz.func37,Tryz.ntmps37
  go_wp2_with fail
  refine HI.out.mono ?_
  rintro e w1 ⟨rfl,rfl⟩
  go_wp2
  go_ret
  exact⟨rfl,rfl⟩)
end Go.Proofs.YtkdfefpnhaebfaaGreat.Cr
namespace Go.Proofs.YtkdfefpnhaebfaaGreat
open Go.RowKit
attribute [local go_sem] Oper.semAt_some
theorem elE:El Tryz.prog 123 24 (.int .i64 0) 8:=⟨by kernel_rfl,by kernel_rfl,fun _=>by kernel_rfl,rfl⟩
theorem first2_any(A:Option Addr)(c:Nat)(a b:Int)(w:World)(h:Rdv w A 2 c [.int .i64 a,.int .i64 b]) :
 Calls Tryz.prog 35 #[.slice A 2 c] w fun e w'=>e= .returned (.int .i64 (if a=0 then b else a))∧w=w':=by
 have c0:=h.at_ 0 (.int .i64 a) rfl
 have c1:=h.at_ 1 (.int .i64 b) rfl
 have i0:=fun W=>Rdv.ixI h elE (j:=0) (by omega) .i64 0 rfl W
 have i1:=fun W=>Rdv.ixI h elE (j:=1) (by omega) .i64 1 rfl W
 clear h
 by_cases ha:a=0
 · have q:(a != 0)=false:=bne_f ha
   rw [if_pos ha]
   clear ha
   by_cases hb:b=0
   · subst hb
     go_enter Tryz.func35,Tryz.ntmps35
     go_wp2_with fail
     refine wp_loop_rounds 3 ?_
     rw [rounds_succ]
     go_wp2_with fail
     rw [rounds_succ]
     go_wp2_with fail
     rw [rounds_succ]
     go_wp2
     go_ret
     exact⟨rfl,rfl⟩
   · have q2:(b != 0)=true:=bne_t hb
     clear hb
     go_enter Tryz.func35,Tryz.ntmps35
     go_wp2_with fail
     refine wp_loop_rounds 3 ?_
     rw [rounds_succ]
     go_wp2_with fail
     rw [rounds_succ]
     go_wp2
     go_ret
     exact⟨rfl,rfl⟩
 · have q:(a != 0)=true:=bne_t ha
   rw [if_neg ha]
   clear ha
   go_enter Tryz.func35,Tryz.ntmps35
   go_wp2_with fail
   refine wp_loop_rounds 3 ?_
   rw [rounds_succ]
   go_wp2
   go_ret
   exact⟨rfl,rfl⟩
end Go.Proofs.YtkdfefpnhaebfaaGreat
namespace Go.Proofs.YtkdfefpnhaebfaaGreat
open Go.RowKit
attribute [local go_sem] Oper.semAt_some
set_option maxRecDepth 100000
set_option maxHeartbeats 2000000
def idI(m x:Int):Int:=m*(1 - 2*x)
theorem ideal1_any(MB BB:Nat)(A:Option Addr)(n c:Nat)(bits:List Int)(m:Int)(i:Nat)(w:World)(hm:Blk w MB 3 [.int .i64 m])(hb:Blk w BB 28 [.slice A n c])(hr:Rd .u8 w A n c bits)(hi:i<n)(hx:gi bits i=0∨gi bits i=1)(hm0:0≤m∧m≤127) :
 Calls Tryz.prog 39 #[.int .i64 (i:Int),.pointer (some ⟨MB,0,none⟩),.pointer (some ⟨BB,0,none⟩)] w fun e w'=>e= .returned (.int .i64 (idI m (gi bits i)))∧Below w.heap.size w w':=by
 have c1:=hm.cell (j:=0) (v:=.int .i64 m) rfl
 have c2:=hb.cell (j:=0) (v:=.slice A n c) rfl
 have c3:=Rd.cell hr hi
 have hix:=fun W=>Rdv.ix hr el26 hi .i64 W
 have q:IntKind.i64.wrap (-m) = -m:=IntWalk.i64_in _ (by omega)
 have f0:∀ W,(Instr.index 87 (.agg #[.int .i64 m,.int .i64 (-m)]) (.int .u8 0)).run Tryz.prog W= .ok (.int .i64 m) W:=fun _=>by kernel_rfl
 have f1:∀ W,(Instr.index 87 (.agg #[.int .i64 m,.int .i64 (-m)]) (.int .u8 1)).run Tryz.prog W= .ok (.int .i64 (-m)) W:=fun _=>by kernel_rfl
 clear hm hb hr hm0
 rcases hx with hx | hx
 · have e:idI m (gi bits i)=m:=by rw [hx];unfold idI;omega
   rw [e]
   rw [hx]at c3
   clear e hx
   go_enter Tryz.func39,Tryz.ntmps39
   go_wp2_with fail
   go_quiet (fail)
   go_wp2
   go_ret
   exact⟨rfl,Qt.below ⟨_,rfl⟩ _⟩
 · have e:idI m (gi bits i) = -m:=by rw [hx];unfold idI;omega
   rw [e]
   rw [hx]at c3
   clear e hx
   go_enter Tryz.func39,Tryz.ntmps39
   go_wp2_with fail
   go_quiet (fail)
   go_wp2
   go_ret
   exact⟨rfl,Qt.below ⟨_,rfl⟩ _⟩
def MpI(w:World)(n:Nat)(g:Nat→Int)(b i:Value)(wr:World):Prop:=∃ (j:Nat) (R:Option Addr) (c:Nat),j≤n∧i= .int .i64 (j:Int)∧b= .slice R j c∧Own .i64 3 wr w.heap.size R j c ((List.range j).map g)∧Below w.heap.size w wr
theorem mapped_ok(p1 p2:Value)(g:Nat→Int)(n:Nat)(w:World)(hn:n≤1000000)
 (hcl:∀ j:Nat,j<n→∀ wr,Below w.heap.size w wr→Calls Tryz.prog 39 #[.int .i64 (j:Int),p1,p2] wr fun e w'=>e= .returned (.int .i64 (g j))∧Below wr.heap.size wr w') :
 Calls Tryz.prog 38 #[.int .i64 0,.int .i64 (n:Int),.func (.func 39) #[] #[p1,p2]] w fun e w'=>∃ R,e= .returned (.tuple #[.slice R n n,.int .i64 0])∧Rd .i64 w' R n n ((List.range n).map g)∧(R≠none→w.heap.size≤blk R)∧Below w.heap.size w w':=by
 have HC:=Lib.hid hcl
 clear hcl
 go_enter Tryz.func38,Tryz.ntmps38
 go_wp2_with fail
 go_step3
 go_wp2_with fail
 go_loopw [8,13] (fun b i wr=>MpI w n g b i wr) (fun _ i _=>n - (intOf i).toNat)
 case atStart=>exact⟨0,none,0,Nat.zero_le _,rfl,rfl,Own.nilv _ _ _ _,Below.refl _ _⟩
 case round =>
  obtain⟨j,R,c,hj,rfl,rfl,hO,hB⟩:=hrel
  have HO:=Lib.hid hO
  have HB:=Lib.hid hB
  by_cases hlt:j<n
  · have HX:=Lib.hid (HC.out j hlt wr hB)
    clear hO hB
    go_wp2_with fail
    refine HX.out.mono ?_
    rintro e w1 ⟨rfl,hB1⟩
    have HO1:=Lib.hid (Ownv.below HO.out hB1)
    have HB1:=Lib.hid (HB.out.trans (hB1.mono HB.out.size))
    clear hB1
    obtain⟨v,hv⟩:∃ v,v=g j:=⟨_,rfl⟩
    rw [← hv]
    have HV:=Lib.hid hv
    clear hv
    go_wp2_with (at_builtin
                 refine list_of rfl fun K hK=>wp_app1 (w:=w1) (base:=w.heap.size) _ _ 39 rfl el22 rfl (.int .i64 v) rfl rfl HO1.out (by omega) (by omega) HB1.out.size ?_
                 intro A2 c2 w2 h1 h2
                 have HO2:=Lib.hid h1
                 have HG2:=Lib.hid h2
                 clear h1 h2
                 refine hK _ _ ?_
                 clear hK K)
    go_roundw
    case rel=>exact⟨j+1,A2,c2,by omega,by go_num,rfl,Own.of_eq HO2.out rfl (by rw [List.range_succ,List.map_append,List.map_append,HV.out];rfl),HB1.out.grown HG2.out HB1.out.size (fun k hk=>Ownv.ob' HO1.out hk)⟩
    case measure=>simp [intOf];omega
  · obtain rfl:n=j:=by omega
    have hsl:=fun W=>Rdv.slhm (Own.rd hO) el22 .i64 .i64 (Rdv.le (Own.rd hO)) W
    clear hO hB
    go_wp2
    rw [Exit.noGoto_ret]
    go_ret2
    exact⟨R,rfl,Rdv.capn (Own.rd HO.out),fun hA=>(Ownv.blk_of HO.out hA).1,HB.out⟩
theorem stream_any(k:Nat)(f lim:Int)(w:World)(hk:k≤100000):Calls Tryz.prog 165 #[.agg #[.int .i64 (k:Int),.int .i64 f,.int .i64 lim]] w fun e w'=>e= .returned (.int .i64 ((k:Int)+4))∧Below w.heap.size w w':=by
 have HB:=Lib.hid ((Below.refl w.heap.size w).alloc (Nat.le_refl _) (.cells #[.int .i64 (k:Int),.int .i64 f,.int .i64 lim] 155))
 go_enter Tryz.func165,Tryz.ntmps165
 go_wp2
 go_ret
 exact⟨rfl,HB.out⟩
theorem own_ne3{w:World}{base:Nat}{A:Option Addr}{n c:Nat}{vs:List Int}(h:Own .i64 3 w base A n c vs){q:Nat}(hq:q<n):A≠none:=by
 intro hA
 subst hA
 obtain⟨hl,h2⟩:=Ownv.cases h
 rcases h2 with⟨_,rfl,_⟩ | ⟨g,cur,h3,_⟩
 · omega
 · cases h3
def frI(k f i:Nat):Int:=if i<f∨(k+4≤i∧i<k+4+f) then 127 else 0
def frL(k f:Nat):List Int:=(List.range (3*(k+4))).map (frI k f)
def FrI2(w:World)(k f BX:Nat)(lim:Int)(Am:Option Addr)(i:Value)(wr:World):Prop:=∃ (j:Nat) (cur:List Int),j≤f∧i= .int .i64 (j:Int)∧Own .i64 3 wr w.heap.size Am (3*(k+4)) (3*(k+4)) cur∧(∀ q,q<3*(k+4)→gi cur q=frI k j q)∧Blk wr BX 155 [.int .i64 (k:Int),.int .i64 (f:Int),.int .i64 lim]∧Below w.heap.size w wr
theorem info3i:(Tryz.prog.info? 155).map (·.size)=some 3:=by kernel_rfl
theorem fresh_any(k f:Nat)(lim:Int)(w:World)(hk:k≤6144)(hf:f<k):Calls Tryz.prog 117 #[.agg #[.int .i64 (k:Int),.int .i64 (f:Int),.int .i64 lim]] w fun e w'=>∃ A,e= .returned (.slice A (3*(k+4)) (3*(k+4)))∧Own .i64 3 w' w.heap.size A (3*(k+4)) (3*(k+4)) (frL k f)∧Below w.heap.size w w':=by
 have HST:=Lib.hid (fun W=>stream_any k (f:Int) lim W (by omega))
 have hb0:Below w.heap.size w (w.alloc (.cells #[.int .i64 (k:Int),.int .i64 f,.int .i64 lim] 155)):=(Below.refl _ w).alloc (Nat.le_refl _) _
 have hx0:Blk (w.alloc (.cells #[.int .i64 (k:Int),.int .i64 f,.int .i64 lim] 155)) w.heap.size 155 [.int .i64 (k:Int),.int .i64 f,.int .i64 lim]:=Blk.new w [.int .i64 (k:Int),.int .i64 f,.int .i64 lim] _ rfl
 obtain⟨N,hN⟩:∃ N:Nat,N=3*(k+4):=⟨_,rfl⟩
 have q3:IntKind.i64.wrap (3*((k:Int)+4))=(N:Int):=by rw [IntWalk.i64_in _ (by omega)];omega
 have q4:wrap64 (3*((k:Int)+4))=(N:Int):=by rw [← IntWalk.i64_left];exact q3
 have HB0:=Lib.hid hb0
 have HX0:=Lib.hid hx0
 have HN:=Lib.hid hN
 have hN9:N≤20000:=by omega
 clear hb0 hN
 go_enter Tryz.func117,Tryz.ntmps117
 go_wp2_with (refine ldrow (cs:=[.int .i64 (k:Int),.int .i64 f,.int .i64 lim]) rfl 155 (.tmp 1) rfl rfl hx0 _ Tryz.underlying155 rfl (by rw [info3i];rfl) ?_)
 refine(HST.out _).mono ?_
 rintro e w1 ⟨rfl,hB1⟩
 have HX1:=Lib.hid (HX0.out.below hB1)
 have HB1:=Lib.hid (HB0.out.trans (hB1.mono HB0.out.size))
 clear hB1 hx0
 go_wp2_with (at_make
              refine list_of rfl fun K hK=>wp_mk (n:=N) _ _ 39 rfl el22 rfl rfl (by omega) (by unfold maxLen;omega) ?_
              intro Am w3 hO3 hB3 hA
              have HO3:Hid (Own .i64 3 w3 w1.heap.size Am N N (List.replicate N 0)):=Lib.hid (by unfold Own;simpa using hO3)
              have HX3:=Lib.hid (HX1.out.below hB3)
              have HB3:=Lib.hid (HB1.out.trans (hB3.mono HB1.out.size))
              have c31:=HX3.out.cell (j:=1) (v:=.int .i64 (f:Int)) rfl
              clear hO3 hB3 hA
              refine hK _ _ ?_
              clear hK K)
 obtain⟨BX,hBX⟩:∃ BX,BX=w.heap.size:=⟨_,rfl⟩
 rw [← hBX]at HX3 ⊢
 have HBX:=Lib.hid hBX
 clear c31 hBX q3 q4
 go_loopw [11] (fun i wr=>FrI2 w k f BX lim Am i wr) (fun i _=>f - (intOf i).toNat)
 case atStart =>
  refine⟨0,List.replicate N 0,Nat.zero_le _,rfl,by rw [← HN.out];exact Ownv.mono HO3.out HB1.out.size,fun q hq=>?_,HX3.out,HB3.out⟩
  rw [gi_zero]
  unfold frI
  rw [if_neg (by omega)]
 case round =>
  obtain⟨j,cur,hj,rfl,hO,hq,hX,hB⟩:=hrel
  rw [← HN.out]at hO
  have hN:=HN.out
  have HQ:=Lib.hid hq
  have HO:=Lib.hid hO
  have HX:=Lib.hid hX
  have HB:=Lib.hid hB
  by_cases hlt:j<f
  · clear hO hq hB hN
    go_wp2_with (refine ldrow (cs:=[.int .i64 (k:Int),.int .i64 f,.int .i64 lim]) rfl 155 (.tmp 1) rfl rfl hX _ Tryz.underlying155 rfl (by rw [info3i];rfl) ?_)
    refine(HST.out _).mono ?_
    rintro e w4 ⟨rfl,hB4⟩
    have hN:=HN.out
    have hO4:=Ownv.below HO.out hB4
    have hX4:=HX.out.below hB4
    have hB4':=HB.out.trans (hB4.mono HB.out.size)
    have hcl:=Rd.len (Own.rd HO.out)
    have hA:Am≠none:=own_ne3 HO.out (q:=0) (by omega)
    have hge:=(Ownv.blk_of hO4 hA).1
    have hS1:=Own.set_ hO4 (j:=j) (by omega) 127
    have hS2:=Own.set_ hS1.1 (j:=k+4+j) (by omega) 127
    have hf1:=Ownv.frozen hO4 (by omega) j
    have hc1:=Rd.cell (Own.rd hO4) (j:=j) (by omega)
    have hi1:=fun W=>Rdv.ix (Own.rd hO4) el22 (j:=j) (by omega) .i64 W
    have hf2:=Ownv.frozen hS1.1 (by omega) (k+4+j)
    have hc2:=Rd.cell (Own.rd hS1.1) (j:=k+4+j) (by omega)
    have hi2:=fun W=>Rdv.ixI (Own.rd hO4) el22 (j:=k+4+j) (by omega) .i64 ((k:Int)+4+(j:Int)) (by omega) W
    have hne:BX≠blk Am:=by
     have h1:=hX4.lt
     intro e
     obtain⟨-,g1⟩:=Ownv.cases hO4
     rcases g1 with⟨h,-⟩ | ⟨g,cur2,h,-,hh,-⟩
     · exact hA h
     · rw [h]at e
       have e:BX=g:=e
       subst e
       have h2:w4.heap[BX]?=_:=hX4
       rw [hh]at h2
       injection h2 with h2
       injection h2 with _ h9
       exact absurd h9 (by decide)
    have HO5:=Lib.hid hS2.1
    have HX5:=Lib.hid ((hX4.grown hS1.2 hne).grown hS2.2 hne)
    have HB5:=Lib.hid ((hB4'.grown hS1.2 hB4'.size (fun k e=>by cases e;exact hge)).grown hS2.2 (Nat.le_trans hB4'.size hS1.2.size) (fun k e=>by cases e;exact hge))
    have HCL:=Lib.hid hcl
    clear hS1 hS2 hO4 hX4 hB4' hB4 hcl hge hne hX hN
    go_wp2
    go_roundw
    case rel =>
     refine⟨j+1,_,by omega,by go_num,by rw [← HN.out];exact HO5.out,fun q hq=>?_,HX5.out,HB5.out⟩
     have h7:=HQ.out q hq
     have hN:=HN.out
     have h8:=HCL.out
     rw [gi_set' _ _ _ _ (by rw [List.length_set];omega),gi_set' _ _ _ _ (by omega),h7]
     unfold frI
     split
     · rw [if_pos (by omega)]
     · split
       · rw [if_pos (by omega)]
       · split
         · rw [if_pos (by omega)]
         · rw [if_neg (by omega)]
    case measure=>simp [intOf];omega
  · obtain rfl:j=f:=by omega
    have hE:cur=frL k j:=ext_gi (by have:=Rd.len (Own.rd hO);simp [frL];omega) fun q hq9=>by
     have hq8:q<3*(k+4):=by have:=Rd.len (Own.rd hO);omega
     rw [hq q hq8]
     unfold frL
     rw [gi_range _ hq8]
    rw [hE]at HO
    clear hO hq hX hB hE hN
    go_wp2
    go_ret
    exact⟨Am,by rw [← HN.out];rfl,by rw [← HN.out];exact HO.out,HB.out⟩
end Go.Proofs.YtkdfefpnhaebfaaGreat
