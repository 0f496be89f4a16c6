/- Bundle. Conditions: none. -/
import Derived.Test.YthmhogdceolkdaaGreatBqbe
import Derived.Test.YthmhogdceolkdaaGreatBqal
import Derived.Test.YthmhogdceolkdaaGreatBqad
import Derived.Test.YthmhogdceolkdaaGreatBqab
import Derived.Test.YthmhogdceolkdaaGreatBqav
set_option linter.unusedVariables false
set_option linter.unusedSimpArgs false
namespace Go.Proofs.YthmhogdceolkdaaGreat
open Tryz
open Go.RowKit
attribute [local go_sem] Oper.semAt_some
set_option maxRecDepth 100000
set_option maxHeartbeats 1000000
theorem below_grown{w w1 w2:World}{D:Nat}(h:Below w.heap.size w w1)(hg:w1.grownBy w2 (some D)):w.grownBy w2 (some D) :=
 ⟨hg.os.trans h.os,hg.tape.trans h.tape,hg.output.trans h.output,Nat.le_trans h.size hg.size,fun j hj hne=>(hg.block j (Nat.lt_of_lt_of_le hj h.size) hne).trans (h.block j hj)⟩
theorem pass2_any(b5 b4:Nat)(kind:Int)(R:Option Addr)(rn rc:Nat)(xs:List Int)(w:World)(hr:Rd .u8 w R rn rc xs)(hn:rn<=100000)(h5:Blk w b5 126 [.int .i64 kind])(h4:Blk w b4 53 [.slice R rn rc]) :
 Calls prog 251 #[.pointer (some ⟨b5,0,none⟩),.pointer (some ⟨b4,0,none⟩)] w fun e w'=>e= .returned (.bool (decide (Cr.chkErr kind xs=0)))/\Below w.heap.size w w':=by
 have HCK:=aq (Cr.check_any kind R rn rc xs w hr hn);have k5:=h5.cell (j:=0) (v:=.int .i64 kind) rfl;have k4:=h4.cell (j:=0) (v:=.slice R rn rc) rfl;clear hr h5 h4;by_cases hE:Cr.chkErr kind xs=0
 . rw [decide_eq_true hE]
   rw [hE]at HCK;clear hE;go_enter func251,ntmps251;go_wp2_with fail;refine HCK.o.mono ?_;rintro e w1 ⟨A',n',c',rfl,hO,hB⟩;clear hO;go_wp2;go_ret;exact⟨rfl,hB⟩
 . rw [decide_eq_false hE]
   have q:(Cr.chkErr kind xs == 0)=false:=beq_f hE;generalize Cr.chkErr kind xs=E at *;clear hE;go_enter func251,ntmps251;go_wp2_with fail;refine HCK.o.mono ?_;rintro e w1 ⟨A',n',c',rfl,hO,hB⟩;clear hO;go_wp2;go_ret;exact⟨rfl,hB⟩
theorem passes1_any{D k:Nat}{vs a bs:List Int}{h:Nat}{V:Option Addr}{vc:Nat}{O:Option Addr}{oc:Nat}{I:Option Addr}{ic:Nat}{A:Option Addr}{ac:Nat}{B:Option Addr}{bn bc:Nat}(R:Option Addr)(rn rc:Nat)(xs:List Int)(w:World)(hs:DS w D k vs a bs h V vc O oc I ic A ac B bn bc)(hr:Rd .u8 w R rn rc xs)(hrn:R≠none->blk R≠D)(hh:h<=100000)(hn:rn<=100000) :
 Calls prog 180 #[.pointer (some ⟨D,0,none⟩),.slice R rn rc,.int .i64 1] w fun e w'=>e= .returned (.bool (decide (Cr.chkErr 1 xs=0)))/\DS w' D k vs a xs h V vc O oc I ic A ac R rn rc/\w.grownBy w' (some D):=by
 have hD:=hs.b.lt;have HB0:Hid (Below w.heap.size w ((((w.alloc (.cells #[.pointer (some ⟨D,0,none⟩)] 235)).alloc (.cells #[.slice R rn rc] 53)).alloc (.cells #[.int .i64 1] 126)).alloc (.cells #[.nilFunc,.nilFunc] 300))):=aq (((((Below.refl _ w).alloc (Nat.le_refl _) _).alloc (by simp) _).alloc (by simp;omega) _).alloc (by simp;omega) _);have hL0:Blk ((((w.alloc (.cells #[.pointer (some ⟨D,0,none⟩)] 235)).alloc (.cells #[.slice R rn rc] 53)).alloc (.cells #[.int .i64 1] 126)).alloc (.cells #[.nilFunc,.nilFunc] 300)) (w.heap.size+1+1+1) 300 [.nilFunc,.nilFunc]:=Blk.new (((w.alloc (.cells #[.pointer (some ⟨D,0,none⟩)] 235)).alloc (.cells #[.slice R rn rc] 53)).alloc (.cells #[.int .i64 1] 126)) [.nilFunc,.nilFunc] 300 (by simp);have H3:Hid (Blk ((((w.alloc (.cells #[.pointer (some ⟨D,0,none⟩)] 235)).alloc (.cells #[.slice R rn rc] 53)).alloc (.cells #[.int .i64 1] 126)).alloc (.cells #[.nilFunc,.nilFunc] 300)) w.heap.size 235 [.pointer (some ⟨D,0,none⟩)]):=aq ((((Blk.new w [.pointer (some ⟨D,0,none⟩)] 235 rfl).alloc _).alloc _).alloc _);have H4:Hid (Blk ((((w.alloc (.cells #[.pointer (some ⟨D,0,none⟩)] 235)).alloc (.cells #[.slice R rn rc] 53)).alloc (.cells #[.int .i64 1] 126)).alloc (.cells #[.nilFunc,.nilFunc] 300)) (w.heap.size+1) 53 [.slice R rn rc]):=aq (((Blk.new (w.alloc (.cells #[.pointer (some ⟨D,0,none⟩)] 235)) [.slice R rn rc] 53 (by simp)).alloc _).alloc _);have H5:Hid (Blk ((((w.alloc (.cells #[.pointer (some ⟨D,0,none⟩)] 235)).alloc (.cells #[.slice R rn rc] 53)).alloc (.cells #[.int .i64 1] 126)).alloc (.cells #[.nilFunc,.nilFunc] 300)) (w.heap.size+1+1) 126 [.int .i64 1]):=aq ((Blk.new ((w.alloc (.cells #[.pointer (some ⟨D,0,none⟩)] 235)).alloc (.cells #[.slice R rn rc] 53)) [.int .i64 1] 126 (by simp)).alloc _);have HS:=aq hs;have HR:=aq hr;clear hs hr;go_enter func180,ntmps180
 go_wp2_with (refine strow (cs:=[.func (.func 249) #[] #[.pointer (some ⟨w.heap.size,0,none⟩),.pointer (some ⟨w.heap.size+1,0,none⟩)],.func (.func 251) #[] #[.pointer (some ⟨w.heap.size+1+1,0,none⟩),.pointer (some ⟨w.heap.size+1,0,none⟩)]]) rfl 300 (.tmp 7) (.tmp 11) rfl rfl rfl hL0 rfl (by kernel_rfl) (by simp [Value.oneCell']) ?_
              intro W5 g1 g2;have HA:=aq g1;have HB3:=aq (H3.o.grown g2 (by simp;omega));have HB4:=aq (H4.o.grown g2 (by simp));have HB5:=aq (H5.o.grown g2 (by simp));have HBW:=aq (HB0.o.grown g2 HB0.o.size (fun j e=>by cases e;omega));have HDS5:=aq (DS.below HS.o HBW.o);have HR5:=aq (Rdv.below HR.o HBW.o);have k5:=HB5.o.cell (j:=0) (v:=.int .i64 1) rfl;have kf:W5.cell? ⟨w.heap.size+1+1+1,1,none⟩=some (.func (.func 251) #[] #[.pointer (some ⟨w.heap.size+1+1,0,none⟩),.pointer (some ⟨w.heap.size+1,0,none⟩)]):=HA.o.cell rfl
              clear g1 g2 hL0 H3 H4 H5 HB0)
 refine(pass2_any (w.heap.size+1+1) (w.heap.size+1) 1 R rn rc xs W5 HR5.o hn HB5.o HB4.o).mono ?_;rintro e w6 ⟨rfl,hB6⟩;have HD6:=aq (DS.below HDS5.o hB6);have HR6:=aq (Rdv.below HR5.o hB6);have k63:=(HB3.o.below hB6).cell (j:=0) (v:=.pointer (some ⟨D,0,none⟩)) rfl;have k64:=(HB4.o.below hB6).cell (j:=0) (v:=.slice R rn rc) rfl;have k6d:=HD6.o.b.cell (j:=4) (v:=.slice B bn bc) rfl;have f6d:=HD6.o.b.frozen 4;have HBW6:=aq (HBW.o.trans (hB6.mono HBW.o.size));have hg:w6.grownBy (w6.setCell ⟨D,4,none⟩ (.slice R rn rc)) (some D):=grownBy_set _ _ _ _;have HF:Hid (DS (w6.setCell ⟨D,4,none⟩ (.slice R rn rc)) D k vs a xs h V vc O oc I ic A ac R rn rc):=aq ⟨HD6.o.b.set 4 _,Rdv.grown HD6.o.v hg (nesome HD6.o.nv),Rdv.grown HD6.o.o hg (nesome HD6.o.no),Rdv.grown HD6.o.i hg (nesome HD6.o.ni),Rdv.grown HD6.o.a hg (nesome HD6.o.na),Rdv.grown HR6.o hg (nesome hrn),HD6.o.nv,HD6.o.no,HD6.o.ni,HD6.o.na,hrn⟩;have HG:Hid (w.grownBy (w6.setCell ⟨D,4,none⟩ (.slice R rn rc)) (some D)):=aq (below_grown HBW6.o hg);clear hB6 hg HA HB3 HB4 HB5 k5 kf;generalize hp:(decide (Cr.chkErr 1 xs=0))=p;have HP:=aq hp;clear hp;go_wp2;go_ret;exact⟨ret_bool HP.o.symm,HF.o,HG.o⟩
set_option maxHeartbeats 2000000
def kOf(vs:List Int):Nat:=vs.length / 3 - 4
theorem wrE_zero{vs:List Int}{kind most:Int}(h:wrE vs kind most=0):vs.length % 3=0/\Tu.validK ((vs.length:Int) / 3 - 4)=true/\(0<=kind/\kind<=4)/\(1<=most/\most<=64)/\SoftB vs=true:=by
 unfold wrE at h;split at h
 . cases h
 . rename_i hc
   split at h
   . rename_i hs
     refine⟨by omega,?_,by omega,by omega,hs⟩;cases hv:Tu.validK ((vs.length:Int) / 3 - 4) with
     | true=>rfl
     | false=>exact absurd (.inr (.inl hv)) hc
   . cases h
theorem valid_szK{k:Nat}(h:Tu.validK (k:Int)=true)(hk:k<=512):∃ u,k=Tu.szK u:=by
 unfold Tu.validK at h;rw [decide_eq_true_iff]at h;refine⟨(k - 40) / 8,?_⟩;unfold Tu.szK;omega
theorem soft_gi{vs:List Int}(h:SoftB vs=true)(i:Nat):-127<=gi vs i/\gi vs i<=127:=by
 rcases Nat.lt_or_ge i vs.length with h1 | h1
 . exact softB_mem h _ (gi_mem vs i h1)
 . rw [gi_over h1];omega
theorem pk_bd{xs:List Int}(h:∀ i,-127<=gi xs i/\gi xs i<=127)(l:List Int):∀ v ∈ pk xs l,-127<=v/\v<=127:=fun v hv=>by
 unfold pk at hv;obtain⟨i,-,rfl⟩:=List.mem_map.1 hv;exact h _
theorem ob0_ok{vs:List Int}{k:Nat}(hv:SoftB vs=true)(hk:1<=k/\k<=6144):(obH vs k 1 (List.replicate k 0)).ok:=by
 have h1:(List.replicate k (0:Int)).length=k:=List.length_replicate;refine⟨by show 1<=(List.replicate k (0:Int)).length;omega,by show(List.replicate k (0:Int)).length<=_;omega,by show(pk _ _).length=(List.replicate k (0:Int)).length+3;rw [pk_len,sys_len,h1],by show(pk _ _).length=(List.replicate k (0:Int)).length+3;rw [pk_len,par_len,h1],pk_bd (soft_gi hv) _,pk_bd (soft_gi hv) _,fun v hv=>by have:=List.eq_of_mem_replicate hv;omega⟩
def FstK(vs:List Int)(most:Int)(x:List Int):Prop:=wrE vs 1 most=0/\decN vs (kOf vs) 0=x/\Cr.chkErr 1 x=0
theorem dec_1(S:Option Addr)(n cs:Nat)(vs x:List Int)(most:Int)(w:World)(h:Rd .i64 w S n cs vs)(hn:n<=1500)(hd:FstK vs most x) :
 Calls prog 121 #[.slice S n cs,.int .i64 1,.int .i64 most] w fun e w'=>∃ R rc,e= .returned (.tuple #[.slice R x.length rc,.int .i64 1,.int .i64 0])/\Rd .u8 w' R x.length rc x/\(R≠none->w.heap.size<=blk R)/\Below w.heap.size w w':=by
 obtain⟨hE,hx,hc⟩:=hd;have hl:=Rd.len h;obtain⟨h3,hv,-,hm,hs⟩:=wrE_zero hE;have hkb:=Tu.valid_bd hv;have hkn:((vs.length:Int) / 3 - 4)=((kOf vs:Nat):Int):=by unfold kOf;omega
 rw [hkn]at hv hkb;have hn3:n=3*(kOf vs+4):=by omega
 obtain⟨u,hu⟩:=valid_szK hv (by unfold kOf;omega);rw [hn3]at h ⊢;obtain⟨k,hk⟩:∃ k,k=kOf vs:=⟨_,rfl⟩
 rw [<- hk]at h hv hkb hu hx ⊢;have hok:=ob0_ok (vs:=vs) (k:=k) hs (by omega);have hdb:(obH vs k 1 (List.replicate k 0)).dB=x:=by
  rw [<- hx];unfold decN;rw [if_pos (by rfl)];rfl
 have HBG:=aq (begun_ok S k cs vs 1 most w h hv (by omega) (by omega) hs)
 have HNX:=aq (fun D V vc O oc I ic A ac W hst=>next1_any D k 0 vs (List.replicate k 0) [] V vc O oc I ic A ac none 0 0 W hst hv hok (fun j hj=>by
  obtain⟨p,e1,e2⟩:=sys_bd hu (.inl rfl) hj;obtain⟨q,e3,e4⟩:=par_bd (k:=k) (code:=1) (.inl rfl) hj
  rw [e1,e3];omega) (by omega) rfl)
 have HDB:=aq hdb;have HC:=aq hc;have HKB:Hid (k<=6144):=aq (by omega);have hm0:decide ((0:Int)<most)=true:=by simp;omega
 have hm1:(0:Int)<most:=by omega
 clear h hv hs hok hdb hx hc hu hkb hkn hn3 hE h3 hl hn hk hm;go_enter func121,ntmps121;go_wp2_with fail;refine HBG.o.mono ?_;rintro e w1 ⟨D,V,vc,O,oc,I,ic,A,ac,rfl,hDS,hD,hB⟩;have HX:=aq (HNX.o D V vc O oc I ic A ac w1 hDS);have HD:=aq hD;have HB:=aq hB;have HDL:=aq hDS.b.lt;clear hDS hD hB HBG HNX;go_wp2_with fail;refine wp_loop_rounds 2 ?_;rw [rounds_succ];go_wp2_with fail;refine HX.o.mono ?_;rintro e w2 ⟨R,rc,A',ac',rfl,hr,hrn,hds,hg⟩;rw [if_pos rfl,HDB.o]at hr;have hxk:=Rd.len hr;have HPX:=aq (passes1_any R k rc x w2 hds hr (fun hA=>by have:=hrn hA;have:=HDL.o;omega) (by omega) (by have:=HKB.o;omega));rw [decide_eq_true HC.o]at HPX;have HRB:=aq (fun hA=>Nat.le_trans HB.o.size (hrn hA));have HB2:=aq (HB.o.grown hg HB.o.size (fun j e=>by cases e;exact HD.o));have HXK:=aq hxk;clear hr hrn hds hg hxk HX;go_wp2_with fail;refine HPX.o.mono ?_;rintro e w3 ⟨rfl,hst,hg⟩;have HR3:=aq hst.p;have hc5:w3.cell? ⟨D,5,none⟩=some (.int .i64 1):=hst.b.cell rfl;have HB3:=aq (HB2.o.grown hg HB2.o.size (fun j e=>by cases e;exact HD.o));clear hst hg;go_wp2_with fail;go_quiet (fail);go_wp2;go_ret3;refine⟨R,rc,by rw [HXK.o];rfl,?_,HRB.o,HB3.o.trans (Qt.below ⟨nq,rfl⟩ _)⟩;rw [HXK.o];exact Rdv.drewN HR3.o nq
end Go.Proofs.YthmhogdceolkdaaGreat
namespace Go.Proofs.YthmhogdceolkdaaGreat
open Tryz
open Go.RowKit
set_option maxRecDepth 100000
theorem info2i:(prog.info? 49).map (·.size)=some 2:=by kernel_rfl
theorem bounds_any(w:World):Calls prog 292 #[] w fun e w'=>e= .returned (.agg #[.int .i64 (-127),.int .i64 127])/\Below w.heap.size w w':=by
 have hx:Blk (w.alloc (.cells #[.int .i64 0,.int .i64 0] 49)) w.heap.size 49 [.int .i64 0,.int .i64 0]:=Blk.new w [.int .i64 0,.int .i64 0] _ rfl;have hq:Below w.heap.size w (w.alloc (.cells #[.int .i64 0,.int .i64 0] 49)):=(Below.refl _ w).alloc (Nat.le_refl _) _;go_enter func292,ntmps292
 go_wp2_with (refine strow (cs:=[.int .i64 (-127),.int .i64 127]) rfl 49 (.tmp 0) (.tmp 1) rfl rfl rfl hx rfl (by kernel_rfl) (by simp [Value.oneCell']) ?_
              intro W' h1 h2;have H1:=aq h1;have H2:=aq (hq.grown h2 hq.size (fun k e=>by cases e;exact Nat.le_refl _))
              clear h1 h2 hx hq)
 have l1:(loadVar 49 ⟨w.heap.size,0,none⟩).run prog W'= .ok (.agg [.int .i64 (-127),.int .i64 127].toArray) W':=run_loadVar_row (P:=prog) W' _ 49 49 _ (0,0) _ H1.o underlying49 rfl (by rw [info2i];rfl);refine bodyPost_ret (v:=.agg [.int .i64 (-127),.int .i64 127].toArray) ?_ rfl ⟨rfl,H2.o⟩;rw [results_c rfl];simp [asAddr,Act.put,l1,Sem.run_pure]
def clI(v:Int):Int:=if v < -127 then -127 else if 127<v then 127 else v
theorem clamp_any(v:Int)(w:World):Calls prog 236 #[.int .i64 v] w fun e w'=>e= .returned (.int .i64 (clI v))/\Below w.heap.size w w':=by
 obtain⟨u,hu⟩:∃ u,u=clI v:=⟨_,rfl⟩
 rw [<- hu];rcases (by omega:v < -127\/127<v\/(-127<v/\v<127)\/v = -127\/v=127) with h | h | ⟨h1,h2⟩ | rfl | rfl;case' inl=>have e1:u = -127:=by rw [hu];unfold clI;rw [if_pos h]
 case' inr.inl=>have e1:u=127:=by rw [hu];unfold clI;rw [if_neg (by omega),if_pos h]
 case' inr.inr.inl=>have e1:u=v:=by rw [hu];unfold clI;rw [if_neg (by omega),if_neg (by omega)]
 case' inr.inr.inr.inl=>have e1:u = -127:=by rw [hu];decide
 case' inr.inr.inr.inr=>have e1:u=127:=by rw [hu];decide
 all_goals
  rw [e1]
  clear hu e1
  go_enter func236,ntmps236
  go_wp2_with fail
  refine(bounds_any w).mono ?_
  rintro e w1 ⟨rfl,hB⟩
  have HB:=aq ((hB.alloc hB.size (.cells #[.int .i64 (-127),.int .i64 127] 49)))
  clear hB
  go_wp2
  go_ret
  exact⟨rfl,HB.o⟩
theorem clI_bd(v:Int):-127<=clI v/\clI v<=127:=by unfold clI;split<;>(try split)<;>omega
theorem clI_in{v:Int}(h:-127<=v/\v<=127):clI v=v:=by unfold clI;rw [if_neg (by omega),if_neg (by omega)]
def addI(a b:Int):Int:=clI (clI a+clI b)
theorem sadd_any(a b:Int)(w:World):Calls prog 177 #[.int .i64 a,.int .i64 b] w fun e w'=>e= .returned (.int .i64 (addI a b))/\Below w.heap.size w w':=by
 have ha:=clI_bd a;have hb:=clI_bd b;have q:IntKind.i64.wrap (clI a+clI b)=clI a+clI b:=IntWalk.i64_in _ (by omega);have HA:=aq (fun W=>clamp_any a W);have HB:=aq (fun W=>clamp_any b W);have HC:=aq (fun W=>clamp_any (clI a+clI b) W);have HE:=aq (show addI a b=clI (clI a+clI b) from rfl);rw [HE.o];generalize clI (clI a+clI b)=z at *;generalize clI a=x at *;generalize clI b=y at *;clear HE;go_enter func177,ntmps177;go_wp2_with fail;refine(HA.o _).mono ?_;rintro e w1 ⟨rfl,hB1⟩;have H1:=aq hB1;clear hB1;go_wp2_with fail;refine(HB.o _).mono ?_;rintro e w2 ⟨rfl,hB2⟩;have H2:=aq (H1.o.trans (hB2.mono H1.o.size));clear hB2;go_wp2_with fail;refine(HC.o _).mono ?_;rintro e w3 ⟨rfl,hB3⟩;have H3:=aq (H2.o.trans (hB3.mono H2.o.size));clear hB3;go_wp2;go_ret;exact⟨rfl,H3.o⟩
theorem svalid1_any(v:Int)(w:World):Calls prog 290 #[.int .i64 v] w fun e w'=>e= .returned (.bool (!decide (-127<=v/\v<=127)))/\Below w.heap.size w w':=by
 have HA:=aq (fun W=>clamp_any v W)
 have HE:Hid ((clI v != v)=(!decide (-127<=v/\v<=127))):=aq (by
  by_cases h:-127<=v/\v<=127
  . rw [clI_in h];simp [h]
  . have hb:=clI_bd v
    have hne:clI v≠v:=fun e=>h (by rw [<- e];exact hb)
    simp [h,hne])
 rw [<- HE.o];generalize clI v=z at *;go_enter func290,ntmps290;go_wp2_with fail;refine(HA.o _).mono ?_;rintro e w1 ⟨rfl,hB1⟩;have H1:=aq hB1;clear hB1;go_wp2;go_ret;exact⟨rfl,H1.o⟩
theorem elL:El prog 284 3 (.int .i64 0) 8:=⟨by kernel_rfl,by kernel_rfl,fun _=>by kernel_rfl,rfl⟩
set_option maxHeartbeats 400000
def SdI(w:World)(n:Nat)(xs:List Int)(i:Value)(wr:World):Prop:=∃ j:Nat,j<=n/\i= .int .i64 (j:Int)/\(∀ q,q<j->-127<=gi xs q/\gi xs q<=127)/\Below w.heap.size w wr
def SdP(b:Bool)(w:World)(e:Ending)(w':World):Prop:=∃ r:Int,e= .returned (.int .i64 r)/\(decide (0<=r)=!b)/\Below w.heap.size w w'
theorem soidx_any(A:Option Addr)(n c:Nat)(xs:List Int)(w:World)(h:Rd .i64 w A n c xs) :
 Calls prog 323 #[.slice A n c,.func (.func 290) #[] #[]] w (SdP (SoftB xs) w):=by
 have hbd:=h.bd.1;have HR:=aq h;have HL:=aq h.len;have HV1:=aq (fun v W=>svalid1_any v W);clear h;go_enter func323,ntmps323;go_wp2;go_loopw [8] (fun i wr=>SdI w n xs i wr) (fun i _=>n - (intOf i).toNat)
 case atStart=>exact⟨0,by omega,rfl,(by intro q hq;omega),Below.refl _ _⟩
 case round =>
  obtain⟨j,hj,rfl,hv,hB⟩:=hrel;have HV:=aq hv;have HB:=aq hB;by_cases hlt:j<n
  . have hr:=Rdv.below HR.o hB
    have hc:=Rd.cell hr hlt;have hix:=fun W=>Rdv.ix hr elL hlt .i64 W;clear hv hB hr;by_cases h1:-127<=gi xs j/\gi xs j<=127
    . have h1':(!decide (-127<=gi xs j/\gi xs j<=127))=false:=by simp;omega
      have H1:=aq h1;clear h1;have HW:=aq (HV1.o (gi xs j) wr);rw [h1']at HW;clear h1';obtain⟨v,hve⟩:∃ v,v=gi xs j:=⟨_,rfl⟩
      rw [<- hve]at hc HW;have HVE:=aq hve;clear hve;go_wp2_with fail;refine HW.o.mono ?_;rintro e w1 ⟨rfl,hB1⟩;have HB1:=aq (HB.o.trans (hB1.mono HB.o.size));clear hB1;go_wp2;go_roundw
      case rel=>exact⟨j+1,by omega,by go_num,(fun q hq=>lt_succ_cases HV.o H1.o q hq),HB1.o⟩
      case measure=>simp [intOf];omega
    . have h1':(!decide (-127<=gi xs j/\gi xs j<=127))=true:=by simp;omega
      have hf:=aq (softB_f (by rw [HL.o];exact hlt) h1);have HW:=aq (HV1.o (gi xs j) wr);rw [h1']at HW;clear h1' h1;generalize gi xs j=v at *;go_wp2_with fail;refine HW.o.mono ?_;rintro e w1 ⟨rfl,hB1⟩;have HB1:=aq (HB.o.trans (hB1.mono HB.o.size));clear hB1;go_wp2;go_ret;exact⟨_,rfl,by rw [hf.o];simp,HB1.o⟩
  . have hf:=aq (softB_t (xs:=xs) (by rw [HL.o];intro q hq;exact hv q (by omega)))
    clear hv hB;go_wp2;go_ret;exact⟨_,rfl,by rw [hf.o];simp,HB.o⟩
theorem socont_any(A:Option Addr)(n c:Nat)(xs:List Int)(w:World)(h:Rd .i64 w A n c xs) :
 Calls prog 289 #[.slice A n c,.func (.func 290) #[] #[]] w fun e w'=>e= .returned (.bool (!SoftB xs))/\Below w.heap.size w w':=by
 have HI:=aq (soidx_any A n c xs w h);generalize SoftB xs=b at *;clear h;go_enter func289,ntmps289;go_wp2_with fail;refine HI.o.mono ?_;rintro e w1 ⟨r,rfl,hr,hB⟩;have HB:=aq hB;have HR:=aq hr;clear hB hr;go_wp2;go_ret;refine⟨ret_bool ?_,HB.o⟩;have:=HR.o;cases b<;>simp_all
theorem slval_any(A:Option Addr)(n c:Nat)(xs:List Int)(w:World)(h:Rd .i64 w A n c xs) :
 Calls prog 232 #[.slice A n c] w fun e w'=>e= .returned (.bool (SoftB xs))/\Below w.heap.size w w':=by
 have HI:=aq (socont_any A n c xs w h);generalize SoftB xs=b at *;clear h;go_enter func232,ntmps232;go_wp2_with fail;refine HI.o.mono ?_;rintro e w1 ⟨rfl,hB⟩;have HB:=aq hB;clear hB;go_wp2;go_ret;exact⟨ret_bool (by simp),HB.o⟩
theorem svalid_any(A:Option Addr)(n c:Nat)(xs:List Int)(w:World)(h:Rd .i64 w A n c xs) :
 Calls prog 173 #[.slice A n c] w fun e w'=>e= .returned (.bool (SoftB xs))/\Below w.heap.size w w':=by
 have HI:=aq (slval_any A n c xs w h);have hfld:∀ W,(Instr.field 286 (.agg #[.slice A n c]) 0).run prog W= .ok (.slice A n c) W:=fun _=>by kernel_rfl
 generalize SoftB xs=b at *;clear h;go_enter func173,ntmps173;go_wp2_with fail;refine HI.o.mono ?_;rintro e w1 ⟨rfl,hB⟩;have HB:=aq hB;clear hB;go_wp2;go_ret;exact⟨rfl,HB.o⟩
end Go.Proofs.YthmhogdceolkdaaGreat
namespace Go.Proofs.YthmhogdceolkdaaGreat.Cr
open Tryz
set_option maxRecDepth 100000
set_option maxHeartbeats 400000
open Go.RowKit
theorem inv1G_any(b:Int)(w:World):Calls prog 216 #[.int .u8 b] w fun e w'=>e= .returned (.bool (decide (1<b)))/\w=w':=by
 go_enter func216,ntmps216;go_wp2;go_ret;exact⟨rfl,rfl⟩
theorem idxG_any(A:Option Addr)(n c:Nat)(xs:List Int)(w:World)(h:Rd .u8 w A n c xs) :
 Calls prog 279 #[.slice A n c,.func (.func 216) #[] #[]] w (IdxPost xs w):=by
 have hbd:=h.bd.1;go_enter func279,ntmps279;go_wp2;go_loop [8] (fun i=>IdxInv n xs i) (fun i=>n - (intOf i).toNat)
 case atStart=>exact⟨0,by omega,rfl,by intro q hq;omega⟩
 case round =>
  obtain⟨j,hj,rfl,hv⟩:=hrel;by_cases hlt:j<n
  . have hc:=Rd.cell h hlt
    have hix:=fun W=>Rdv.ix h el53 hlt .i64 W;have HV:=aq hv;clear hv;by_cases h1:gi xs j<=1
    . have h1':decide (1<gi xs j)=false:=by simp;omega
      go_wp2_with (go_at_call 216;refine(inv1G_any _ _).mono ?_;rintro e w' ⟨rfl,rfl⟩);go_round
      case rel=>exact⟨j+1,by omega,by go_num,fun q hq=>lt_succ_cases HV.o h1 q hq⟩
      case measure=>simp [intOf];omega
    . have h1':decide (1<gi xs j)=true:=by simp;omega
      have hf:=aq (validB_f (by rw [h.len];exact hlt) (by omega:1<gi xs j));go_wp2_with (go_at_call 216;refine(inv1G_any _ _).mono ?_;rintro e w' ⟨rfl,rfl⟩);go_ret;exact⟨_,rfl,by rw [hf.o];simp,rfl⟩
  . have hf:=aq (validB_t (xs:=xs) (by rw [h.len];intro q hq;exact hv q (by omega)))
    go_wp2;go_ret;exact⟨_,rfl,by rw [hf.o];simp,rfl⟩
theorem containsG_any(A:Option Addr)(n c:Nat)(xs:List Int)(w:World)(h:Rd .u8 w A n c xs) :
 Calls prog 218 #[.slice A n c,.func (.func 216) #[] #[]] w fun e w'=>e= .returned (.bool (!ValidB xs))/\w=w':=by
 go_enter func218,ntmps218;go_wp2_with (go_at_call 279;refine(idxG_any A n c xs w h).mono ?_;rintro e w' ⟨r,rfl,hr,rfl⟩);go_ret;refine⟨ret_bool ?_,rfl⟩;cases hv:ValidB xs<;>simp_all
theorem inv1Q_any(b:Int)(w:World):Calls prog 219 #[.int .u8 b] w fun e w'=>e= .returned (.bool (decide (1<b)))/\w=w':=by
 go_enter func219,ntmps219;go_wp2;go_ret;exact⟨rfl,rfl⟩
theorem idxQ_any(A:Option Addr)(n c:Nat)(xs:List Int)(w:World)(h:Rd .u8 w A n c xs) :
 Calls prog 279 #[.slice A n c,.func (.func 219) #[] #[]] w (IdxPost xs w):=by
 have hbd:=h.bd.1;go_enter func279,ntmps279;go_wp2;go_loop [8] (fun i=>IdxInv n xs i) (fun i=>n - (intOf i).toNat)
 case atStart=>exact⟨0,by omega,rfl,by intro q hq;omega⟩
 case round =>
  obtain⟨j,hj,rfl,hv⟩:=hrel;by_cases hlt:j<n
  . have hc:=Rd.cell h hlt
    have hix:=fun W=>Rdv.ix h el53 hlt .i64 W;have HV:=aq hv;clear hv;by_cases h1:gi xs j<=1
    . have h1':decide (1<gi xs j)=false:=by simp;omega
      go_wp2_with (go_at_call 219;refine(inv1Q_any _ _).mono ?_;rintro e w' ⟨rfl,rfl⟩);go_round
      case rel=>exact⟨j+1,by omega,by go_num,fun q hq=>lt_succ_cases HV.o h1 q hq⟩
      case measure=>simp [intOf];omega
    . have h1':decide (1<gi xs j)=true:=by simp;omega
      have hf:=aq (validB_f (by rw [h.len];exact hlt) (by omega:1<gi xs j));go_wp2_with (go_at_call 219;refine(inv1Q_any _ _).mono ?_;rintro e w' ⟨rfl,rfl⟩);go_ret;exact⟨_,rfl,by rw [hf.o];simp,rfl⟩
  . have hf:=aq (validB_t (xs:=xs) (by rw [h.len];intro q hq;exact hv q (by omega)))
    go_wp2;go_ret;exact⟨_,rfl,by rw [hf.o];simp,rfl⟩
theorem containsQ_any(A:Option Addr)(n c:Nat)(xs:List Int)(w:World)(h:Rd .u8 w A n c xs) :
 Calls prog 218 #[.slice A n c,.func (.func 219) #[] #[]] w fun e w'=>e= .returned (.bool (!ValidB xs))/\w=w':=by
 go_enter func218,ntmps218;go_wp2_with (go_at_call 279;refine(idxQ_any A n c xs w h).mono ?_;rintro e w' ⟨r,rfl,hr,rfl⟩);go_ret;refine⟨ret_bool ?_,rfl⟩;cases hv:ValidB xs<;>simp_all
end Go.Proofs.YthmhogdceolkdaaGreat.Cr
namespace Go.Proofs.YthmhogdceolkdaaGreat
open Tryz
open Go.RowKit
theorem gsinv_any(v:Int)(w:World):Calls prog 203 #[.int .i64 v] w fun e w'=>e= .returned (.bool (!decide (-127<=v/\v<=127)))/\Below w.heap.size w w':=by
 rcases (by omega:v < -127\/(¬ v < -127/\127<v)\/(¬ v < -127/\¬ 127<v)) with h1 | ⟨h1,h2⟩ | ⟨h1,h2⟩
 . have e1:(!decide (-127<=v/\v<=127))=true:=by simp;omega
   rw [e1];go_enter func203,ntmps203;go_wp2;go_ret;exact⟨rfl,Below.refl _ _⟩
 . have e1:(!decide (-127<=v/\v<=127))=true:=by simp;omega
   rw [e1];go_enter func203,ntmps203;go_wp2;go_ret;exact⟨rfl,Below.refl _ _⟩
 . have e1:(!decide (-127<=v/\v<=127))=false:=by simp;omega
   rw [e1];go_enter func203,ntmps203;go_wp2;go_ret;exact⟨rfl,Below.refl _ _⟩
theorem gsidx_any(A:Option Addr)(n c:Nat)(xs:List Int)(w:World)(h:Rd .i64 w A n c xs) :
 Calls prog 230 #[.slice A n c,.func (.func 203) #[] #[]] w (SdP (SoftB xs) w):=by
 have hbd:=h.bd.1;have HR:=aq h;have HL:=aq h.len;have HV1:=aq (fun v W=>gsinv_any v W);clear h;go_enter func230,ntmps230;go_wp2;go_loopw [8] (fun i wr=>SdI w n xs i wr) (fun i _=>n - (intOf i).toNat)
 case atStart=>exact⟨0,by omega,rfl,(by intro q hq;omega),Below.refl _ _⟩
 case round =>
  obtain⟨j,hj,rfl,hv,hB⟩:=hrel;have HV:=aq hv;have HB:=aq hB;by_cases hlt:j<n
  . have hr:=Rdv.below HR.o hB
    have hc:=Rd.cell hr hlt;have hix:=fun W=>Rdv.ix hr el22 hlt .i64 W;clear hv hB hr;by_cases h1:-127<=gi xs j/\gi xs j<=127
    . have h1':(!decide (-127<=gi xs j/\gi xs j<=127))=false:=by simp;omega
      have H1:=aq h1;clear h1;have HW:=aq (HV1.o (gi xs j) wr);rw [h1']at HW;clear h1';obtain⟨v,hve⟩:∃ v,v=gi xs j:=⟨_,rfl⟩
      rw [<- hve]at hc HW;have HVE:=aq hve;clear hve;go_wp2_with fail;refine HW.o.mono ?_;rintro e w1 ⟨rfl,hB1⟩;have HB1:=aq (HB.o.trans (hB1.mono HB.o.size));clear hB1;go_wp2;go_roundw
      case rel=>exact⟨j+1,by omega,by go_num,(fun q hq=>lt_succ_cases HV.o H1.o q hq),HB1.o⟩
      case measure=>simp [intOf];omega
    . have h1':(!decide (-127<=gi xs j/\gi xs j<=127))=true:=by simp;omega
      have hf:=aq (softB_f (by rw [HL.o];exact hlt) h1);have HW:=aq (HV1.o (gi xs j) wr);rw [h1']at HW;clear h1' h1;generalize gi xs j=v at *;go_wp2_with fail;refine HW.o.mono ?_;rintro e w1 ⟨rfl,hB1⟩;have HB1:=aq (HB.o.trans (hB1.mono HB.o.size));clear hB1;go_wp2;go_ret;exact⟨_,rfl,by rw [hf.o];simp,HB1.o⟩
  . have hf:=aq (softB_t (xs:=xs) (by rw [HL.o];intro q hq;exact hv q (by omega)))
    clear hv hB;go_wp2;go_ret;exact⟨_,rfl,by rw [hf.o];simp,HB.o⟩
theorem gscont_any(A:Option Addr)(n c:Nat)(xs:List Int)(w:World)(h:Rd .i64 w A n c xs) :
 Calls prog 233 #[.slice A n c,.func (.func 203) #[] #[]] w fun e w'=>e= .returned (.bool (!SoftB xs))/\Below w.heap.size w w':=by
 have HI:=aq (gsidx_any A n c xs w h);generalize SoftB xs=b at *;clear h;go_enter func233,ntmps233;go_wp2_with fail;refine HI.o.mono ?_;rintro e w1 ⟨r,rfl,hr,hB⟩;have HB:=aq hB;have HR:=aq hr;clear hB hr;go_wp2;go_ret;refine⟨ret_bool ?_,HB.o⟩;have:=HR.o;cases b<;>simp_all
theorem gflip_any(v:Int)(h:v=0\/v=1)(w:World):Calls prog 217 #[.int .u8 v] w fun e w'=>e= .returned (.int .u8 (1 - v))/\w=w':=by
 rcases h with rfl | rfl<;>(
  go_enter func217,ntmps217
  go_wp2
  go_ret
  exact⟨rfl,rfl⟩)
theorem gsflip_any(v:Int)(h:-127<=v/\v<=127)(w:World):Calls prog 204 #[.int .i64 v] w fun e w'=>e= .returned (.int .i64 (-v))/\w=w':=by
 obtain⟨h1,h2⟩:=h;go_enter func204,ntmps204;go_wp2;go_ret;exact⟨rfl,rfl⟩
end Go.Proofs.YthmhogdceolkdaaGreat