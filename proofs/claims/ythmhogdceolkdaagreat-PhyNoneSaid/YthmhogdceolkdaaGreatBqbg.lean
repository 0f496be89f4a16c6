/- Bundle. Conditions: none. -/
import Derived.Test.YthmhogdceolkdaaGreatBqbc
set_option linter.unusedVariables false
set_option linter.unusedSimpArgs false
namespace Go.Proofs.YthmhogdceolkdaaGreat.Cr
open Tryz
open CM Go.RowKit
set_option maxRecDepth 100000
set_option maxHeartbeats 1000000
theorem sz_vk(b i:Nat):VK (sz b i:Int):=by
 unfold sz;split
 . rename_i h
   by_cases hb:b<=6144
   . have:shs b=0:=by unfold shs;rw [if_pos hb]
     omega
   . unfold sh;rw [if_neg hb];exact pv_vk av_le
 . exact nx_vk av_le
theorem vk_tu{k:Int}(h:VK k):Tu.validK k=true:=by
 unfold VK at h;unfold Tu.validK;rw [decide_eq_true_iff];omega
theorem segs_len{b:Nat}{full:List Int}(h1:1<=b)(hf:full.length=off b (bC b)):∀ d ∈ segs b full (bC b),∃ i,i<bC b/\d.length=sz b i:=by
 intro d hd;unfold segs at hd;obtain⟨i,hi,rfl⟩:=List.mem_map.1 hd;have hi:=List.mem_range.1 hi;refine⟨i,hi,segB_len h1 _ ?_⟩;have h2:=off_le (b:=b) (show i+1<=bC b by omega);have h3:off b (i+1)=off b i+(sz b i - ck b):=rfl;rw [List.length_take,List.length_drop];omega
theorem sD_vk{ys:List Int}:∀ d ∈ sD ys,Tu.validK (d.length:Int)=true:=by
 intro d hd;unfold sD at hd;split at hd
 . rename_i he
   have hl:1<=ys.length:=by
    unfold sE at he;split at he
    . cases he
    . omega
   obtain⟨i,-,h⟩:=segs_len hl (by rw [List.length_append,List.length_replicate,off_all hl];omega) d hd;rw [h];exact vk_tu (sz_vk _ _)
 . simp at hd
theorem enc0_of{ys:List Int}{L:List Sv}(hl:L.map (·.xs)=sD ys)(hb:∀ s ∈ L,Bit s.xs):Enc0 L:=fun s hs=>by
 have h1:=hb s hs;refine⟨fun x hx=>by rcases h1 x hx with rfl | rfl<;>decide,?_⟩;unfold Tu.encE;rw [if_pos (sD_vk s.xs (by rw [<- hl];exact List.mem_map_of_mem hs)),show Go.Proofs.YthmhogdceolkdaaGreat.ValidB s.xs=ValidB s.xs from rfl,if_pos (bit_valid h1)]
def WdAll(xs:List Int)(w:World)(e:Ending)(w':World):Prop:=∃ A' n' c' L,e= .returned (.tuple #[.slice A' n' c',.int .i64 (bE xs)])/\n'=L.length/\BL w' w.heap.size A' c' L/\L.map (·.xs)=(bD xs).map Tu.encW/\Below w.heap.size w w'
theorem WdAll.bad{xs:List Int}{k:Int}{w w':World}(hB:Below w.heap.size w w')(hk:bE xs=k)(h0:k≠0):WdAll xs w (.returned (.tuple #[.slice none 0 0,.int .i64 k])) w' :=
 ⟨none,0,0,[],by rw [hk],rfl,BL.nil _ _,by unfold bD;rw [if_neg (by rw [hk];exact h0)];rfl,hB⟩
theorem wd_map{L L0:List Sv}{ys:List Int}{xs:List Int}(h:L.map (·.xs)=L0.map (fun s=>Tu.encW s.xs))(h0:L0.map (·.xs)=sD ys)(hD:bD xs=sD ys):L.map (·.xs)=(bD xs).map Tu.encW:=by
 rw [h,hD,<- h0,List.map_map];rfl
theorem words_any(A:Option Addr)(n c:Nat)(xs:List Int)(w:World)(hx:Rd .u8 w A n c xs)(hy:Byt xs)(hn:n<=79536):Calls prog 210 #[.slice A n c] w (WdAll xs w):=by
 have hl:=hx.len;have HLY:=aq (fun W=>lay_any n W);by_cases h1:n<1
 . have hb:bE xs=2:=by unfold bE;rw [if_pos (by omega)]
   have HBD:=aq (fun w' hB=>WdAll.bad (w:=w) (w':=w') hB hb (by decide));have hly:ly15 n=(zero7,2):=by unfold ly15;rw [if_pos (by omega)]
   rw [hly]at HLY;clear hb hly;simp only [ints8,zero7,List.map_cons,List.map_nil]at HLY;go_enter func210,ntmps210;go_wp2_with fail;refine(HLY.o _).mono ?_;rintro e w1 ⟨rfl,hB1⟩;have HB2:=aq (bal hB1 (.cells #[.int .i64 0,.int .i64 0,.int .i64 0,.int .i64 0,.int .i64 0,.int .i64 0,.int .i64 0] 122));clear hB1;go_wp2;go_ret2;exact HBD.o _ HB2.o
 . have hly:ly15 n=(LY ((n:Int)+24).toNat,0):=by unfold ly15;rw [if_neg (by omega)]
   rw [hly]at HLY;obtain⟨ly,hl2⟩:∃ ly,ly=LY ((n:Int)+24).toNat:=⟨_,rfl⟩
   have hl7:ly.length=7:=by rw [hl2];rfl
   rw [<- hl2]at HLY;have HAT:=aq (fun W h=>attach_any 1 A n c xs W h (by omega));have HX:=aq hx;by_cases hv:ValidB xs=true
   . have hbit:=bit_of (fun x hx=>(hy x hx).1) hv
     have hb:bE xs=0:=by unfold bE;rw [if_neg (by omega),if_pos hv]
     have e1:cErr 1 xs=0:=by unfold cErr;rw [if_neg (by decide),if_pos hv]
     have e2:aRes 1 xs=xs ++ crcSum 1 xs:=by unfold aRes;rw [if_neg (by decide),if_pos hv]
     rw [e1,e2]at HAT;have hcl:(crcSum 1 xs).length=24:=by rw [crcSum_len];rfl
     have hcb:Bit (crcSum 1 xs):=bit_sum (by decide) hbit;have hvb:=validB_of_bit (bit_app hbit hcb);have hs:sE (xs ++ crcSum 1 xs)=0:=by
      unfold sE;rw [List.length_append,hcl,if_neg (by omega),if_pos hvb]
     have HSP:=aq (fun X m c W h=>split_all X m c (xs ++ crcSum 1 xs) W h (byt_bit (bit_app hbit hcb)));unfold SpAll at HSP;rw [hs]at HSP;unfold WdAll;have HBD:=aq (show bD xs=sD (xs ++ crcSum 1 xs) by unfold bD;rw [if_pos hb]);have HTL:=aq (show(xs ++ crcSum 1 xs).length=n+24 by rw [List.length_append,hcl];omega);rw [hb];clear hv hb e1 e2 hs hbit hx hy hvb hl2 hly hcb hcl;obtain⟨ys,hys⟩:∃ ys,ys=xs ++ crcSum 1 xs:=⟨_,rfl⟩
     rw [<- hys]at HAT HSP HBD HTL;clear hys;go_enter func210,ntmps210;go_wp2_with fail;refine(HLY.o _).mono ?_;rintro e w1 ⟨rfl,hB1⟩;have hL0:Blk (w1.alloc (.cells (ints8 zero7).toArray 122)) w1.heap.size 122 (ints8 zero7):=Blk.new w1 _ 122 rfl;have HB1:=aq hB1;clear hB1;simp only [ints8,zero7,List.map_cons,List.map_nil]at hL0
     go_wp2_with (first
      | (refine strow (cs:=ints8 ly) rfl 122 (.tmp 4) (.tmp 13) rfl rfl rfl hL0 (by simp [ints8,hl7]) (by rw [info23];simp [ints8,hl7]) (ints8_one ly) ?_
         intro W2 g1 g2;have hq:=(Below.refl w1.heap.size w1).alloc (Nat.le_refl _) (.cells #[.int .i64 0,.int .i64 0,.int .i64 0,.int .i64 0,.int .i64 0,.int .i64 0,.int .i64 0] 122);have HB2:=aq (hq.grown g2 hq.size (fun k hk=>by cases hk;exact Nat.le_refl _));have HX2:=aq (Rdv.below HX.o (HB1.o.trans (HB2.o.mono HB1.o.size)))
         clear g1 g2 hq hL0)
      | (go_at_call 273;refine(HAT.o W2 HX2.o).mono ?_;rintro e w3 ⟨A3,n3,c3,rfl,hO3,hB3⟩;have hn3:n3=n+24:=(by have:=Rd.len (Own.rd hO3);rw [HTL.o]at this;exact this.symm);subst hn3;have HR3:=aq (Own.rd hO3);have HB3:=aq hB3;clear hO3 hB3)
      | (go_at_call 274;refine(HSP.o A3 (n+24) c3 w3 HR3.o).mono ?_;rintro e w4 ⟨A4,n4,c4,L,rfl,hS⟩;have HS:=aq hS;clear hS))
     have HEN:=aq (enc0_of HS.o.l HS.o.y);have HRL:Hid (RL w4 A4 n4 c4 L):=aq (by rw [HS.o.n];exact HS.o.b.rl);have hfew:n4<=1000:=by have:=HS.o.few;omega
     refine(each20_any A4 n4 c4 L w4 HRL.o HEN.o hfew).mono ?_;rintro e w5 ⟨A5,c5,L5,rfl,hBL,hxs,hB5⟩;have d2:=HB1.o.trans (HB2.o.mono HB1.o.size);have d3:=d2.trans (HB3.o.mono d2.size);have d4:=d3.trans (HS.o.k.mono d3.size);have HBL:=aq (hBL.mono d4.size);have HXS:=aq (wd_map hxs HS.o.l HBD.o);have HD5:=aq (d4.trans (hB5.mono d4.size));clear hBL hxs hB5 d2 d3 d4;go_wp2;go_ret2;exact⟨A5,_,c5,L5,rfl,rfl,HBL.o,HXS.o,HD5.o⟩
   . have hb:bE xs=3:=by unfold bE;rw [if_neg (by omega),if_neg hv]
     have e1:cErr 1 xs=3:=by unfold cErr;rw [if_neg (by decide),if_neg hv]
     rw [e1]at HAT;have HBD:=aq (fun w' hB=>WdAll.bad (w:=w) (w':=w') hB hb (by decide));clear hv hb e1 hx hy hl2 hly;go_enter func210,ntmps210;go_wp2_with fail;refine(HLY.o _).mono ?_;rintro e w1 ⟨rfl,hB1⟩;have hL0:Blk (w1.alloc (.cells (ints8 zero7).toArray 122)) w1.heap.size 122 (ints8 zero7):=Blk.new w1 _ 122 rfl;have HB1:=aq hB1;clear hB1;simp only [ints8,zero7,List.map_cons,List.map_nil]at hL0
     go_wp2_with (first
      | (refine strow (cs:=ints8 ly) rfl 122 (.tmp 4) (.tmp 13) rfl rfl rfl hL0 (by simp [ints8,hl7]) (by rw [info23];simp [ints8,hl7]) (ints8_one ly) ?_
         intro W2 g1 g2;have hq:=(Below.refl w1.heap.size w1).alloc (Nat.le_refl _) (.cells #[.int .i64 0,.int .i64 0,.int .i64 0,.int .i64 0,.int .i64 0,.int .i64 0,.int .i64 0] 122);have HB2:=aq (hq.grown g2 hq.size (fun k hk=>by cases hk;exact Nat.le_refl _));have HX2:=aq (Rdv.below HX.o (HB1.o.trans (HB2.o.mono HB1.o.size)))
         clear g1 g2 hq hL0)
      | (go_at_call 273;refine(HAT.o W2 HX2.o).mono ?_;rintro e w3 ⟨A3,n3,c3,rfl,hO3,hB3⟩;have HB3:=aq hB3;clear hO3 hB3))
     have d2:=HB1.o.trans (HB2.o.mono HB1.o.size);have HD5:=aq (d2.trans (HB3.o.mono d2.size));go_ret2;exact HBD.o _ HD5.o
section
variable {b : Nat} {full : List Int} {L : List Sv}
end
end Go.Proofs.YthmhogdceolkdaaGreat.Cr
namespace Go.Proofs.YthmhogdceolkdaaGreat.Cr
open Tryz
open Go.RowKit Go.Shelf
def rgV(B:List Int)(st N i:Nat):Int:=gi B ((st+i) % N)
def selL(B:List Int)(st N:Nat):Nat->List Int
 | 0=>[]
 | t+1=>selL B st N t ++ (if 0<=rgV B st N t then [rgV B st N t] else [])
theorem selL_pre(B:List Int)(st N s:Nat):∀ t,s<=t->∃ r,selL B st N t=selL B st N s ++ r
 | 0,h=>by obtain rfl:s=0:=by omega
           exact⟨[],by simp⟩
 | t+1,h=>by
   by_cases hs:s=t+1
   . subst hs;exact⟨[],by simp⟩
   . obtain⟨r,hr⟩:=selL_pre B st N s t (by omega)
     refine⟨r ++ (if 0<=rgV B st N t then [rgV B st N t] else []),?_⟩;simp only [selL];rw [hr,List.append_assoc]
theorem selL_mono{B:List Int}{st N s t:Nat}(h:s<=t):(selL B st N s).length<=(selL B st N t).length:=by
 obtain⟨r,hr⟩:=selL_pre B st N s t h;rw [hr,List.length_append];omega
theorem selL_take{B:List Int}{st N s t:Nat}(h:(selL B st N s).length<=(selL B st N t).length):selL B st N s=(selL B st N t).take (selL B st N s).length:=by
 rcases Nat.le_total s t with h1 | h1
 . obtain⟨r,hr⟩:=selL_pre B st N s t h1
   rw [hr,List.take_left]
 . obtain⟨r,hr⟩:=selL_pre B st N t s h1
   have h2:r=[]:=by
    apply List.eq_nil_of_length_eq_zero;rw [hr,List.length_append]at h;omega
   subst h2;rw [List.append_nil]at hr;rw [hr,List.take_length]
theorem selL_step{B:List Int}{st N t:Nat}(h:0<=rgV B st N t):selL B st N (t+1)=selL B st N t ++ [rgV B st N t]:=by
 simp only [selL];rw [if_pos h]
theorem selL_skip{B:List Int}{st N t:Nat}(h:rgV B st N t<0):selL B st N (t+1)=selL B st N t:=by
 simp only [selL];rw [if_neg (by omega),List.append_nil]
theorem selL_hit{B:List Int}{st N j:Nat}(hj:j<N)(hu:0<=gi B j)(t:Nat):(selL B st N t).length+1<=(selL B st N (t+N)).length:=by
 obtain⟨d,hd⟩:∃ d,d=(st+t) % N:=⟨_,rfl⟩
 have hdN:d<N:=by rw [hd];exact Nat.mod_lt _ (by omega)
 obtain⟨x,hx⟩:∃ x,x=if d<=j then j - d else j+N - d:=⟨_,rfl⟩
 have hxN:x<N:=by rw [hx];split<;>omega
 have hm:(st+(t+x)) % N=j:=by
  rw [<- Nat.add_assoc,Nat.add_mod,<- hd];rw [Nat.mod_eq_of_lt hxN,hx];split
  . rw [show d+(j - d)=j by omega,Nat.mod_eq_of_lt hj]
  . rw [show d+(j+N - d)=j+N by omega,Nat.add_mod_right,Nat.mod_eq_of_lt hj]
 have hr:0<=rgV B st N (t+x):=by unfold rgV;rw [hm];exact hu
 have h1:=selL_mono (B:=B) (st:=st) (N:=N) (show t<=t+x by omega);have h2:=selL_mono (B:=B) (st:=st) (N:=N) (show t+x+1<=t+N by omega);rw [selL_step hr,List.length_append]at h2;simp only [List.length_singleton]at h2;omega
theorem selL_many{B:List Int}{st N j:Nat}(hj:j<N)(hu:0<=gi B j):∀ m,m<=(selL B st N (m*N)).length
 | 0=>Nat.zero_le _
 | m+1=>by
   have h1:=selL_many (B:=B) (st:=st) hj hu m;have h2:=selL_hit (B:=B) (st:=st) hj hu (m*N);rw [Nat.add_mul,Nat.one_mul];omega
theorem selL_lt{B:List Int}{st N j:Nat}(hj:j<N)(hu:0<=gi B j){t e:Nat}(h:(selL B st N t).length<e):t<e*N:=by
 apply Classical.byContradiction;intro hn;have h1:=selL_many (B:=B) (st:=st) hj hu e;have h2:=selL_mono (B:=B) (st:=st) (N:=N) (show e*N<=t by omega);omega
theorem selL_mem{B:List Int}{st N:Nat}(hN:0<N)(hl:N<=B.length):∀ t x,x ∈ selL B st N t->0<=x/\x ∈ B
 | 0,x,h=>by simp [selL]at h
 | t+1,x,h=>by
   simp only [selL]at h;rcases List.mem_append.1 h with h | h
   . exact selL_mem hN hl t x h
   . split at h
     . rename_i hu
       have hx:x=rgV B st N t:=by simpa using h
       rw [hx];exact⟨hu,gi_mem B _ (Nat.lt_of_lt_of_le (Nat.mod_lt _ hN) hl)⟩
     . simp at h
theorem usC_ne{xs:List Int}:usC xs≠0↔∃ j,j<xs.length/\0<=gi xs j:=by
 constructor
 . intro h
   apply Classical.byContradiction;intro hn;apply h;unfold usC;rw [List.length_eq_zero_iff,List.filter_eq_nil_iff];intro x hx;obtain⟨j,hj,rfl⟩:=List.getElem_of_mem hx;have h2:¬ 0<=gi xs j:=fun h3=>hn ⟨j,hj,h3⟩;rw [gi_eq _ _ hj]at h2;simpa using h2
 . rintro⟨j,hj,hu⟩ h
   unfold usC at h;rw [List.length_eq_zero_iff,List.filter_eq_nil_iff]at h;have:=h (gi xs j) (gi_mem xs j hj);simp at this;omega
def stS(k Z rv:Nat):Nat:=rwS (k+4)*(2*((Z+8*rwS (k+4) - 1) / (8*rwS (k+4)))*rv+2) % Z
attribute [local go_sem] Oper.semAt_some
set_option maxRecDepth 100000
structure StF (R Z rv P Q C D E F G S:Nat):Prop where
 p:IntKind.i64.wrap (8*(R:Int))=(P:Int)
 zp:IntKind.i64.wrap ((Z:Int)+(P:Int))=(Z:Int)+(P:Int)
 q:IntKind.i64.wrap ((Z:Int)+(P:Int) - 1)=(Q:Int)
 c:(Q:Int).tdiv (P:Int)=(C:Int)
 cw:IntKind.i64.wrap (C:Int)=(C:Int)
 d:IntKind.i64.wrap (2*(C:Int))=(D:Int)
 e:IntKind.i64.wrap ((D:Int)*(rv:Int))=(E:Int)
 f:IntKind.i64.wrap ((E:Int)+2)=(F:Int)
 g:IntKind.i64.wrap ((R:Int)*(F:Int))=(G:Int)
 s:(G:Int).tmod (Z:Int)=(S:Int)
 sw:IntKind.i64.wrap (S:Int)=(S:Int)
 p0:¬ P=0
 z0:¬ Z=0
theorem stF(k Z rv:Nat)(h2:k<=6144)(hZ1:1<=Z)(hZ:Z<=20000)(hrv:rv<=3):∃ P Q C D E F G,StF (rwS (k+4)) Z rv P Q C D E F G (stS k Z rv)/\C=(Z+P - 1) / P/\P=8*rwS (k+4):=by
 have hR:=rwS_le (d:=k+4) (by omega);have hR1:=rwS_pos (d:=k+4) (by omega);obtain⟨R,hRe⟩:∃ R,R=rwS (k+4):=⟨_,rfl⟩
 have hst:stS k Z rv=R*(2*((Z+8*R - 1) / (8*R))*rv+2) % Z:=by rw [hRe];rfl
 rw [hst];rw [<- hRe]at hR hR1 ⊢;obtain⟨C,hC⟩:∃ C,C=(Z+8*R - 1) / (8*R):=⟨_,rfl⟩
 have hC1:C<=30000:=by rw [hC];exact Nat.le_trans (Nat.div_le_self _ _) (by omega)
 obtain⟨E,hE⟩:∃ E,E=2*C*rv:=⟨_,rfl⟩
 have hE1:E<=180000:=by
  rw [hE];exact Nat.le_trans (Nat.mul_le_mul_left (2*C) hrv) (by omega)
 obtain⟨G,hG⟩:∃ G,G=R*(E+2):=⟨_,rfl⟩
 have hG1:G<=193*180002:=by rw [hG];exact Nat.mul_le_mul hR (by omega)
 have hS:G % Z<Z:=Nat.mod_lt _ (by omega);rw [<- hC,<- hE,<- hG];refine⟨8*R,Z+8*R - 1,C,2*C,E,E+2,G,⟨?_,?_,?_,?_,?_,?_,?_,?_,?_,?_,?_,by omega,by omega⟩,hC,rfl⟩
 . rw [IntKind.wrap_i64];omega
 . rw [IntKind.wrap_i64];omega
 . rw [IntKind.wrap_i64];omega
 . rw [Int.tdiv_eq_ediv_of_nonneg (by omega),hC];rfl
 . rw [IntKind.wrap_i64];omega
 . rw [IntKind.wrap_i64];omega
 . have e:((2*C:Nat):Int)*(rv:Int)=(E:Int):=by rw [hE];push_cast;rfl
   rw [e,IntKind.wrap_i64];omega
 . rw [IntKind.wrap_i64];omega
 . have e:(R:Int)*((E+2:Nat):Int)=(G:Int):=by rw [hG];push_cast;rfl
   rw [e,IntKind.wrap_i64];omega
 . rw [Int.tmod_eq_emod_of_nonneg (by omega)];rfl
 . rw [IntKind.wrap_i64];omega
theorem start_any(k f Z rv:Nat)(w:World)(h2:k<=6144)(hZ1:1<=Z)(hZ:Z<=20000)(hrv:rv<=3) :
 Calls prog 235 #[.agg #[.int .i64 k,.int .i64 f,.int .i64 (rwS (k+4)),.int .i64 Z],.int .i64 rv] w fun e w'=>e= .returned (.int .i64 (stS k Z rv))/\Below w.heap.size w w':=by
 obtain⟨P,Q,C,D,E,F,G,hF,-,-⟩:=stF k Z rv h2 hZ1 hZ hrv;obtain⟨f1,f2,f3,f4,f5,f6,f7,f8,f9,f10,f11,f12,f13⟩:=hF;generalize stS k Z rv=S at *;generalize rwS (k+4)=R at *;clear h2 hZ1 hZ hrv;go_enter func235,ntmps235;go_wp2_with fail;go_quiet (fail);go_wp2;go_ret;exact⟨rfl,((Below.refl _ w).alloc (Nat.le_refl _) _).trans (Qt.below ⟨_,rfl⟩ _)⟩
theorem usable_any(x:Int)(w:World):Calls prog 170 #[.int .i64 x] w fun e w'=>e= .returned (.bool (decide (0<=x)))/\w=w':=by
 by_cases h:0<=x
 . rw [decide_eq_true h]
   go_enter func170,ntmps170;go_wp2;go_ret;exact⟨ret_bool (by first | (simp;done) | (simp;omega)),rfl⟩
 . rw [decide_eq_false h]
   go_enter func170,ntmps170;go_wp2;go_ret;exact⟨ret_bool (by first | (simp;done) | (simp;omega)),rfl⟩
def CfI(w:World)(n:Nat)(xs:List Int)(i:Value)(wr:World):Prop:=∃ j:Nat,j<=n/\i= .int .i64 j/\(∀ q,q<j->gi xs q<0)/\w=wr
theorem ixu_any(A:Option Addr)(n c:Nat)(xs:List Int)(w:World)(hx:Rd .i64 w A n c xs)(hn:n<=100000) :
 Calls prog 230 #[.slice A n c,.func (.func 170) #[] #[]] w fun e w'=>∃ r:Int,e= .returned (.int .i64 r)/\((r = -1/\∀ q,q<n->gi xs q<0)\/(0<=r/\∃ q,q<n/\0<=gi xs q))/\w=w':=by
 go_enter func230,ntmps230;go_wp2;go_loopw [8] (fun i wr=>CfI w n xs i wr) (fun i _=>n - (intOf i).toNat)
 case atStart=>exact⟨0,by omega,rfl,by intro q hq;omega,rfl⟩
 case round =>
  obtain⟨j,hj,rfl,hv,rfl⟩:=hrel;have HV:=aq hv;clear hv;by_cases hlt:j<n
  . have hc:=Rd.cell hx hlt
    have hix:=fun W=>Rdv.ix hx el34 hlt .i64 W;by_cases h0:0<=gi xs j
    . have HU:=aq (usable_any (gi xs j) w)
      rw [decide_eq_true h0]at HU;have H0:=aq h0;clear h0;generalize hgv:gi xs j=gv at *;go_wp2_with (go_at_call 170;refine HU.o.mono ?_;rintro e w1 ⟨rfl,rfl⟩);go_ret;exact⟨_,rfl,.inr ⟨by omega,j,hlt,by rw [hgv];exact H0.o⟩,rfl⟩
    . have HU:=aq (usable_any (gi xs j) w)
      rw [decide_eq_false h0]at HU;have H0:Hid (gi xs j<0):=aq (by omega);clear h0;generalize hgv:gi xs j=gv at *;go_wp2_with (go_at_call 170;refine HU.o.mono ?_;rintro e w1 ⟨rfl,rfl⟩);go_roundw
      case rel=>exact⟨j+1,by omega,by go_num,lt_succ_cases HV.o (by rw [hgv];exact H0.o),rfl⟩
      case measure=>simp [intOf];omega
  . have he:j=n:=by omega
    subst he;go_wp2;go_ret;exact⟨-1,rfl,.inl ⟨rfl,HV.o⟩,rfl⟩
theorem cfu_any(A:Option Addr)(n c:Nat)(xs:List Int)(w:World)(hx:Rd .i64 w A n c xs)(hn:n<=100000) :
 Calls prog 233 #[.slice A n c,.func (.func 170) #[] #[]] w fun e w'=>e= .returned (.bool (decide (usC xs≠0)))/\w=w':=by
 have HI:=aq (ixu_any A n c xs w hx hn);have hl:=hx.len;have HU:=aq (usC_ne (xs:=xs));go_enter func233,ntmps233;go_wp2_with fail;refine HI.o.mono ?_;rintro e w1 ⟨r,rfl,h,rfl⟩;rcases h with⟨rfl,hv⟩ | ⟨h0,q,hq,hu⟩
 . have hd:decide (usC xs≠0)=false:=by
    rw [decide_eq_false_iff_not];intro h;obtain⟨j,hj,hg⟩:=HU.o.1 h;have:=hv j (by omega);omega
   have HD:=aq hd
   clear hd hv
   go_wp2
   go_ret
   exact⟨ret_bool (by first | (rw [HD.o];done) | (rw [HD.o];simp;done) | (rw [HD.o];simp;omega)),rfl⟩
 . have hd:decide (usC xs≠0)=true:=by
    rw [decide_eq_true_iff];exact HU.o.2 ⟨q,by omega,hu⟩
   have HD:=aq hd
   clear hd hu
   go_wp2
   go_ret
   exact⟨ret_bool (by first | (rw [HD.o];done) | (rw [HD.o];simp;done) | (rw [HD.o];simp;omega)),rfl⟩
set_option maxHeartbeats 2000000
def SeqF{α:Type}(m gf:Nat)(lb:Array Value)(encs:α->Array Value)(Kp:World->World->Prop)(S Sp:List α->Prop)(Ok:List α->α->Prop)(T:Nat)(w:World):Prop :=
 ∀ (l:Nat) (J Jx:List α->World->Prop) (W:World),Below w.heap.size w W->ClB J->ClB Jx ->
  (∀ pre x W1,J pre W1->Ok pre x->YieldAt Fence.wide (m - 1) prog l (encs x) W1 fun e W' =>
    (e= .returned (.bool true)/\J (pre ++ [x]) W'/\Kp W1 W')\/(e= .returned (.bool false)/\Jx (pre ++ [x]) W')) ->
  (∀ pre W,J pre W->pre.length<T)->J [] W ->
  CallsIn Fence.wide m prog gf (#[.func (.yield l) #[] #[]] ++ lb) W fun e W'=>(∃ v,e= .returned v)/\((∃ xs,S xs/\J xs W')\/(∃ pre,Sp pre/\Jx pre W'))
theorem rangeF{α:Type}{g:Operand}{ps:Array Tmp}{assign body:Code}{Q:Exit->Act->World->Prop}{a:Act}{w:World}
 {gf:Nat} {lb:Array Value} (hg:a.eval g= .func (.func gf) #[] lb) (eg:∀ args w,(callFunc gf args).run prog w= .ok (.enter gf args) w)
 {encs:α->Array Value} {Kp:World->World->Prop} {S Sp:List α->Prop} {Ok:List α->α->Prop} {w0:World} {T:Nat} (hseq:SeqF 2 gf lb encs Kp S Sp Ok T w0)
 (hKt:∀ {A B C:World},Kp A B->Kp B C->Kp A C) (hKb:∀ (W:World) (l:Nat) (o o':Obj),w.heap.size<=l->W.heap[l]?=some o->o.isCells=false->Kp W (W.putObj l o')) (hb0:Below w0.heap.size w0 w) (hps:∀ x,(encs x).size=ps.size)
 (I:List α->World->Prop) (Ix:Code->List α->World->Prop) (hI:ClB I) (hIx:∀ c,ClB (Ix c)) (hIp:ClP w.heap.size I) (hIxp:∀ c,ClP w.heap.size (Ix c)) (hIT:∀ pre W,I pre W->pre.length<T) (h0:I [] w) (a₁:α->Act)
 (hassign:∀ (l:Nat) (x:α) (W:World) (K:Act->World->Prop),K (a₁ x) W ->
   assign.wpIn (Fence.wide.inRound l) 1 prog (Exit.then K (fun _ _ _=>False)) {tmps:=(ps.zip (encs x)).foldl (fun t (p,v)=>t.setIfInBounds p v) a.tmps,defers:=[]} W)
 (hbody:∀ (l:Nat) (pre:List α) (x:α) (W:World),I pre W->Ok pre x->body.wpIn (Fence.wide.inRound l) 1 prog (ownPostK Kp I Ix (pre ++ [x]) W) (a₁ x) W)
 (hdone:∀ (D:Nat) (xs:List α) (W:World),w.heap.size<=D->S xs->I xs W->W.heap[D]?=some (.deferred (some []))->Q .normal {a with defers:={target:=.collected D,args:=#[]} :: a.defers} W)
 (hstop:∀ (D:Nat) (c:Code) (pre:List α) (W:World),w.heap.size<=D->Sp pre->Ix c pre W->W.heap[D]?=some (.deferred (some []))->c.wpIn Fence.wide 3 prog Q {a with defers:={target:=.collected D,args:=#[]} :: a.defers} W) :
 (Code.rangeFunc g ps assign body).wpIn Fence.wide 3 prog Q a w :=
 rangeQ (Kp:=Kp) (Ok:=fun pre x _=>Ok pre x) (d:=0) (y:=1) hg eg (fun _ _ _ _ _ _ h _ _=>h) hKt hKb hb0 hps I Ix (fun n r rd W hn hs hb hy hj=>hseq (n+1) _ _ W hb (LpJ.b hI) (LpJ.x hIx) hy (fun pre W h=>hIT pre W h.1) hj) hI hIp hIxp h0 a₁ hassign hbody hdone hstop
def encI(x:Int):Array Value:=#[.int .i64 x]
theorem around_any(A:Option Addr)(N c st:Nat)(w:World):Calls prog 234 #[.slice A N c,.int .i64 st] w fun e w'=>e= .returned (.func (.func 291) #[] #[.pointer (some ⟨w.heap.size+1,0,none⟩),.pointer (some ⟨w.heap.size,0,none⟩)])/\Blk w' w.heap.size 51 [.slice A N c]/\Blk w' (w.heap.size+1) 3 [.int .i64 st]/\Below w.heap.size w w':=by
 have hmf:∀ (fn:Fn) (first cap:Array Value) (w:World),(Instr.makeFunc fn first cap).run prog w= .ok (.func fn first cap) w:=fun _ _ _ _=>rfl;go_enter func234,ntmps234;go_wp2;go_ret;exact⟨rfl,(Blk.new w [.slice A N c] 51 rfl).alloc _,Blk.new (w.alloc _) [.int .i64 st] 3 (by simp),((Below.refl _ w).alloc (Nat.le_refl _) _).alloc (by simp) _⟩
theorem least(P:Nat->Prop):∀ n v,v<=n->P v->∃ v,P v/\∀ u,u<v->¬ P u
 | 0,v,h,hv=>⟨v,hv,fun u hu=>by omega⟩
 | n+1,v,h,hv=>by
   by_cases hx:∃ u,u<v/\P u
   . obtain⟨u,hu,hp⟩:=hx
     exact least P n u (by omega) hp
   . exact⟨v,hv,fun u hu hp=>hx ⟨u,hu,hp⟩⟩
open Classical in
noncomputable def mz (P:Nat->Prop):Nat:=if h:∃ v,P v/\∀ u,u<v->¬ P u then Classical.choose h else 0
theorem mz_spec{P:Nat->Prop}{v:Nat}(hv:P v):P (mz P)/\mz P<=v:=by
 have h:=least P v v (Nat.le_refl _) hv;unfold mz;rw [dif_pos h];have hs:=Classical.choose_spec h;refine⟨hs.1,?_⟩;apply Classical.byContradiction;intro hn;exact hs.2 v (by omega) hv
structure ArS (B:List Int) (N:Nat) (A:Option Addr) (c BB:Nat) (J:List Int->World->Prop) (pre:List Int) (wr:World):Prop where
 j:J pre wr
 b:Blk wr BB 51 [.slice A N c]
 r:Rd .i64 wr A N c B
def ArM(B:List Int)(st N:Nat)(A:Option Addr)(c BB T:Nat)(J:List Int->World->Prop)(i:Value)(wr:World)(v:Nat):Prop :=
 ∃ pre:List Int,v=T - pre.length/\i= .int .i64 (((st+pre.length) % N:Nat):Int)/\ArS B N A c BB J pre wr
theorem ar_in(l:Nat)(B:List Int)(st N:Nat)(A:Option Addr)(c FB BB T:Nat)(hN1:1<=N)(hN:N<=100000)(hst:st<N)(Kp:World->World->Prop)(W:World)
 (hF:Blk W FB 3 [.int .i64 st]) (hB:Blk W BB 51 [.slice A N c]) (hR:Rd .i64 W A N c B)
 (hkp:∀ X Y,Kp X Y->Blk X BB 51 [.slice A N c]->Rd .i64 X A N c B->Blk Y BB 51 [.slice A N c]/\Rd .i64 Y A N c B)
 (J Jx:List Int->World->Prop) (hJ:ClB J) (hJx:ClB Jx)
 (hY:∀ pre x W1,J pre W1->x=rgV B st N pre.length->YieldAt Fence.wide 1 prog l (encI x) W1 fun e W' =>
   (e= .returned (.bool true)/\J (pre ++ [x]) W'/\Kp W1 W')\/(e= .returned (.bool false)/\Jx (pre ++ [x]) W'))
 (hT:∀ pre W,J pre W->pre.length<T) (h0:J [] W) :
 CallsIn Fence.wide 2 prog 291 #[.func (.yield l) #[] #[],.pointer (some ⟨FB,0,none⟩),.pointer (some ⟨BB,0,none⟩)] W fun e W'=>(∃ v,e= .returned v)/\((∃ xs:List Int,False/\J xs W')\/(∃ pre,True/\Jx pre W')):=by
 have c1:=hF.cell (j:=0) (v:=.int .i64 st) rfl;have HKP:=aq hkp;have HT:=aq hT;have HY:=aq hY;have HS0:Hid (ArS B N A c BB J [] W):=aq ⟨h0,hB,hR⟩;have hm0:(st+0) % N=st:=Nat.mod_eq_of_lt (by omega);clear hkp hT hF hB hR h0 hY;refine callsIn_of_wp func291 rfl trivial ?_ rfl;simp only [ntmps291,List.size_toArray,List.length_cons,List.length_nil,Nat.reduceAdd,Nat.reduceSub,Array.replicate_succ,Array.replicate_zero,List.push_toArray,List.append_toArray,List.nil_append,List.cons_append];gi_wp2_with fail;gi_loopw [4] (fun i wr=>∃ v,ArM B st N A c BB T J i wr v) (fun i wr=>mz (ArM B st N A c BB T J i wr))
 case atStart=>exact⟨T - 0,[],rfl,by simp only [List.length_nil];rw [hm0],HS0.o⟩
 case round =>
  obtain⟨v0,hv0⟩:=hrel;have hsp:=(mz_spec hv0).1;obtain⟨M,hM⟩:∃ M,M=mz (ArM B st N A c BB T J u4 wr):=⟨_,rfl⟩
  rw [<- hM]at hsp;clear hv0 c1 HS0;obtain⟨pre,hMe,rfl,hS⟩:=hsp;have hpl:=HT.o pre wr hS.j;obtain⟨p,hp⟩:∃ p,p=(st+pre.length) % N:=⟨_,rfl⟩
  have hpN:p<N:=by rw [hp];exact Nat.mod_lt _ (by omega)
  have HPX:=aq (show rgV B st N pre.length=gi B p by rw [hp];rfl);have HPN:=aq (show(p+1) % N=(st+(pre.length+1)) % N by rw [hp,Nat.mod_add_mod,Nat.add_assoc]);rw [<- hp]at hM ⊢;have HM:=aq hM;clear hM;have cB:=hS.b.cell (j:=0) (v:=.slice A N c) rfl;have cj:=Rd.cell hS.r (j:=p) hpN;have ixp:=fun W=>Rdv.ix hS.r el34 (j:=p) hpN .i64 W;obtain⟨x,hx⟩:∃ x,x=gi B p:=⟨_,rfl⟩
  rw [<- hx]at cj HPX;obtain⟨fn,tmps,assign,body,hy,hRD⟩:=HY.o pre x wr hS.j HPX.o.symm;unfold encI at hy;have HRD:=aq hRD;have HSB:=aq hS.b;have HSR:=aq hS.r;obtain⟨r,hr⟩:∃ r,r=(p+1) % N:=⟨_,rfl⟩
  have hrw:IntKind.i64.wrap ((p:Int)+1)=(p:Int)+1:=by rw [IntKind.wrap_i64];omega
  have hrm:((p:Int)+1).tmod (N:Int)=(r:Int):=by rw [Int.tmod_eq_emod_of_nonneg (by omega),hr];rfl
  have hre:((p:Int)+1) % (N:Int)=(r:Int):=by rw [hr];rfl
  have hrN:r<N:=by rw [hr];exact Nat.mod_lt _ (by omega)
  have hrw2:IntKind.i64.wrap (r:Int)=(r:Int):=by rw [IntKind.wrap_i64];omega
  have hN0:¬ N=0:=by omega
  have HR:=aq hr;clear hRD hS hp hx hr;gi_wp2_with fail;refine HRD.o.mono ?_;rintro e W7 (⟨rfl,hJ7,hk7⟩ | ⟨rfl,hJx7⟩)
  . obtain⟨hb7,hr7⟩:=HKP.o _ _ hk7 HSB.o HSR.o
    have cB7:=hb7.cell (j:=0) (v:=.slice A N c) rfl;have HN7:Hid (ArM B st N A c BB T J (.int .i64 (r:Int)) W7 (T - (pre.length+1))):=aq ⟨pre ++ [x],by simp,by rw [HR.o,HPN.o];simp,hJ7,hb7,hr7⟩;clear hb7 hr7 hk7;gi_wp2;go_roundw
    case rel=>exact⟨_,HN7.o⟩
    case measure =>
     have h9:=(mz_spec HN7.o).2;have h8:=HM.o;omega
  . gi_wp2
    go_end0;exact⟨⟨_,rfl⟩,.inr ⟨_,trivial,hJx7⟩⟩
end Go.Proofs.YthmhogdceolkdaaGreat.Cr