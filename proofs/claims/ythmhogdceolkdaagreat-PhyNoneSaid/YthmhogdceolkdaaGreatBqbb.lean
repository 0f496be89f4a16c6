/- Bundle. Conditions: none. -/
import Derived.Test.YthmhogdceolkdaaGreatBqba
import Derived.Test.YthmhogdceolkdaaGreatBqau
set_option linter.unusedVariables false
set_option linter.unusedSimpArgs false
namespace Go.Proofs.YthmhogdceolkdaaGreat.Cr
open Tryz
open Go.RowKit Go.Shelf
set_option maxRecDepth 100000
set_option maxHeartbeats 2000000
def shN(C g m i:Nat):Nat:=if i+g % C<C then g / C*m else(g / C+1)*m
theorem shr_cast(C g m i:Nat):shr C g m i=(shN C g m i:Int):=by unfold shr shN;split<;>rfl
def offS(C g m:Nat):Nat->Nat
 | 0=>0
 | i+1=>offS C g m i+shN C g m i
theorem offS_lo(C g m:Nat):∀ k,k+g % C<=C->offS C g m k=k*(g / C*m)
 | 0,_=>by simp [offS]
 | k+1,h=>by
   simp only [offS];rw [offS_lo C g m k (by omega),shN,if_pos (by omega),Nat.add_mul k 1,Nat.one_mul]
theorem offS_hi(C g m:Nat)(hC:1<=C):∀ k,offS C g m (C - g % C+k)=(C - g % C)*(g / C*m)+k*((g / C+1)*m)
 | 0=>by
   have:=Nat.mod_lt g (show C > 0 by omega);rw [Nat.add_zero,offS_lo C g m _ (by omega)];simp
 | k+1=>by
   have:=Nat.mod_lt g (show C > 0 by omega);rw [<- Nat.add_assoc];simp only [offS];rw [offS_hi C g m hC k,shN,if_neg (by omega),Nat.add_mul k 1,Nat.one_mul];omega
theorem offS_all(C g m:Nat)(hC:1<=C):offS C g m C=m*g:=by
 have h1:=Nat.mod_lt g (show C > 0 by omega);have h2:=Nat.div_add_mod g C;have h3:=offS_hi C g m hC (g % C);rw [show C - g % C+g % C=C by omega]at h3;rw [h3];generalize g / C=a at *;generalize g % C=r at *;have e1:(C - r)*a+r*(a+1)=g:=by
  rw [Nat.mul_add,Nat.mul_one,<- Nat.add_assoc,<- Nat.add_mul,show C - r+r=C by omega];exact h2
 rw [<- Nat.mul_assoc,<- Nat.mul_assoc,<- Nat.add_mul,e1,Nat.mul_comm]
theorem offS_le{C g m i j:Nat}(h:i<=j):offS C g m i<=offS C g m j:=by
 induction j with
 | zero=>obtain rfl:i=0:=by omega
         exact Nat.le_refl _
 | succ j ih =>
   by_cases hj:i=j+1
   . subst hj;exact Nat.le_refl _
   . have:=ih (by omega);simp only [offS];omega
def prtS(ys:List Int)(C g m k:Nat):List (List Int):=(List.range k).map fun i=>(ys.drop (offS C g m i)).take (shN C g m i)
theorem prtS_succ(ys:List Int)(C g m k:Nat):prtS ys C g m (k+1)=prtS ys C g m k ++ [(ys.drop (offS C g m k)).take (shN C g m k)]:=by simp [prtS,List.range_succ]
theorem Rdv.grown0{w w':World}{A:Option Addr}{n c:Nat}{vs:List Value}(h:Rdv w A n c vs){row:Option Nat}(hg:w.grownBy w' row)(hne:0<c->some (blk A)≠row):Rdv w' A n c vs:=by
 by_cases hc:0<c
 . exact h.grown hg (fun _=>hne hc)
 . have h1:=h.le
   have h2:=h.len;obtain rfl:vs=[]:=List.eq_nil_of_length_eq_zero (by omega);exact⟨h.len,h.le,h.cm,h.nil,fun h9=>absurd h9 hc,fun h9=>absurd h9 hc,by simp⟩
theorem el41:El prog 117 51 (.slice none 0 0) 24:=⟨by kernel_rfl,by kernel_rfl,fun _=>by kernel_rfl,rfl⟩
structure BI (w:World) (base:Nat) (A:Option Addr) (c:Nat) (L:List Sv):Prop where
 o:Ownv 51 w base A L.length c (L.map Sv.v)
 r:∀ s ∈ L,Own .i64 3 w base s.A s.n s.c s.xs
 p:L.Pairwise (fun s t=>s.A≠none->t.A≠none->blk s.A≠blk t.A)
section
variable {w w' : World} {base base' c : Nat} {A : Option Addr} {L : List Sv}
theorem BI.nil(w:World)(base:Nat):BI w base none 0 []:=⟨Ownv.nilv 51 w base,by simp,List.Pairwise.nil⟩
theorem BI.mono(h:BI w base A c L)(hb:base'<=base):BI w base' A c L:=⟨h.o.mono hb,fun s hs=>Ownv.mono (h.r s hs) hb,h.p⟩
theorem BI.grownL(h:BI w base A c L){B:Nat}(hb:B<base)(hg:w.grownBy w' (some B)):BI w' base A c L :=
 ⟨h.o.grown hg (fun hA he=>by have h1:=(Ownv.blk_of h.o hA).1;have:=Option.some.inj he;omega),fun s hs=>Ownv.grown (h.r s hs) hg (fun hA he=>by have h1:=(Ownv.blk_of (h.r s hs) hA).1;have:=Option.some.inj he;omega),h.p⟩
theorem BI.push(h:BI w base A c L){s:Sv}(hs:Own .i64 3 w base s.A s.n s.c s.xs)(hp:∀ t ∈ L,t.A≠none->s.A≠none->blk t.A≠blk s.A){A':Option Addr}{c':Nat}
 (hO:Ownv 51 w' base A' (L.length+1) c' (L.map Sv.v ++ [s.v])) (hg:w.grownBy w' ((Value.slice A L.length c).ownBlock)):BI w' base A' c' (L ++ [s]):=by
 refine⟨by simpa using hO,fun t ht=>?_,?_⟩
 . rcases List.mem_append.1 ht with ht | ht
   . exact Ownv.grown (h.r t ht) hg (fun hA=>rows_ne (h.r t ht) h.o (by decide) hA)
   . simp at ht;subst ht
     exact Ownv.grown hs hg (fun hA=>rows_ne hs h.o (by decide) hA)
 . rw [List.pairwise_append]
   exact⟨h.p,List.pairwise_singleton _ _,fun t ht u hu=>by simp at hu;subst hu;exact hp t ht⟩
end
def bad49(b:Nat)(lim:Int)(C g m q:Nat):Prop:=uS b lim q=0/\0<shN C g m q
instance (b:Nat) (lim:Int) (C g m q:Nat):Decidable (bad49 b lim C g m q):=by unfold bad49;exact inferInstance
structure EzS (W:World) (b:Nat) (lim:Int) (C g m VB LB CB:Nat) (An:Option Addr) (cn:Nat) (ys:List Int) (j:Nat) (A:Option Addr) (c:Nat) (L:List Sv) (wr:World):Prop where
 bi:BI wr W.heap.size A c L
 xs:L.map (·.xs)=prtS ys C g m j
 lb:Blk wr LB 122 (ints8 (LY b))
 cb:wr.cell? ⟨CB,3,none⟩=some (.int .i64 lim)
 vb:∃ Ar cr,Blk wr VB 51 [.slice Ar (ys.length - offS C g m j) cr]/\Rd .i64 wr Ar (ys.length - offS C g m j) cr (ys.drop (offS C g m j))/\(0<cr->blk Ar≠VB/\blk Ar<W.heap.size)
 ns:Rd .i64 wr An C cn (shT C g m C)
 gr:W.grownBy wr (some VB)
 ok:∀ q,q<j->¬ bad49 b lim C g m q
def EzInv(W:World)(b:Nat)(lim:Int)(C g m VB LB CB:Nat)(An:Option Addr)(cn:Nat)(ys:List Int)(out i:Value)(wr:World):Prop :=
 ∃ (j:Nat) (A:Option Addr) (c:Nat) (L:List Sv),j<=C/\i= .int .i64 j/\out= .slice A L.length c/\L.length=j/\EzS W b lim C g m VB LB CB An cn ys j A c L wr
def EzPost(W:World)(b:Nat)(lim:Int)(C g m VB:Nat)(ys:List Int)(e:Ending)(w':World):Prop :=
 W.grownBy w' (some VB)/\(((∃ q,q<C/\bad49 b lim C g m q)/\e= .returned (.tuple #[.slice none 0 0,.int .i64 10])) \/
  ((∀ q,q<C->¬ bad49 b lim C g m q)/\∃ A' c' L,e= .returned (.tuple #[.slice A' L.length c',.int .i64 0])/\BI w' W.heap.size A' c' L/\L.map (·.xs)=prtS ys C g m C))
theorem each49_any(b:Nat)(lim:Int)(C g m VB LB CB:Nat)(An:Option Addr)(cn:Nat)(A0:Option Addr)(n c0:Nat)(ys:List Int)(W:World)(h1:1<=b)(h2:b<=79560)(hlim:1<=lim)(hC:1<=C)(hC2:C<=13)
 (hn:n=m*g) (hn2:n<=200000) (hL:Blk W LB 122 (ints8 (LY b))) (hV:Blk W VB 51 [.slice A0 n c0]) (hK:W.cell? ⟨CB,3,none⟩=some (.int .i64 lim)) (hCV:CB≠VB) (hy:Rd .i64 W A0 n c0 ys) (hAV:0<c0->blk A0≠VB)
 (hns:Rd .i64 W An C cn (shT C g m C)) (hnV:An≠none->blk An≠VB) :
 Calls prog 112 #[.slice An C cn,.func (.func 113) #[] #[.pointer (some ⟨VB,0,none⟩),.pointer (some ⟨LB,0,none⟩),.pointer (some ⟨CB,0,none⟩)]] W (EzPost W b lim C g m VB ys):=by
 have hfl:=hy.len;have hoff:=offS_all C g m hC;subst hfl
 have hAR':0<c0->blk A0≠VB/\blk A0<W.heap.size:=fun hA=>⟨hAV hA,by
  obtain⟨bb,oo,rfl,h9⟩:=Rdv.ptr hy hA
  exact h9⟩
 have hvb:=hV.lt;have hlb:=hL.lt;have hcb:=World.block_lt_of_cell? W _ hK;have hLR:some LB≠some VB:=by
  intro e;have e:=Option.some.inj e;subst e;have h3:W.heap[LB]?=_:=hL;have h4:W.heap[LB]?=_:=hV;rw [h4]at h3;injection h3 with h3
  injection h3 with _ h9
  exact absurd h9 (by decide)
 have HNV:=aq (fun hA=>(⟨hnV hA,by have h8:=Rdv.le hns;obtain⟨bb,oo,rfl,h9⟩:=Rdv.ptr hns (by omega);exact h9⟩:blk An≠VB/\blk An<W.heap.size));have HS0:Hid (EzS W b lim C g m VB LB CB An cn ys 0 none 0 [] W):=aq ⟨BI.nil W _,rfl,hL,hK,⟨A0,c0,hV,hy,hAR'⟩,hns,World.grownBy.refl _ _,by omega⟩;clear hnV hAR' hy hAV hL hV hK;go_enter func112,ntmps112;go_wp2;go_loopw [6,13] (fun out i wr=>EzInv W b lim C g m VB LB CB An cn ys out i wr) (fun _ i _=>C - (intOf i).toNat)
 case atStart=>exact⟨0,none,0,[],by omega,rfl,rfl,rfl,HS0.o⟩
 case round =>
  obtain⟨j,A,c,L,hj,rfl,rfl,hlen,hS⟩:=hrel;have HS:=aq hS;clear hS HS0 hns;subst hlen;by_cases hlt:L.length<C
  . have hmono:=offS_le (C:=C) (g:=g) (m:=m) (show L.length+1<=C by omega)
    have hstep:offS C g m (L.length+1)=offS C g m L.length+shN C g m L.length:=rfl;obtain⟨Ar,cr,hR1,hy1,hA1⟩:=HS.o.vb;have hM:shN C g m L.length<=ys.length - offS C g m L.length:=by omega
    have hc:=aq (cl50_any b L.length LB VB CB (shN C g m L.length) Ar (ys.length - offS C g m L.length) cr (ys.drop (offS C g m L.length)) lim wr h1 h2 hlim HS.o.lb hR1 HS.o.cb hCV hy1 hM (by omega));have HR1:=aq hR1;have HY1:=aq hy1;have HA1:=aq hA1;have cn1:=Rd.cell HS.o.ns (j:=L.length) hlt;rw [shT_gi _ _ _ _ _ hlt,shr_cast]at cn1;have ix1:=fun W=>Rdv.ix HS.o.ns el34 (j:=L.length) hlt .i64 W;clear hR1 hy1 hA1;unfold SqPost at hc;obtain⟨M,hMe⟩:∃ M,M=shN C g m L.length:=⟨_,rfl⟩
    rw [<- hMe]at hc cn1 hstep hM;by_cases hbad:uS b lim L.length=0/\0<M
    . have HBD:Hid (∃ q,q<C/\bad49 b lim C g m q):=aq ⟨L.length,hlt,by unfold bad49;rw [<- hMe];exact hbad⟩
      have hc':Hid (Calls prog 113 #[.int .i64 L.length,.int .i64 M,.pointer (some ⟨VB,0,none⟩),.pointer (some ⟨LB,0,none⟩),.pointer (some ⟨CB,0,none⟩)] wr fun e w'=>e= .returned (.tuple #[.slice none 0 0,.int .i64 10])/\wr.grownBy w' (some VB)) :=
       aq (hc.o.mono (fun e w' h=>⟨by rcases h.1 with h | h;exact h.2;exact absurd hbad h.1,h.2.2⟩))
      clear hc hbad hMe;go_wp2_with (go_at_call 113;refine hc'.o.mono ?_;rintro e w1 ⟨rfl,hG'⟩;have HG':=aq (grown_trans HS.o.gr hG');clear hG');go_ret2;exact⟨HG'.o,.inl ⟨HBD.o,rfl⟩⟩
    . have HBD:Hid (¬ bad49 b lim C g m L.length):=aq (by unfold bad49;rw [<- hMe];exact hbad)
      have hc':Hid (Calls prog 113 #[.int .i64 L.length,.int .i64 M,.pointer (some ⟨VB,0,none⟩),.pointer (some ⟨LB,0,none⟩),.pointer (some ⟨CB,0,none⟩)] wr fun e w'=>(∃ A' c',e= .returned (.tuple #[.slice A' M c',.int .i64 0])/\Own .i64 3 w' wr.heap.size A' M c' ((ys.drop (offS C g m L.length)).take M))/\Blk w' VB 51 [.slice (cut Ar cr M) (ys.length - offS C g m L.length - M) (cr - M)]/\wr.grownBy w' (some VB)) :=
       aq (hc.o.mono (fun e w' h=>⟨by rcases h.1 with h | h;exact absurd h.1 hbad;exact h.2,h.2⟩))
      have HME:=aq hMe;clear hc hbad hMe
      go_wp2_with (first
       | (go_at_call 113;refine hc'.o.mono ?_;rintro e w1 ⟨⟨A',c',rfl,hO'⟩,hR',hG'⟩;have HO':=aq hO';have HR':=aq hR';have HG':=aq hG';have HBI1:=aq (BI.grownL HS.o.bi hvb hG');have HZ1:=aq (Nat.le_trans HS.o.gr.size hG'.size);clear hO' hR' hG' hc')
       | (at_builtin;refine list_of rfl fun K hK=>wp_app1 (w:=w1) (base:=W.heap.size) _ _ 117 rfl el41 rfl (.slice A' M c') rfl rfl HBI1.o.o (by omega) (by omega) HZ1.o ?_;intro A2 c2 w2 hO2 hg2;have HO2:=aq hO2;have HG2:=aq hg2;clear hO2 hg2;refine hK _ _ ?_;clear hK K))
      have hge:A'≠none->wr.heap.size<=blk A':=fun hA=>(Ownv.blk_of HO'.o hA).1;have hBL2:BI w2 W.heap.size A2 c2 (L ++ [⟨A',M,c',(ys.drop (offS C g m L.length)).take M⟩]) :=
       BI.push HBI1.o (s:=⟨A',M,c',(ys.drop (offS C g m L.length)).take M⟩) (Ownv.mono HO'.o HS.o.gr.size)
        (fun t ht h8 h9=>by have h10:=(Ownv.blk_of (HS.o.bi.r t ht) h8).2;exact Nat.ne_of_lt (Nat.lt_of_lt_of_le h10 (hge h9))) HO2.o HG2.o
      have hob:∀ k,(Value.slice A L.length c).ownBlock=some k->W.heap.size<=k:=fun k hk=>Ownv.ob' HBI1.o.o hk;have hLn:some LB≠(Value.slice A L.length c).ownBlock:=fun he=>by have:=hob _ he.symm;omega
      have hRn:some VB≠(Value.slice A L.length c).ownBlock:=fun he=>by have:=hob _ he.symm;omega
      have hR2:=HR'.o.grown HG2.o hRn;have e1:ys.length - offS C g m L.length - M=ys.length - offS C g m (L.length+1):=by omega
      rw [e1]at hR2;have hcut:=Rdv.le HY1.o;have hbk:=blk_cut HY1.o (l:=M) (by omega);have hy0:=Rd.cut_ HY1.o (l:=M) (m:=ys.length - offS C g m L.length) (by omega) (Nat.le_refl _);rw [List.take_of_length_le (by rw [List.length_drop];exact Nat.le_refl _),List.drop_drop,e1,<- hstep]at hy0;have hr5:∀ h:0<cr - M,blk (cut Ar cr M)≠VB/\blk (cut Ar cr M)<W.heap.size:=fun h=>by rw [hbk];exact HA1.o (by omega)
      have hy2:=Rdv.grown0 (Rdv.grown0 hy0 HG'.o (fun h9 h10=>(hr5 h9).1 (Option.some.inj h10))) HG2.o (fun h9 h10=>by have h11:=hob _ h10.symm;have h12:=(hr5 h9).2;omega);have hG3:=grownBy_own (grown_trans HS.o.gr HG'.o) HG2.o hob;have hlb2:=(HS.o.lb.grown HG'.o hLR).grown HG2.o hLn;have hns2:Rd .i64 w2 An C cn (shT C g m C):=Rdv.grown (Rdv.grown HS.o.ns HG'.o (fun h9 h10=>(HNV.o h9).1 (Option.some.inj h10))) HG2.o (fun h9 h10=>by have h11:=hob _ h10.symm;have h12:=(HNV.o h9).2;omega);have hcb2:w2.cell? ⟨CB,3,none⟩=some (.int .i64 lim):=by
       have h7:=World.block_lt_of_cell? _ _ HS.o.cb;have h8:w1.cell? ⟨CB,3,none⟩=some (.int .i64 lim):=(World.cell?_of_block (HG'.o.block CB h7 (fun e=>hCV (Option.some.inj e)))).trans HS.o.cb;exact(World.cell?_of_block (HG2.o.block CB (World.block_lt_of_cell? _ _ h8) (fun he=>by have:=hob _ he.symm;omega))).trans h8
      go_roundw
      case rel=>exact⟨L.length+1,A2,c2,L ++ [⟨A',M,c',(ys.drop (offS C g m L.length)).take M⟩],by omega,by go_num,by simp,by simp,⟨hBL2,by rw [List.map_append,HS.o.xs,prtS_succ,<- HME.o];rfl,hlb2,hcb2,⟨_,_,hR2,hy2,hr5⟩,hns2,hG3,lt_succ_cases HS.o.ok HBD.o⟩⟩
      case measure=>simp [intOf];omega
  . have he:L.length=C:=by omega
    subst he;have HX:=aq HS.o.xs;go_wp2;go_ret2;exact⟨HS.o.gr,.inr ⟨HS.o.ok,A,c,L,rfl,HS.o.bi,HX.o⟩⟩
def TsPost(b:Nat)(lim:Int)(C g m:Nat)(ys:List Int)(w:World)(e:Ending)(w':World):Prop :=
 Below w.heap.size w w'/\(((∃ q,q<C/\bad49 b lim C g m q)/\e= .returned (.tuple #[.slice none 0 0,.int .i64 10])) \/
  ((∀ q,q<C->¬ bad49 b lim C g m q)/\∃ A' c' L,e= .returned (.tuple #[.slice A' L.length c',.int .i64 0])/\BI w' w.heap.size A' c' L/\L.map (·.xs)=prtS ys C g m C))
theorem tsplit_ok(s C g m:Nat)(lm rv:Int)(A:Option Addr)(n c:Nat)(ys:List Int)(w:World)(hs1:1<=s)(hs2:s<=79536)(hCe:C=bC (s+24))(hmm:m=2\/m=4\/m=6)(hgm:m*g<=131072)(hlm:1<=lm)(hrv:0<=rv/\rv<=3)
 (hn:n=m*g) (hy:Rd .i64 w A n c ys) :
 Calls prog 61 #[.agg #[.int .i64 s,.int .i64 ((m*g:Nat):Int),.int .i64 m,.int .i64 lm,.int .i64 rv],.slice A n c] w (TsPost (s+24) lm C g m ys w):=by
 have hmf:∀ (fn:Fn) (first cap:Array Value) (w:World),(Instr.makeFunc fn first cap).run prog w= .ok (.func fn first cap) w:=fun _ _ _ _=>rfl;have HS:=aq (fun W=>shares_ok s C g m lm rv W hs1 hs2 hCe hmm hgm hlm hrv);have HLY:=aq (fun W=>lay_any s W);have hly:ly15 s=(LY (s+24),0):=by unfold ly15;rw [if_neg (by omega)];rfl
 rw [hly]at HLY;have HEA:=aq (fun VB LB CB An cn A0 n c0 W h1 h2 h3 h4 h5 h6 h7 h8 h9 h10=>each49_any (s+24) lm C g m VB LB CB An cn A0 n c0 ys W (by omega) (by omega) hlm (by rw [hCe];exact bC_pos) (by rw [hCe];exact bC_le (by omega)) h1 h2 h3 h4 h5 h6 h7 h8 h9 h10);obtain⟨bt,hbt⟩:∃ bt,bt=((m*g:Nat):Int):=⟨_,rfl⟩
 have hnb:(n:Int)=bt:=by rw [hn,hbt]
 have hn2:n<=200000:=by omega
 rw [<- hbt]at HS ⊢;have q:((n:Int) != bt)=false:=bne_f hnb;have HNE:=aq hn;clear hbt hnb hly hCe hn;have HC0:=aq ((Blk.new w [.int .i64 s,.int .i64 bt,.int .i64 m,.int .i64 lm,.int .i64 rv] 36 rfl).alloc (.cells #[.slice A n c] 51));have HV0:Hid (Blk ((w.alloc (.cells [Value.int .i64 s,.int .i64 bt,.int .i64 m,.int .i64 lm,.int .i64 rv].toArray 36)).alloc (.cells #[.slice A n c] 51)) (w.heap.size+1) 51 [.slice A n c]):=aq (Blk.new (w.alloc _) [.slice A n c] 51 (by simp));have HB0:=aq (((Below.refl _ w).alloc (Nat.le_refl _) (.cells [Value.int .i64 s,.int .i64 bt,.int .i64 m,.int .i64 lm,.int .i64 rv].toArray 36)).alloc (by simp) (.cells #[.slice A n c] 51));have HY0:=aq (Rdv.below hy (((Below.refl _ w).alloc (Nat.le_refl _) (.cells [Value.int .i64 s,.int .i64 bt,.int .i64 m,.int .i64 lm,.int .i64 rv].toArray 36)).alloc (by simp) (.cells #[.slice A n c] 51)));have HYB:Hid (0<c->blk A<w.heap.size):=aq (fun hc=>by obtain⟨bb,oo,rfl,h9⟩:=Rdv.ptr hy hc;exact h9);clear hy;have hc0:=HC0.o;go_enter func61,ntmps61
 go_wp2_with (first
  | (refine ldrow (cs:=[.int .i64 s,.int .i64 bt,.int .i64 m,.int .i64 lm,.int .i64 rv]) rfl 36 (.tmp 2) rfl rfl hc0 _ underlying36 rfl (by kernel_rfl) ?_)
  | (go_at_call 56;refine(HS.o _).mono ?_;rintro e w1 ⟨A1,c1,rfl,hO1,hB1⟩;have k0:=(HV0.o.below hB1).cell (j:=0) rfl;have k1:=(HC0.o.below hB1).cell (j:=1) (v:=.int .i64 bt) rfl;have k2:=(HC0.o.below hB1).cell (j:=0) (v:=.int .i64 s) rfl;have HO1:=aq hO1;have HBw1:=aq hB1;clear hO1 hB1)
  | (go_at_call 63;refine(HLY.o _).mono ?_;rintro e w2 ⟨rfl,hB2⟩;have hL0:Blk (w2.alloc (.cells (ints8 zero7).toArray 122)) w2.heap.size 122 (ints8 zero7):=Blk.new w2 _ 122 rfl;have HBw2:=aq hB2;clear hB2;simp only [ints8,zero7,List.map_cons,List.map_nil]at hL0)
  | (refine strow (cs:=ints8 (LY (s+24))) rfl 122 (.tmp 8) (.tmp 28) rfl rfl rfl hL0 (by simp [ints8,LY]) (by rw [info23];simp [ints8,LY]) (ints8_one _) ?_
     intro W3 g1 g2;have hq:=(Below.refl w2.heap.size w2).alloc (Nat.le_refl _) (.cells #[.int .i64 0,.int .i64 0,.int .i64 0,.int .i64 0,.int .i64 0,.int .i64 0,.int .i64 0] 122);have HB3:=aq (hq.grown g2 hq.size (fun k hk=>by cases hk;exact Nat.le_refl _));have HL3:=aq g1
     clear g1 g2 hq hL0))
 have d1:=HBw1.o.trans (HBw2.o.mono HBw1.o.size);have d:=d1.trans (HB3.o.mono d1.size);have dw:=HB0.o.trans (d.mono HB0.o.size);have hs0:((w.alloc (.cells [Value.int .i64 s,.int .i64 bt,.int .i64 m,.int .i64 lm,.int .i64 rv].toArray 36)).alloc (.cells #[.slice A n c] 51)).heap.size=w.heap.size+2:=by simp
 have HO3:=aq (Ownv.below HO1.o ((HBw2.o.trans (HB3.o.mono HBw2.o.size))));have HCL:=aq (HEA.o (w.heap.size+1) w2.heap.size w.heap.size A1 c1 A n c W3 HNE.o hn2 HL3.o (HV0.o.below d) ((HC0.o.below d).cell (j:=3) rfl) (by omega) (Rdv.below HY0.o d) (fun hc=>by have:=HYB.o hc;omega) (Own.rd HO3.o) (fun hA=>by have:=(Ownv.blk_of HO3.o hA).1;rw [hs0]at this;omega));have HDW:=aq dw;clear hs0 d d1 dw HO3 HB3 HL3 HO1 HY0 HBw1 HBw2 HC0 HV0 HB0 HYB HNE HEA hn2 hc0 k0 k1 k2 q HLY HS;have hz:=HDW.o.size;refine HCL.o.mono ?_;rintro e w4 ⟨hG,⟨hbad,rfl⟩ | ⟨hok,A',c',L,rfl,hBI,hxs⟩⟩
 . have HX:=aq hbad
   have HB4:=aq (HDW.o.grown hG hz (fun k hk=>by cases hk;omega));clear hbad hG;go_wp2;go_ret2;exact⟨HB4.o,.inl ⟨HX.o,rfl⟩⟩
 . have HX:=aq hok
   have HBI:=aq (BI.mono hBI hz);have HXS:=aq hxs;have HB4:=aq (HDW.o.grown hG hz (fun k hk=>by cases hk;omega));clear hok hG hBI hxs;go_wp2;go_ret2;exact⟨HB4.o,.inr ⟨HX.o,A',c',L,rfl,HBI.o,HXS.o⟩⟩
end Go.Proofs.YthmhogdceolkdaaGreat.Cr
namespace Go.Proofs.YthmhogdceolkdaaGreat.Cr
open Tryz
open CM Go.RowKit
theorem validB_of_bit{xs:List Int}(h:Bit xs):ValidB xs=true:=validB_t fun q hq=>by rcases h _ (gi_mem xs q hq) with h1 | h1<;>omega
def bE(xs:List Int):Int:=if xs.length<1\/79536<xs.length then 2 else if ValidB xs=true then 0 else 3
def bD(xs:List Int):List (List Int):=if bE xs=0 then sD (xs ++ crcSum 1 xs) else []
def tE(sz:Int)(L:List Sv):Int:=if sz<1\/79536<sz then 2 else if jE (sz+24) L=0 then chkErr 1 (jR (sz+24) L) else jE (sz+24) L
def tR(sz:Int)(L:List Sv):List Int:=if sz<1\/79536<sz then [] else if jE (sz+24) L=0 then chkRes 1 (jR (sz+24) L) else []
theorem jErr_inv{b:Nat}{L:List Sv}(h:jErr b L=0):jV L=true/\L.length=bC b/\jS b L=true:=by
 unfold jErr at h;split at h
 . cases h
 . rename_i h1
   split at h
   . cases h
   . rename_i h2
     split at h
     . cases h
     . rename_i h3
       exact⟨by simpa using h1,by simpa using h2,by simpa using h3⟩
theorem jS_inv{b:Nat}{L:List Sv}(h:jS b L=true):∀ q s,L[q]?=some s->s.n=sz b q:=by
 intro q s hq;unfold jS at h;rw [List.all_eq_true]at h;have hl:=(List.getElem?_eq_some_iff.1 hq).1;have h1:=h q (List.mem_range.2 hl);rw [hq]at h1;simpa using h1
theorem jR_len{b:Int}{L:List Sv}(hx:∀ s ∈ L,s.xs.length=s.n):(jR b L).length<=90000:=by
 unfold jR;split
 . simp
 . rename_i hb
   unfold jRes;split
   . rename_i h
     obtain⟨h1,h2,h3⟩:=jErr_inv h;rw [List.length_drop,jD_len hx (jS_inv h3) _ (Nat.le_refl _),h2,off_all (by omega)];omega
   . simp
theorem tjoin_any(sz:Int)(A:Option Addr)(n c:Nat)(L:List Sv)(w:World)(hL:RL w A n c L)(hs:∀ s ∈ L,s.n<=100000)(h16:1<=sz/\sz+24<=6144)(hz:tE sz L=0) :
 Calls prog 65 #[.int .i64 sz,.slice A n c] w fun e w'=>∃ A' n' c',e= .returned (.tuple #[.slice A' n' c',.int .i64 (tE sz L)])/\Rd .u8 w' A' n' c' (tR sz L)/\Below w.heap.size w w':=by
 have HLY:=aq (fun W=>lay_any sz W);by_cases h:sz<1\/79536<sz
 . exact absurd h (by omega)
 . have hly:ly15 sz=(LY (sz+24).toNat,0):=by unfold ly15;rw [if_neg h]
   rw [hly]at HLY;have hsw:IntKind.i64.wrap (sz+24)=sz+24:=by rw [IntKind.wrap_i64];omega
   have hjz:jE (sz+24) L=0:=by
    unfold tE at hz;rw [if_neg h]at hz;split at hz<;>assumption
   have HJ:=aq (fun W h=>join_all (sz+24) A n c L W h hs (by omega) hjz);unfold JAll at HJ;have hlen:=jR_len (b:=sz+24) (L:=L) (fun s hs=>Rd.len (hL.r s hs));have e1:tE sz L=if jE (sz+24) L=0 then chkErr 1 (jR (sz+24) L) else jE (sz+24) L:=by unfold tE;rw [if_neg h]
   have e2:tR sz L=if jE (sz+24) L=0 then chkRes 1 (jR (sz+24) L) else []:=by unfold tR;rw [if_neg h]
   rw [e1,e2];obtain⟨ly,hl2⟩:∃ ly,ly=LY (sz+24).toNat:=⟨_,rfl⟩
   have hl7:ly.length=7:=by rw [hl2];rfl
   rw [<- hl2]at HLY;obtain⟨E,hE⟩:∃ E,E=jE (sz+24) L:=⟨_,rfl⟩
   have HEZ:=aq (hE.trans hjz);clear hjz hz;obtain⟨X,hX⟩:∃ X,X=jR (sz+24) L:=⟨_,rfl⟩
   rw [<- hE,<- hX]at HJ ⊢;rw [<- hX]at hlen;clear hE hX h hly e1 e2 hl2;have HL:=aq hL;clear hL;by_cases hE0:E=0
   . subst hE0
     rw [if_pos rfl,if_pos rfl];go_enter func65,ntmps65;go_wp2_with fail;refine(HLY.o _).mono ?_;rintro e w1 ⟨rfl,hB1⟩;have hL0:Blk (w1.alloc (.cells (ints8 zero7).toArray 122)) w1.heap.size 122 (ints8 zero7):=Blk.new w1 _ 122 rfl;have HB1:=aq hB1;clear hB1;simp only [ints8,zero7,List.map_cons,List.map_nil]at hL0
     go_wp2_with (first
      | (refine strow (cs:=ints8 ly) rfl 122 (.tmp 6) (.tmp 13) rfl rfl rfl hL0 (by simp [ints8,hl7]) (by rw [info23];simp [ints8,hl7]) (ints8_one ly) ?_
         intro W2 g1 g2;have hq:=(Below.refl w1.heap.size w1).alloc (Nat.le_refl _) (.cells #[.int .i64 0,.int .i64 0,.int .i64 0,.int .i64 0,.int .i64 0,.int .i64 0,.int .i64 0] 122);have HB2:=aq (hq.grown g2 hq.size (fun k hk=>by cases hk;exact Nat.le_refl _))
         clear g1 g2 hq hL0))
     have d:=HB1.o.trans (HB2.o.mono HB1.o.size);refine(HJ.o W2 (HL.o.below d)).mono ?_;rintro e w3 ⟨A3,n3,c3,rfl,hR3,hB3⟩;have hn3:n3<=100000:=by have:=hR3.len;omega
     have HR3:=aq hR3;have HD:=aq (d.trans (hB3.mono d.size));clear d hR3 hB3;go_wp2_with fail;refine(check_any 1 A3 n3 c3 X w3 HR3.o hn3).mono ?_;rintro e w4 ⟨A4,n4,c4,rfl,hO4,hB4⟩;have HO4:=aq (Own.rd hO4);have HD4:=aq (HD.o.trans (hB4.mono HD.o.size));clear hO4 hB4;go_wp2;go_ret2;exact⟨A4,n4,c4,rfl,HO4.o,HD4.o⟩
   . exact absurd HEZ.o hE0
end Go.Proofs.YthmhogdceolkdaaGreat.Cr
namespace Go.Proofs.YthmhogdceolkdaaGreat.Cr
open Tryz
open Go.RowKit Go.Shelf
attribute [local go_sem] Oper.semAt_some
def SeqW{α:Type}(m y gf:Nat)(lb:Array Value)(encs:α->Array Value)(Kp:World->World->Prop)(S Sp:List α->Prop)(Ok:List α->α->World->Prop)(w:World):Prop :=
 ∀ (l:Nat) (J Jx:List α->World->Prop) (W:World),Below w.heap.size w W->ClB J->ClB Jx ->
  (∀ pre x W1,J pre W1->Ok pre x W1->YieldAt Fence.wide y prog l (encs x) W1 fun e W' =>
    (e= .returned (.bool true)/\J (pre ++ [x]) W'/\Kp W1 W')\/(e= .returned (.bool false)/\Jx (pre ++ [x]) W')) ->
  J [] W ->
  CallsIn Fence.wide m prog gf (#[.func (.yield l) #[] #[]] ++ lb) W fun e W'=>(∃ v,e= .returned v)/\((∃ xs,S xs/\J xs W')\/(∃ pre,Sp pre/\Jx pre W'))
theorem rangeW{α:Type}{g:Operand}{ps:Array Tmp}{assign body:Code}{Q:Exit->Act->World->Prop}{a:Act}{w:World}
 {gf:Nat} {lb:Array Value} (hg:a.eval g= .func (.func gf) #[] lb) (eg:∀ args w,(callFunc gf args).run prog w= .ok (.enter gf args) w)
 {encs:α->Array Value} {Kp:World->World->Prop} {S Sp:List α->Prop} {Ok:List α->α->World->Prop} {w0:World} {d y:Nat} (hseq:SeqW (d+2) y gf lb encs Kp S Sp Ok w0) (hOk:∀ pre x W l o o',Ok pre x W->W.heap[l]?=some o->o.isCells=false->Ok pre x (W.putObj l o'))
 (hKt:∀ {A B C:World},Kp A B->Kp B C->Kp A C) (hKb:∀ (W:World) (l:Nat) (o o':Obj),w.heap.size<=l->W.heap[l]?=some o->o.isCells=false->Kp W (W.putObj l o')) (hb0:Below w0.heap.size w0 w) (hps:∀ x,(encs x).size=ps.size)
 (I:List α->World->Prop) (Ix:Code->List α->World->Prop) (hI:ClB I) (hIx:∀ c,ClB (Ix c)) (hIp:ClP w.heap.size I) (hIxp:∀ c,ClP w.heap.size (Ix c)) (h0:I [] w) (a₁:α->Act)
 (hassign:∀ (l:Nat) (x:α) (W:World) (K:Act->World->Prop),K (a₁ x) W ->
   assign.wpIn (Fence.wide.inRound l) y prog (Exit.then K (fun _ _ _=>False)) {tmps:=(ps.zip (encs x)).foldl (fun t (p,v)=>t.setIfInBounds p v) a.tmps,defers:=[]} W)
 (hbody:∀ (l:Nat) (pre:List α) (x:α) (W:World),I pre W->Ok pre x W->body.wpIn (Fence.wide.inRound l) y prog (ownPostK Kp I Ix (pre ++ [x]) W) (a₁ x) W)
 (hdone:∀ (D:Nat) (xs:List α) (W:World),w.heap.size<=D->S xs->I xs W->W.heap[D]?=some (.deferred (some []))->Q .normal {a with defers:={target:=.collected D,args:=#[]} :: a.defers} W)
 (hstop:∀ (D:Nat) (c:Code) (pre:List α) (W:World),w.heap.size<=D->Sp pre->Ix c pre W->W.heap[D]?=some (.deferred (some []))->c.wpIn Fence.wide (d+3) prog Q {a with defers:={target:=.collected D,args:=#[]} :: a.defers} W) :
 (Code.rangeFunc g ps assign body).wpIn Fence.wide (d+3) prog Q a w :=
 rangeQ (Kp:=Kp) hg eg hOk hKt hKb hb0 hps I Ix (fun n r rd W hn hs hb hy hj=>hseq (n+1) _ _ W hb (LpJ.b hI) (LpJ.x hIx) hy hj) hI hIp hIxp h0 a₁ hassign hbody hdone hstop
end Go.Proofs.YthmhogdceolkdaaGreat.Cr