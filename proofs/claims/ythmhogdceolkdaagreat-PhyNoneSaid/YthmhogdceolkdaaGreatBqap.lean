/- Bundle. Conditions: none. -/
import Derived.Test.YthmhogdceolkdaaGreatBqan
import Derived.Laws.BytesArg
import Derived.Test.YthmhogdceolkdaaGreatBqao
import Derived.StillTail
import Derived.OrdersHeld
import Derived.Deep.QuietTactic
import Derived.BigQuiet
set_option linter.unusedVariables false
set_option linter.unusedSimpArgs false
namespace Go.Proofs.YthmhogdceolkdaaGreat.Cr
open Tryz
open Go.RowKit
set_option maxRecDepth 100000
set_option maxHeartbeats 1000000
theorem Ownv.blk_of{e:TypeId}{w:World}{base:Nat}{A:Option Addr}{n c:Nat}{vs:List Value}(h:Ownv e w base A n c vs)(hA:A≠none):base<=blk A/\blk A<w.heap.size:=by
 obtain⟨hl,h2⟩:=h.cases;rcases h2 with⟨rfl,rfl,rfl⟩ | ⟨g,cur,rfl,hb,hh,hnc,hcm,hs,ht⟩
 . exact absurd rfl hA
 . exact⟨hb,(Array.getElem?_eq_some_iff.1 hh).1⟩
theorem own_some{w:World}{base:Nat}{A:Option Addr}{n c:Nat}{vs:List Int}(h:Own .u8 5 w base A n c vs){q:Nat}(hq:q<n):A≠none:=by
 intro hA;subst hA;obtain⟨hl,h2⟩:=Ownv.cases h;rcases h2 with⟨_,rfl,_⟩ | ⟨g,cur,h3,_⟩
 . omega
 . cases h3
def off(b:Nat):Nat->Nat
 | 0=>0
 | i+1=>off b i+(sz b i - ck b)
theorem off_le{b i j:Nat}(h:i<=j):off b i<=off b j:=by
 induction j with
 | zero=>obtain rfl:i=0:=by omega
         exact Nat.le_refl _
 | succ j ih =>
   by_cases hj:i=j+1
   . subst hj;exact Nat.le_refl _
   . have:=ih (by omega);simp only [off];omega
theorem off_lo(b:Nat):∀ k,k<=shs b->off b k=k*(sh b - ck b)
 | 0,_=>by simp [off]
 | k+1,h=>by
   simp only [off];rw [off_lo b k (by omega),sz,if_pos (by omega),Nat.add_mul,Nat.one_mul]
theorem off_hi(b:Nat):∀ k,off b (shs b+k)=shs b*(sh b - ck b)+k*(lo b - ck b)
 | 0=>by rw [Nat.add_zero,off_lo b _ (Nat.le_refl _)];simp
 | k+1=>by
   rw [<- Nat.add_assoc];simp only [off];rw [off_hi b k,sz,if_neg (by omega),Nat.add_mul k 1,Nat.one_mul];omega
theorem off_all{b:Nat}(h1:1<=b):off b (bC b)=b+fi b:=by
 have h2:=shs_lt h1;have h3:=fi_eq h1;have e:bC b=shs b+los b:=by unfold los;omega
 rw [e,off_hi];have h4:ck b<=sh b\/shs b=0:=by
  by_cases h:b<=6144
  . right;unfold shs;rw [if_pos h]
  . left;have:=sh_lt h;unfold ck;rw [if_neg h];omega
 have h5:ck b<=lo b:=by
  have:=(sz_ge (b:=b) (i:=shs b) h1).1;unfold sz at this;simp only [Nat.lt_irrefl,if_false]at this;split at this<;>omega
 have h6:los b*(lo b - ck b)+los b*ck b=los b*lo b:=by rw [<- Nat.mul_add];congr 1;omega
 have h7:shs b*(sh b - ck b)+shs b*ck b=shs b*sh b:=by
  rcases h4 with h4 | h4
  . rw [<- Nat.mul_add];congr 1;omega
  . rw [h4];simp
 have h8:tl b=b+(shs b+los b)*ck b:=by unfold tl;rw [e]
 rw [Nat.add_mul]at h8;omega
def segs(b:Nat)(full:List Int)(k:Nat):List (List Int):=(List.range k).map fun i=>segB b ((full.drop (off b i)).take (sz b i - ck b))
theorem segs_succ(b:Nat)(full:List Int)(k:Nat):segs b full (k+1)=segs b full k ++ [segB b ((full.drop (off b k)).take (sz b k - ck b))]:=by simp [segs,List.range_succ]
structure BL (w:World) (base:Nat) (A:Option Addr) (c:Nat) (L:List Sv):Prop where
 o:Ownv 53 w base A L.length c (L.map Sv.v)
 r:∀ s ∈ L,Own .u8 5 w base s.A s.n s.c s.xs/\s.A≠none
 p:L.Pairwise (fun s t=>blk s.A≠blk t.A)
theorem rows_ne{w:World}{e1 e2:TypeId}{b1 b2 n1 c1 n2 c2:Nat}{A1 A2:Option Addr}{v1 v2:List Value}(h1:Ownv e1 w b1 A1 n1 c1 v1)(h2:Ownv e2 w b2 A2 n2 c2 v2)(hne:e1≠e2)(hA:A1≠none):some (blk A1)≠(Value.slice A2 n2 c2).ownBlock:=by
 intro h;obtain⟨-,g1⟩:=h1.cases;obtain⟨-,g2⟩:=h2.cases;rcases g1 with⟨rfl,-⟩ | ⟨g,cur,rfl,-,hh,-⟩
 . exact hA rfl
 . rcases g2 with⟨rfl,-⟩ | ⟨g',cur',rfl,-,hh',-⟩
   . simp [Value.ownBlock]at h
   . have e:g=g':=by simpa [Value.ownBlock,blk] using h
     subst e;rw [hh]at hh';injection hh' with hh'
     injection hh' with _ h9
     exact hne h9
section
variable {w w' : World} {base base' c : Nat} {A : Option Addr} {L : List Sv}
theorem BL.nil(w:World)(base:Nat):BL w base none 0 []:=⟨Ownv.nilv 53 w base,by simp,List.Pairwise.nil⟩
theorem BL.below(h:BL w base A c L)(hB:Below w.heap.size w w'):BL w' base A c L:=⟨h.o.below hB,fun s hs=>⟨Ownv.below (h.r s hs).1 hB,(h.r s hs).2⟩,h.p⟩
theorem BL.mono(h:BL w base A c L)(hb:base'<=base):BL w base' A c L:=⟨h.o.mono hb,fun s hs=>⟨Ownv.mono (h.r s hs).1 hb,(h.r s hs).2⟩,h.p⟩
theorem BL.grownL(h:BL w base A c L){B:Nat}(hb:B<base)(hg:w.grownBy w' (some B)):BL w' base A c L :=
 ⟨h.o.grown hg (fun hA he=>by have h1:=(Ownv.blk_of h.o hA).1;have:=Option.some.inj he;omega),fun s hs=>⟨Ownv.grown (h.r s hs).1 hg (fun hA he=>by have h1:=(Ownv.blk_of (h.r s hs).1 hA).1;have:=Option.some.inj he;omega),(h.r s hs).2⟩,h.p⟩
theorem BL.push(h:BL w base A c L){s:Sv}(hs:Own .u8 5 w base s.A s.n s.c s.xs)(hA:s.A≠none)(hp:∀ t ∈ L,blk t.A≠blk s.A){A':Option Addr}{c':Nat}
 (hO:Ownv 53 w' base A' (L.length+1) c' (L.map Sv.v ++ [s.v])) (hg:w.grownBy w' ((Value.slice A L.length c).ownBlock)):BL w' base A' c' (L ++ [s]):=by
 refine⟨by simpa using hO,fun t ht=>?_,?_⟩
 . rcases List.mem_append.1 ht with ht | ht
   . exact⟨Ownv.grown (h.r t ht).1 hg (fun hA=>rows_ne (h.r t ht).1 h.o (by decide) hA),(h.r t ht).2⟩
   . simp at ht;subst ht
     exact⟨Ownv.grown hs hg (fun hA=>rows_ne hs h.o (by decide) hA),hA⟩
 . rw [List.pairwise_append]
   exact⟨h.p,List.pairwise_singleton _ _,fun t ht u hu=>by simp at hu;subst hu;exact hp t ht⟩
theorem BL.rd(h:BL w base A c L):Rdv w A L.length c (L.map Sv.v):=h.o.rd
end
theorem grownBy_own{w0 w1 w2:World}{row row2:Option Nat}(h1:w0.grownBy w1 row)(h2:w1.grownBy w2 row2)(h3:∀ k,row2=some k->w0.heap.size<=k):w0.grownBy w2 row :=
 ⟨h2.os.trans h1.os,h2.tape.trans h1.tape,h2.output.trans h1.output,Nat.le_trans h1.size h2.size,fun k hk hne=>(h2.block k (Nat.lt_of_lt_of_le hk h1.size) (fun e=>by have:=h3 k e.symm;omega)).trans (h1.block k hk hne)⟩
theorem validB_drop{xs:List Int}(n:Nat)(h:ValidB xs=true):ValidB (xs.drop n)=true:=by
 unfold ValidB at *;rw [List.all_eq_true]at *;exact fun x hx=>h x (List.mem_of_mem_drop hx)
def BuInv(W:World)(b LB RB:Nat)(lay:List Int)(full:List Int)(A0:Option Addr)(out i:Value)(wr:World):Prop :=
 ∃ (j:Nat) (A:Option Addr) (c:Nat) (L:List Sv) (Ar:Option Addr) (cr:Nat),j<=bC b/\i= .int .i64 j/\out= .slice A L.length c/\BL wr W.heap.size A c L/\L.length=j/\L.map (·.xs)=segs b full j /\
  Blk wr LB 175 (ints8 lay)/\Blk wr RB 53 [.slice Ar (full.length - off b j) cr]/\Rd .u8 wr Ar (full.length - off b j) cr (full.drop (off b j))/\(Ar≠none->blk Ar≠RB/\blk Ar<W.heap.size)/\W.grownBy wr (some RB)
def BuPost(W:World)(b RB:Nat)(full:List Int)(e:Ending)(w':World):Prop:=∃ A' c' L,e= .returned (.slice A' L.length c')/\BL w' W.heap.size A' c' L/\L.map (·.xs)=segs b full (bC b)/\W.grownBy w' (some RB)
theorem segB_len{b i:Nat}(h1:1<=b)(d:List Int)(hd:d.length=sz b i - ck b):(segB b d).length=sz b i:=by
 have:=(sz_ge (i:=i) h1).1;unfold segB;split
 . rename_i h;unfold ck at hd;rw [if_pos h]at hd;omega
 . rename_i h
   rw [List.length_append,crcSum_len];unfold ck at hd this;rw [if_neg h]at hd this;have:sLen 2=24:=rfl;omega
theorem built_any(b LB RB:Nat)(A0:Option Addr)(n c0:Nat)(full:List Int)(W:World)(h1:1<=b)(h2:b<=79560)(hn:n=b+fi b)
 (hL:Blk W LB 175 (ints8 (LY b))) (hR:Blk W RB 53 [.slice A0 n c0]) (hy:Rd .u8 W A0 n c0 full) (hAR:A0≠none->blk A0≠RB) (hv:ValidB full=true) :
 Calls prog 312 #[.int .i64 (bC b:Int),.func (.func 313) #[] #[.pointer (some ⟨LB,0,none⟩),.pointer (some ⟨RB,0,none⟩)]] W (BuPost W b RB full):=by
 have hC:=bC_le h2;have hfl:=hy.len;have hf64:=fi_lt h1 h2;have hoff:=off_all h1;subst hfl;have hAR':A0≠none->blk A0≠RB/\blk A0<W.heap.size:=fun hA=>⟨hAR hA,by
  have h8:=Rdv.le hy;obtain⟨bb,oo,rfl,h9⟩:=Rdv.ptr hy (by omega);exact h9⟩
 have hlb:=hL.lt;have hrb:=hR.lt;have hLR:some LB≠some RB:=by
  intro e;have e:=Option.some.inj e;subst e;have h3:W.heap[LB]?=_:=hL;have h4:W.heap[LB]?=_:=hR;rw [h4]at h3;injection h3 with h3
  injection h3 with _ h9
  exact absurd h9 (by decide)
 go_enter func312,ntmps312;go_wp2;go_loopw [4,7] (fun out i wr=>BuInv W b LB RB (LY b) full A0 out i wr) (fun _ i _=>bC b - (intOf i).toNat)
 case atStart=>exact⟨0,none,0,[],A0,c0,by omega,rfl,rfl,BL.nil W _,rfl,rfl,hL,hR,hy,hAR',World.grownBy.refl _ _⟩
 case round =>
  obtain⟨j,A,c,L,Ar,cr,hj,rfl,rfl,hBL,hlen,hxs,hL1,hR1,hy1,hA1,hG1⟩:=hrel;have HBL:=aq hBL;have HX:=aq hxs;have HG:=aq hG1;have HA:=aq hA1;subst hlen;by_cases hlt:L.length<bC b
  . have hsg:=(sz_ge (i:=L.length) h1).1
    have hstep:off b (L.length+1)=off b L.length+(sz b L.length - ck b):=rfl;have hmono:=off_le (b:=b) (show L.length+1<=bC b by omega);have hc:=aq (splitc_any b L.length LB RB (sz b L.length - ck b) Ar (full.length - off b L.length) cr (full.drop (off b L.length)) wr h1 h2 hlt (by omega) hL1 hR1 hy1 (by omega) (by omega) (validB_drop _ hv));have hsl:=aq (segB_len (i:=L.length) h1 ((full.drop (off b L.length)).take (sz b L.length - ck b)) (by rw [List.length_take,List.length_drop];omega));have hrl:=hR1.lt;have HL1:=aq hL1;have HR1:=aq hR1;have HY1:=aq hy1;clear hBL hxs hL1 hR1 hy1 hA1 hG1;go_wp2_with (first
     | (go_at_call 313;refine hc.o.mono ?_;rintro e w1 ⟨A',n',c',rfl,hO',hR',hG'⟩;have HO':=aq hO';have HR':=aq hR';have HG':=aq hG';clear hO' hR' hG')
     | (at_builtin;refine list_of rfl fun K hK=>wp_app1 (w:=w1) (base:=W.heap.size) _ _ 127 rfl el55 rfl (.slice A' n' c') rfl rfl (BL.grownL HBL.o hrb HG'.o).o (by omega) (by omega) (Nat.le_trans HG.o.size HG'.o.size) ?_;intro A2 c2 w2 hO2 hg2;have HO2:=aq hO2;have HG2:=aq hg2;clear hO2 hg2;refine hK _ _ ?_;clear hK K))
    have hn':n'=sz b L.length:=by have:=Rd.len (Own.rd HO'.o);rw [hsl.o]at this;omega
    have hA':A'≠none:=own_some HO'.o (q:=0) (by omega);have hge:=(Ownv.blk_of HO'.o hA').1;have hBL2:BL w2 W.heap.size A2 c2 (L ++ [⟨A',n',c',segB b ((full.drop (off b L.length)).take (sz b L.length - ck b))⟩]) :=
     BL.push (BL.grownL HBL.o hrb HG'.o) (s:=⟨A',n',c',segB b ((full.drop (off b L.length)).take (sz b L.length - ck b))⟩) (Ownv.mono HO'.o HG.o.size) hA'
      (fun t ht=>by have h8:=(Ownv.blk_of (HBL.o.r t ht).1 (HBL.o.r t ht).2).2;exact Nat.ne_of_lt (Nat.lt_of_lt_of_le h8 hge)) HO2.o HG2.o
    have hob:∀ k,(Value.slice A L.length c).ownBlock=some k->W.heap.size<=k:=fun k hk=>Ownv.ob' (BL.grownL HBL.o hrb HG'.o).o hk;have hLn:some LB≠(Value.slice A L.length c).ownBlock:=fun he=>by have:=hob _ he.symm;omega
    have hRn:some RB≠(Value.slice A L.length c).ownBlock:=fun he=>by have:=hob _ he.symm;omega
    have hL2:=(HL1.o.grown HG'.o hLR).grown HG2.o hLn;have hR2:=HR'.o.grown HG2.o hRn;have e1:full.length - off b L.length - (sz b L.length - ck b)=full.length - off b (L.length+1):=by omega
    rw [e1]at hR2;have hcut:=Rdv.le HY1.o;have hbc:(cut Ar cr (sz b L.length - ck b)≠none)->Ar≠none:=fun h9 h10=>h9 (by rw [h10];unfold cut;split<;>rfl);have hbk:=blk_cut HY1.o (l:=sz b L.length - ck b) (by omega);have hy0:=Rd.cut_ HY1.o (l:=sz b L.length - ck b) (m:=full.length - off b L.length) (by omega) (Nat.le_refl _);rw [List.take_of_length_le (by rw [List.length_drop];exact Nat.le_refl _),List.drop_drop,e1,<- hstep]at hy0;have hr5:∀ h:cut Ar cr (sz b L.length - ck b)≠none,blk (cut Ar cr (sz b L.length - ck b))≠RB/\blk (cut Ar cr (sz b L.length - ck b))<W.heap.size:=fun h=>by rw [hbk];exact HA.o (hbc h)
    have hy2:=Rdv.grown (Rdv.grown hy0 HG'.o (fun h9 h10=>(hr5 h9).1 (Option.some.inj h10))) HG2.o (fun h9 h10=>by have h11:=hob _ h10.symm;have h12:=(hr5 h9).2;omega);have hG3:=grownBy_own (grown_trans HG.o HG'.o) HG2.o hob;go_roundw
    case rel=>exact⟨L.length+1,A2,c2,L ++ [⟨A',n',c',segB b ((full.drop (off b L.length)).take (sz b L.length - ck b))⟩],_,_,by omega,by go_num,by simp,hBL2,by simp,by rw [List.map_append,HX.o,segs_succ];rfl,hL2,hR2,hy2,hr5,hG3⟩
    case measure=>simp [intOf];omega
  . have he:L.length=bC b:=by omega
    have HE:=aq he;rw [he]at HX;clear he;go_wp2;go_ret;exact⟨A,c,L,rfl,HBL.o,HX.o,HG.o⟩
theorem lv55{W:World}{b:Nat}{A:Option Addr}{n c:Nat}(h:W.cell? ⟨b,0,none⟩=some (.slice A n c)):(loadVar 127 ⟨b,0,none⟩).run prog W= .ok (.slice A n c) W:=by
 simp [go_sem,h]
theorem lv53{W:World}{b:Nat}{A:Option Addr}{n c:Nat}(h:W.cell? ⟨b,0,none⟩=some (.slice A n c)):(loadVar 53 ⟨b,0,none⟩).run prog W= .ok (.slice A n c) W:=by
 simp [go_sem,h]
theorem splitc1_any(p:Nat)(v:Value)(w:World)(h:Blk w p 127 [v]):Calls prog 311 #[.pointer (some ⟨p,0,none⟩)] w fun e w'=>e= .returned (.tuple #[])/\(Blk w' p 127 [.slice none 0 0]/\w.grownBy w' (some p)):=by
 have d0:=h.cell (j:=0) rfl;have g0:=h.frozen 0;have hF:=h.set 0 (.slice none 0 0);have HF:=aq hF;clear hF;go_enter func311,ntmps311;go_wp2;go_end0;exact⟨rfl,HF.o,grownBy_set _ _ _ _⟩
theorem joinc1_any(p:Nat)(v:Value)(w:World)(h:Blk w p 53 [v]):Calls prog 181 #[.pointer (some ⟨p,0,none⟩)] w fun e w'=>e= .returned (.tuple #[])/\(Blk w' p 53 [.slice none 0 0]/\w.grownBy w' (some p)):=by
 have d0:=h.cell (j:=0) rfl;have g0:=h.frozen 0;have hF:=h.set 0 (.slice none 0 0);have HF:=aq hF;clear hF;go_enter func181,ntmps181;go_wp2;go_end0;exact⟨rfl,HF.o,grownBy_set _ _ _ _⟩
def SpBad(k:Int)(w:World)(e:Ending)(w':World):Prop:=e= .returned (.tuple #[.slice none 0 0,.int .i64 k])/\Below w.heap.size w w'
theorem split_end(w w1:World)(TB EB:Nat)(k:Int)(hT:Blk w1 TB 127 [.slice none 0 0])(hE:Blk w1 EB 30 [.int .i64 0])(hB:Below w.heap.size w w1)(hT0:w.heap.size<=TB)(hE0:w.heap.size<=EB)(hne:EB≠TB)(ts:Array Value)(h2:ts.getD 2 undef= .pointer (some ⟨TB,0,none⟩))(h3:ts.getD 3 undef= .pointer (some ⟨EB,0,none⟩)) :
 Leaves prog Tryz.f274 ts (SpBad k w) [{target:=.fn (.func 164) #[],args:=#[.pointer (some ⟨EB,0,none⟩),.func (.func 311) #[] #[.pointer (some ⟨TB,0,none⟩)]]}] (.panicking (pan k)) w1:=by
 refine leaves_cons (f:=164) (args:=#[.pointer (some ⟨EB,0,none⟩),.func (.func 311) #[] #[.pointer (some ⟨TB,0,none⟩)]]) (by simp) (by simp [go_sem]) ?_;refine(caught_pan65 ⟨EB,0,none⟩ _ k _ (fun W=>Blk W TB 127 [.slice none 0 0]/\w1.grownBy W (some TB)) (splitc1_any TB _ w1 hT) (fun W hW=>?_)).mono ?_
 . have hE2:=hE.grown hW.2 (by intro he;exact hne (Option.some.inj he))
   exact⟨⟨_,hE2.cell (j:=0) rfl⟩,hE2.frozen 0⟩
 rintro e u' w'' ⟨rfl,rfl,W2,hW2,rfl⟩;have hE2:=hE.grown hW2.2 (by intro he;exact hne (Option.some.inj he));have l1:=lv55 ((hW2.1.other (g:=EB) hne 0 (.int .i64 k)).cell (j:=0) (v:=.slice none 0 0) rfl);have l2:=lv24 ((hE2.set 0 (.int .i64 k)).cell (j:=0) (v:=.int .i64 k) rfl);have hBe:=(hB.grown hW2.2 hB.size (fun k hk=>by cases hk;exact hT0)).setCell (p:=⟨EB,0,none⟩) hE0 (.int .i64 k);have HBE:=aq hBe;clear hBe hW2 hE2 hE hT hB;have h2':ts[2]?.getD undef= .pointer (some ⟨TB,0,none⟩):=by simpa using h2
 have h3':ts[3]?.getD undef= .pointer (some ⟨EB,0,none⟩):=by simpa using h3
 simp [Leaves,settle,results,results274,h2',h3',asAddr,l1,l2,Sem.run_bind,Result.andThen];exact⟨rfl,HBE.o⟩
theorem split_bad(A:Option Addr)(n c:Nat)(w:World)(h:n<1\/79560<n):Calls prog 274 #[.slice A n c] w (SpBad 2 w):=by
 have hmf:∀ (fn:Fn) (first cap:Array Value) (w:World),(Instr.makeFunc fn first cap).run prog w= .ok (.func fn first cap) w:=fun _ _ _ _=>rfl;have HH:=aq h;clear h;have hT0:Blk ((w.alloc (.cells #[.slice none 0 0] 127)).alloc (.cells #[.int .i64 0] 30)) w.heap.size 127 [.slice none 0 0]:=(Blk.new w [.slice none 0 0] 127 rfl).alloc _;have hE0:Blk ((w.alloc (.cells #[.slice none 0 0] 127)).alloc (.cells #[.int .i64 0] 30)) (w.heap.size+1) 30 [.int .i64 0]:=Blk.new _ [.int .i64 0] 30 (by simp);have hB0:Below w.heap.size w ((w.alloc (.cells #[.slice none 0 0] 127)).alloc (.cells #[.int .i64 0] 30)):=((Below.refl _ _).alloc (Nat.le_refl _) _).alloc (by simp) _;go_enter_defers func274,ntmps274;go_wp2_with fail;generalize (w.alloc (.cells #[.slice none 0 0] 127)).alloc (.cells #[.int .i64 0] 30)=W at *;refine(plan_bad n W (by have:=HH.o;omega)).mono ?_;rintro e w1 ⟨rfl,hB1⟩;exact split_end w w1 w.heap.size (w.heap.size+1) 2 (hT0.below hB1) (hE0.below hB1) (hB0.trans (hB1.mono hB0.size)) (Nat.le_refl _) (by omega) (by omega) _ rfl rfl
theorem split_bit(A:Option Addr)(n c:Nat)(xs:List Int)(w:World)(hx:Rd .u8 w A n c xs)(h1:1<=n)(h2:n<=79560)(hv:ValidB xs=false):Calls prog 274 #[.slice A n c] w (SpBad 3 w):=by
 have hmf:∀ (fn:Fn) (first cap:Array Value) (w:World),(Instr.makeFunc fn first cap).run prog w= .ok (.func fn first cap) w:=fun _ _ _ _=>rfl;have hT0:Blk ((w.alloc (.cells #[.slice none 0 0] 127)).alloc (.cells #[.int .i64 0] 30)) w.heap.size 127 [.slice none 0 0]:=(Blk.new w [.slice none 0 0] 127 rfl).alloc _;have hE0:Blk ((w.alloc (.cells #[.slice none 0 0] 127)).alloc (.cells #[.int .i64 0] 30)) (w.heap.size+1) 30 [.int .i64 0]:=Blk.new _ [.int .i64 0] 30 (by simp);have hB0:Below w.heap.size w ((w.alloc (.cells #[.slice none 0 0] 127)).alloc (.cells #[.int .i64 0] 30)):=((Below.refl _ _).alloc (Nat.le_refl _) _).alloc (by simp) _;go_enter_defers func274,ntmps274;go_wp2_with fail;generalize (w.alloc (.cells #[.slice none 0 0] 127)).alloc (.cells #[.int .i64 0] 30)=W at *;refine(plan_ok n W h1 h2).mono ?_;rintro e w1 ⟨rfl,hB1⟩;have hx1:=Rdv.below (Rdv.below hx hB0) (hB1.mono (Nat.le_refl _));have HT:=aq (hT0.below hB1);have HE:=aq (hE0.below hB1);have HB:=aq (hB0.trans (hB1.mono hB0.size));clear hT0 hE0 hB0 hB1 hx;unfold LY;simp only [ints8,List.map_cons,List.map_nil];have hb:=aq (fun o=>binary_any A n c xs (w1.alloc o) (Rdv.alloc hx1 o));rw [hv]at hb;go_wp2_with (first
  | (go_at_call 183;refine(hb.o _).mono ?_;rintro e w' ⟨rfl,rfl⟩)
  | (go_at_call 182;refine(must_bad _ _).mono ?_;rintro e w' ⟨rfl,rfl⟩))
 exact split_end w _ w.heap.size (w.heap.size+1) 3 (HT.o.alloc _) (HE.o.alloc _) (bal HB.o _) (Nat.le_refl _) (by omega) (by omega) _ rfl rfl
def SpPost(n:Nat)(xs:List Int)(w:World)(e:Ending)(w':World):Prop:=∃ A' c' L,e= .returned (.tuple #[.slice A' L.length c',.int .i64 0])/\BL w' w.heap.size A' c' L/\L.map (·.xs)=segs n (List.replicate (fi n) 0 ++ xs) (bC n)/\Below w.heap.size w w'
theorem split_ok(A:Option Addr)(n c:Nat)(xs:List Int)(w:World)(hx:Rd .u8 w A n c xs)(h1:1<=n)(h2:n<=79560)(hv:ValidB xs=true):Calls prog 274 #[.slice A n c] w (SpPost n xs w):=by
 have hmf:∀ (fn:Fn) (first cap:Array Value) (w:World),(Instr.makeFunc fn first cap).run prog w= .ok (.func fn first cap) w:=fun _ _ _ _=>rfl;have hfl:=fi_lt h1 h2;have hT0:Blk ((w.alloc (.cells #[.slice none 0 0] 127)).alloc (.cells #[.int .i64 0] 30)) w.heap.size 127 [.slice none 0 0]:=(Blk.new w [.slice none 0 0] 127 rfl).alloc _;have hE0:Blk ((w.alloc (.cells #[.slice none 0 0] 127)).alloc (.cells #[.int .i64 0] 30)) (w.heap.size+1) 30 [.int .i64 0]:=Blk.new _ [.int .i64 0] 30 (by simp);have hB0:Below w.heap.size w ((w.alloc (.cells #[.slice none 0 0] 127)).alloc (.cells #[.int .i64 0] 30)):=((Below.refl _ _).alloc (Nat.le_refl _) _).alloc (by simp) _;go_enter_defers func274,ntmps274;go_wp2_with fail;generalize (w.alloc (.cells #[.slice none 0 0] 127)).alloc (.cells #[.int .i64 0] 30)=W at *;refine(plan_ok n W h1 h2).mono ?_;rintro e w1 ⟨rfl,hB1⟩;have hx1:=Rdv.below (Rdv.below hx hB0) (hB1.mono (Nat.le_refl _));have HT:=aq (hT0.below hB1);have HE:=aq (hE0.below hB1);have HB:=aq (hB0.trans (hB1.mono hB0.size));clear hT0 hE0 hB0 hB1 hx;have hL:=Blk.new w1 (ints8 (LY n)) 175 rfl;obtain⟨R,hR⟩:∃ R,R=(los n:Int):=⟨_,rfl⟩
 unfold LY at hL ⊢;simp only [ints8,List.map_cons,List.map_nil]at hL ⊢;have HX:=aq (Rdv.alloc hx1 (.cells #[.int .i64 n,.int .i64 (bC n:Int),.int .i64 (lo n:Int),.int .i64 (sh n:Int),.int .i64 (los n:Int),.int .i64 (shs n:Int),.int .i64 (fi n:Int)] 175));have HT:=aq (HT.o.alloc (.cells #[.int .i64 n,.int .i64 (bC n:Int),.int .i64 (lo n:Int),.int .i64 (sh n:Int),.int .i64 (los n:Int),.int .i64 (shs n:Int),.int .i64 (fi n:Int)] 175));have HE:=aq (HE.o.alloc (.cells #[.int .i64 n,.int .i64 (bC n:Int),.int .i64 (lo n:Int),.int .i64 (sh n:Int),.int .i64 (los n:Int),.int .i64 (shs n:Int),.int .i64 (fi n:Int)] 175));have HB:=aq (bal HB.o (.cells #[.int .i64 n,.int .i64 (bC n:Int),.int .i64 (lo n:Int),.int .i64 (sh n:Int),.int .i64 (los n:Int),.int .i64 (shs n:Int),.int .i64 (fi n:Int)] 175));have hx1s:=hx1.le;clear hx1;go_wp2_with fail;generalize w1.alloc (.cells #[.int .i64 n,.int .i64 (bC n:Int),.int .i64 (lo n:Int),.int .i64 (sh n:Int),.int .i64 (los n:Int),.int .i64 (shs n:Int),.int .i64 (fi n:Int)] 175)=W1 at *;generalize w1.heap.size=LB at *;refine(binary_any A n c xs W1 HX.o).mono ?_;rintro e w' ⟨rfl,rfl⟩;rw [hv];obtain⟨⟨c0,c1,c2,c3,c4,c5,c6⟩,-⟩:=Blk.seven hL;have HL:=aq hL;clear hL;go_wp2_with (first
  | (go_at_call 182;refine(must_ok _ _).mono ?_;rintro e w' ⟨rfl,rfl⟩)
  | (at_make;refine list_of rfl fun K hK=>wp_mk _ _ 53 rfl el53 rfl rfl (by omega) (by unfold maxLen;omega) ?_;intro Az w2 hOz hBz hAz;have HOZ:=aq hOz;have HBZ:=aq hBz;clear hOz hBz;refine hK _ _ ?_;clear hK K)
  | (at_builtin;refine list_of rfl fun K hK=>wp_app _ _ 53 rfl el53 rfl rfl HOZ.o (Rdv.below HX.o HBZ.o) (oneCell_ints .u8 xs) (by omega) (by unfold maxLen;omega) HBZ.o.size ?_;intro Ar cr w3 hOr hgr;have HOR:=aq hOr;have HGR:=aq hgr;have hB3:=HBZ.o.grown hgr HBZ.o.size (fun k hk=>Ownv.ob' HOZ.o hk);have hL3:=(HL.o.below hB3).alloc (.cells #[.slice Ar (fi n+n) cr] 53);obtain⟨⟨c0',c1',c2',c3',c4',c5',c6'⟩,-⟩:=Blk.seven hL3;have HB3:=aq hB3;clear hOr hgr hB3;refine hK _ _ ?_;clear hK K))
 have hR3:Blk (w3.alloc (.cells #[.slice Ar (fi n+n) cr] 53)) w3.heap.size 53 [.slice Ar (fi n+n) cr]:=Blk.new w3 [.slice Ar (fi n+n) cr] 53 rfl;have hO3:Own .u8 5 (w3.alloc (.cells #[.slice Ar (fi n+n) cr] 53)) W1.heap.size Ar (fi n+n) cr (List.replicate (fi n) 0 ++ xs):=Own.of_eq (HOR.o.alloc _) rfl (by rw [List.map_append,List.map_replicate]);have hAR:Ar≠none->blk Ar≠w3.heap.size:=fun hA=>Nat.ne_of_lt (Ownv.blk_of HOR.o hA).2;have hvz:ValidB (List.replicate (fi n) 0 ++ xs)=true:=by
  unfold ValidB at *;rw [List.all_append,hv];simp
 have HT4:=aq (Blk.alloc (HT.o.below HB3.o) (.cells #[.slice Ar (fi n+n) cr] 53));have HE4:=aq (Blk.alloc (HE.o.below HB3.o) (.cells #[.slice Ar (fi n+n) cr] 53));have HB4:=aq (bal (HB.o.trans (HB3.o.mono HB.o.size)) (.cells #[.slice Ar (fi n+n) cr] 53));have htlt:=HT.o.lt;have helt:=HE.o.lt;have hs3:=HB3.o.size;have hs4:w3.heap.size<(w3.alloc (.cells #[.slice Ar (fi n+n) cr] 53)).heap.size:=by simp
 have hws:=HB.o.size;generalize w3.alloc (.cells #[.slice Ar (fi n+n) cr] 53)=W4 at *;clear c0 c1 c2 c3 c4 c5 c6 c0' c1' c2' c3' c4' c5' c6';refine(built_any n LB w3.heap.size Ar (fi n+n) cr _ W4 h1 h2 (by omega) hL3 hR3 (Own.rd hO3) hAR hvz).mono ?_;rintro e w5 ⟨A',c',L,rfl,hBL,hxs,hG5⟩;have hT5:=HT4.o.grown hG5 (fun he=>by have:=Option.some.inj he;omega);have hE5:=HE4.o.grown hG5 (fun he=>by have:=Option.some.inj he;omega);have HB5:=aq (HB4.o.grown hG5 HB4.o.size (fun k hk=>by cases hk;omega));have HBL:=aq hBL;have HXS:=aq hxs;clear hBL hxs hL3 hR3 hO3 hAR hG5;obtain⟨TB,hTB⟩:∃ TB,TB=w.heap.size:=⟨_,rfl⟩
 obtain⟨EB,hEB⟩:∃ EB,EB=w.heap.size+1:=⟨_,rfl⟩
 rw [<- hEB]at hE5 ⊢;rw [<- hTB]at hT5 ⊢;have hne:TB≠EB:=by omega
 have hne':EB≠TB:=by omega
 have hT0:w.heap.size<=TB:=by omega
 have hE0:w.heap.size<=EB:=by omega
 have hT4:TB<W4.heap.size:=by omega
 have hE4:EB<W4.heap.size:=by omega
 clear hTB hEB;have t0:=hT5.cell (j:=0) rfl;have t1:=hT5.frozen 0;have e0:=hE5.cell (j:=0) rfl;have e1:=hE5.frozen 0;go_wp2;have hT6:=(hT5.set 0 (.slice A' L.length c')).other (g:=EB) hne' 0 (.int .i64 0);have hE6:=(hE5.other (g:=TB) hne 0 (.slice A' L.length c')).set 0 (.int .i64 0);have hBL6:=(HBL.o.grownL hT4 (grownBy_set w5 TB 0 (.slice A' L.length c'))).grownL hE4 (grownBy_set _ EB 0 (.int .i64 0));have hB6:=(HB5.o.setCell (p:=⟨TB,0,none⟩) hT0 (.slice A' L.length c')).setCell (p:=⟨EB,0,none⟩) hE0 (.int .i64 0);have HT6:=aq hT6;have HE6:=aq hE6;have HBL6:=aq (hBL6.mono (base':=w.heap.size) (by omega));have HB6:=aq hB6;clear hT6 hE6 hBL6 hB6 t0 t1 e0 e1 hT5 hE5;generalize (w5.setCell ⟨TB,0,none⟩ (.slice A' L.length c')).setCell ⟨EB,0,none⟩ (.int .i64 0)=W6 at *;refine leaves_cons (f:=164) (args:=#[.pointer (some ⟨EB,0,none⟩),.func (.func 311) #[] #[.pointer (some ⟨TB,0,none⟩)]]) (by simp) (by simp [go_sem]) ?_;refine(caught_idle ⟨EB,0,none⟩ _ _).mono ?_;rintro e u' w'' ⟨rfl,rfl,rfl⟩;have l1:=lv55 (HT6.o.cell (j:=0) rfl);have l2:=lv24 (HE6.o.cell (j:=0) rfl);simp [Leaves,settle,results,results274,asAddr,l1,l2,Sem.run_bind,Result.andThen];exact⟨A',c',L,rfl,HBL6.o,HXS.o,HB6.o⟩
open CM
theorem bit_drop{xs:List Int}(n:Nat)(hx:Bit xs):Bit (xs.drop n):=fun x h=>hx x (List.mem_of_mem_drop h)
theorem conv_rd{w:World}{A:Option Addr}{n c:Nat}{xs:List Int}(h:Rd .u8 w A n c xs):(convert 53 9 (.slice A n c)).run prog w= .ok (.string (strOfNums xs)) w:=by
 have hu:prog.underlying 9=some .string:=by kernel_rfl
 have h5:prog.underlying 5=some (.int .u8):=by kernel_rfl
 cases A with
 | none =>
   have:=Rdv.nil h rfl;have:=Rdv.le h;obtain rfl:n=0:=by omega
   obtain rfl:xs=[]:=List.eq_nil_of_length_eq_zero h.len;exact run_convert_bytes_nil w 53 5 el53.u h5 0 c 9 hu
 | some a =>
   by_cases hn:n=0
   . subst hn
     obtain rfl:xs=[]:=List.eq_nil_of_length_eq_zero h.len;rw [run_convert_bytes_string w 53 9 5 _ 0 c el53.u h5 hu,run_bytesToString w a 0 c [] (by simpa using run_loadCells_list (P:=prog) w a [] (fun j v hj=>by cases hj))];rfl
   . obtain⟨b,o,hA,_⟩:=Rdv.ptr h (by have:=Rdv.le h;omega)
     cases hA;exact run_convert_bytes_arg w 53 5 el53.u h5 b o n c xs h.len (fun i hi=>Rd.cell h hi) 9 hu
theorem strOf_inj{xs ys:List Int}(hx:∀ x ∈ xs,0<=x/\x<256)(hy:∀ x ∈ ys,0<=x/\x<256)(h1:xs.map (fun n=>UInt8.ofNat n.toNat)=ys.map (fun n=>UInt8.ofNat n.toNat)):xs=ys:=by
 have hl:xs.length=ys.length:=by simpa using congrArg List.length h1
 apply List.ext_getElem hl;intro i hi hj;have h2:(xs.map (fun n=>UInt8.ofNat n.toNat))[i]'(by simpa using hi)=(ys.map (fun n=>UInt8.ofNat n.toNat))[i]'(by simpa using hj):=by simp only [h1]
 simp only [List.getElem_map]at h2;have h3:=congrArg UInt8.toNat h2;have a:=hx _ (List.getElem_mem hi);have b:=hy _ (List.getElem_mem hj);simp only [UInt8.toNat_ofNat']at h3;rw [Nat.mod_eq_of_lt (by omega),Nat.mod_eq_of_lt (by omega)]at h3;omega
theorem strEq{xs ys:List Int}(hx:∀ x ∈ xs,0<=x/\x<256)(hy:∀ x ∈ ys,0<=x/\x<256):((strOfNums xs).toList == (strOfNums ys).toList)=decide (xs=ys):=by
 rw [ByteArray.toList_eq,ByteArray.toList_eq,strOfNums_data,strOfNums_data];by_cases h:xs=ys
 . subst h;simp
 . have h9:¬ (xs.map fun n=>UInt8.ofNat n.toNat)=(ys.map fun n=>UInt8.ofNat n.toNat):=fun e=>h (strOf_inj hx hy e)
   simp only [h,decide_false];exact beq_eq_false_iff_ne.2 h9
structure RL (w:World) (A:Option Addr) (n c:Nat) (L:List Sv):Prop where
 o:Rdv w A n c (L.map Sv.v)
 r:∀ s ∈ L,Rd .u8 w s.A s.n s.c s.xs
theorem BL.rl{w:World}{base c:Nat}{A:Option Addr}{L:List Sv}(h:BL w base A c L):RL w A L.length c L:=⟨h.o.rd,fun s hs=>Own.rd (h.r s hs).1⟩
theorem RL.len{w:World}{A:Option Addr}{n c:Nat}{L:List Sv}(h:RL w A n c L):L.length=n:=by have:=h.o.len;simpa using this
theorem RL.below{w w':World}{A:Option Addr}{n c:Nat}{L:List Sv}(h:RL w A n c L)(hB:Below w.heap.size w w'):RL w' A n c L:=⟨Rdv.below h.o hB,fun s hs=>Rdv.below (h.r s hs) hB⟩
theorem RL.get{w:World}{A:Option Addr}{n c:Nat}{L:List Sv}(h:RL w A n c L){j:Nat}(hj:j<n):∃ s,L[j]?=some s/\w.cell? (adr A j)=some (.slice s.A s.n s.c)/\Rd .u8 w s.A s.n s.c s.xs:=by
 have hl:=h.len;have hj':j<L.length:=by omega
 exact⟨L[j],List.getElem?_eq_getElem hj',h.o.at_ j _ (by simp [hj',Sv.v]),h.r _ (List.getElem_mem hj')⟩
def Byt(xs:List Int):Prop:=∀ x ∈ xs,0<=x/\x<256
theorem byt_bit{xs:List Int}(h:Bit xs):Byt xs:=fun x hx=>by rcases h x hx with rfl | rfl<;>decide
end Go.Proofs.YthmhogdceolkdaaGreat.Cr
namespace Go.Proofs.YthmhogdceolkdaaGreat.Cr
open Tryz
open Go.RowKit
section
variable {P : Program} {ops : Array Oper} {Q : Exit -> Act -> World -> Prop} {md : Region.Mode} {S : World -> Prop} {p : Nat}
end
section
variable {P : Program} {ops : Array Oper} {Q : Exit -> Act -> World -> Prop} {md : Region.Mode} {S : World -> Prop} {p : Nat}
end
section
variable {P : Program} {ops : Array Oper} {Q : Exit -> Act -> World -> Prop} {md : Region.Mode} {S : World -> Prop} {p : Nat}
end
theorem s0{α:Type}{l:List α}{i:Nat}{a:α}:l.toArray.setIfInBounds i a=(l.set i a).toArray:=List.setIfInBounds_toArray _ _ _
theorem s1{α:Type}{x a:α}{xs:List α}:(x :: xs).set 0 a=a :: xs:=List.set_cons_zero
theorem s2{α:Type}{x a:α}{xs:List α}{n:Nat}:(x :: xs).set (n+1) a=x :: xs.set n a:=List.set_cons_succ
section
variable {P : Program} {ops : Array Oper} {Q : Exit -> Act -> World -> Prop} {md : Region.Mode} {S : World -> Prop} {p n m fuel : Nat} {ts : Array Value} {ds : List Deferred} {w : World} {oi : Oper} {a : Act}
end
end Go.Proofs.YthmhogdceolkdaaGreat.Cr