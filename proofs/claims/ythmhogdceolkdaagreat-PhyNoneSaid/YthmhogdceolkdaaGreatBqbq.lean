/- Bundle. Conditions: none. -/
import Derived.Test.YthmhogdceolkdaaGreatBqbp
import Derived.Test.YthmhogdceolkdaaGreatBqbf
import Derived.Test.YthmhogdceolkdaaGreatBqbh
import Derived.BigQuiet
import Derived.Test.YthmhogdceolkdaaGreatBqaz
import Derived.Test.YthmhogdceolkdaaGreatBqbe
import Derived.StillTailTactics
set_option linter.unusedVariables false
set_option linter.unusedSimpArgs false
namespace Go.Proofs.YthmhogdceolkdaaGreat.Cr
open Tryz
open Go.RowKit
attribute [local go_sem] Oper.semAt_some
set_option maxRecDepth 100000
set_option maxHeartbeats 8000000
def EncD(s rm m lm rv:Int)(X:Option Addr)(n c:Nat)(xs ys:List Int):Prop:=∀ W,Rd .u8 W X n c xs->Calls prog 148 #[.agg #[.int .i64 s,.int .i64 rm,.int .i64 m,.int .i64 lm,.int .i64 rv],.slice X n c] W fun e w'=>∃ A' c',e= .returned (.tuple #[.slice A' ys.length c',.int .i64 0])/\Rd .u8 w' A' ys.length c' ys/\Below W.heap.size W w'
theorem pts1_any(u p f b m s rv rm lm ini:Int)(nw:Bool)(TB:Nat)(X:Option Addr)(n c:Nat)(xs ys:List Int)(w:World)(hT:Blk w TB 145 (c14 u p f b m s rv nw s rm m lm rv ini))(hx:Rd .u8 w X n c xs)(hE:EncD s rm m lm rv X n c xs ys) :
 Calls prog 146 #[.slice X n c,.pointer (some ⟨TB,0,none⟩)] w fun e w'=>∃ A' c',e= .returned (.slice A' ys.length c')/\Rd .u8 w' A' ys.length c' ys/\Below w.heap.size w w':=by
 have HE:=aq (hE w hx)
 have HR:Hid (w.rangeAt TB 8 [.int .i64 s,.int .i64 rm,.int .i64 m,.int .i64 lm,.int .i64 rv]):=aq (fun q v hv=>hT.cell (by
  match q,hv with
  | 0,hv=>exact hv
  | 1,hv=>exact hv
  | 2,hv=>exact hv
  | 3,hv=>exact hv
  | 4,hv=>exact hv))
 clear hE hx hT;go_enter func146,ntmps146;go_wp2_with (refine wpList_load_mid rfl 36 (.tmp 4) rfl TB 8 rfl [.int .i64 s,.int .i64 rm,.int .i64 m,.int .i64 lm,.int .i64 rv] _ HR.o underlying36 rfl (by rw [infoT];rfl) ?_);refine HE.o.mono ?_;rintro e w1 ⟨A',c',rfl,hr,hB⟩;have HB:=aq hB;have HX:=aq hr;clear hB hr HE;dsimp only;go_wp2_with fail;refine(gotB_ok _).mono ?_;rintro e w2 ⟨rfl,rfl⟩;dsimp only;go_wp2;go_ret;exact⟨A',c',rfl,HX.o,HB.o⟩
theorem pts2_any(u p f b m s rv rm lm ini:Int)(nw:Bool)(TB:Nat)(X:Option Addr)(n c:Nat)(xs:List Int)(w:World)(hT:Blk w TB 145 (c14 u p f b m s rv nw s rm m lm rv ini))(hx:Rd .u8 w X n c xs)(hini:ini / 2147483648=0)(hn:n<=131072)(hb:∀ x ∈ xs,x=0\/x=1)(hv:ValidB xs=true) :
 Calls prog 149 #[.slice X n c,.pointer (some ⟨TB,0,none⟩)] w fun e w'=>∃ A' c',e= .returned (.slice A' n c')/\Rd .u8 w' A' n c' (sc8 ini xs)/\Below w.heap.size w w':=by
 have HE:=aq (scramble_any ini X n c xs w hini hx hn (fun q hq=>hb _ (gi_mem xs q (by rw [hx.len];exact hq))) hv);have c13:=hT.cell (j:=13) (v:=.int .u32 ini) rfl;clear hx hT;go_enter func149,ntmps149;go_wp2_with fail;refine HE.o.mono ?_;rintro e w1 ⟨A',c',rfl,hr,hB⟩;have HB:=aq hB;have HX:=aq hr.rd;clear hB hr HE c13;dsimp only;go_wp2_with fail;refine(gotB_ok _).mono ?_;rintro e w2 ⟨rfl,rfl⟩;dsimp only;go_wp2;go_ret;exact⟨A',c',rfl,HX.o,HB.o⟩
theorem sc8_bit{i:Int}{xs:List Int}(h:∀ x ∈ xs,x=0\/x=1):∀ x ∈ sc8 i xs,x=0\/x=1:=fun x hx=>by
 unfold sc8 at hx;obtain⟨q,hq,rfl⟩:=List.mem_map.1 hx;have:=h _ (gi_mem xs q (List.mem_range.1 hq));dsimp only;split
 . omega
 . exact this
theorem validB_of{xs:List Int}(h:∀ x ∈ xs,x=0\/x=1):ValidB xs=true:=all_gi.2 fun j hj=>by
 have:=h _ (gi_mem xs j hj);simp;omega
theorem infoFA:(prog.info? 209).map (·.size)=some 2:=by kernel_rfl
theorem fa_ix0(x y:Value)(W:World):(Instr.index 209 (.agg #[x,y]) (.int .i64 0)).run prog W= .ok x W:=by kernel_rfl
theorem fa_ix1(x y:Value)(W:World):(Instr.index 209 (.agg #[x,y]) (.int .i64 1)).run prog W= .ok y W:=by kernel_rfl
theorem tpoints_ok(u p f b m s rv rm lm ini:Int)(nw:Bool)(kk np:Nat)(X:Option Addr)(n c:Nat)(xs ys:List Int)(w:World)(hm:m=2*(kk:Int))(hk:1<=kk/\kk<=3)(hx:Rd .u8 w X n c xs)(hn:s=(n:Int))(hE:EncD s rm m lm rv X n c xs ys)(hys:ys.length=np*(2*kk))(hnp:np<=20000)(hbit:∀ y ∈ ys,y=0\/y=1)(hini:ini / 2147483648=0) :
 Calls prog 81 #[.agg #[.int .i64 u,.int .i64 p,.int .i64 f,.int .i64 b,.int .i64 m,.int .i64 s,.int .i64 rv,.bool nw,.int .i64 s,.int .i64 rm,.int .i64 m,.int .i64 lm,.int .i64 rv,.int .u32 ini],.slice X n c] w fun e w'=>∃ A' c',e= .returned (.slice A' np c')/\O2 93 w' w.heap.size A' np c' (mdL kk (sc8 ini ys) np)/\Below w.heap.size w w':=by
 have hmf:∀ (fn:Fn) (first cap:Array Value) (w:World),(Instr.makeFunc fn first cap).run prog w= .ok (.func fn first cap) w:=fun _ _ _ _=>rfl;have HT:Hid (Blk (w.alloc (.cells #[.int .i64 u,.int .i64 p,.int .i64 f,.int .i64 b,.int .i64 m,.int .i64 s,.int .i64 rv,.bool nw,.int .i64 s,.int .i64 rm,.int .i64 m,.int .i64 lm,.int .i64 rv,.int .u32 ini] 145)) w.heap.size 145 (c14 u p f b m s rv nw s rm m lm rv ini)):=aq (Blk.new w _ _ rfl);have HB:=aq (bal (Below.refl w.heap.size w) (.cells #[.int .i64 u,.int .i64 p,.int .i64 f,.int .i64 b,.int .i64 m,.int .i64 s,.int .i64 rv,.bool nw,.int .i64 s,.int .i64 rm,.int .i64 m,.int .i64 lm,.int .i64 rv,.int .u32 ini] 145));have c5:=HT.o.cell (j:=5) (v:=.int .i64 s) rfl;have hnl:ys.length<=131072:=by rw [hys];exact Nat.le_trans (Nat.mul_le_mul hnp (show 2*kk<=6 by omega)) (by omega)
 have HX:=aq (Rdv.below hx HB.o);have HBT:=aq hbit;have HEN:=aq hE;have HYS:=aq hys;have HM:=aq hm;have hsn:((n:Int) == s)=true:=beq_t hn.symm;clear hbit hE hys hm hx hn;go_enter func81,ntmps81;go_wp2_with fail;refine(pmust_ok 2 _).mono ?_;rintro e w1 ⟨rfl,rfl⟩;dsimp only;obtain⟨TB,hTB⟩:∃ x,x=w.heap.size:=⟨_,rfl⟩
 rw [<- hTB]at HT ⊢;have HG0:=aq HB.o;clear hTB c5;generalize (w.alloc (.cells #[.int .i64 u,.int .i64 p,.int .i64 f,.int .i64 b,.int .i64 m,.int .i64 s,.int .i64 rv,.bool nw,.int .i64 s,.int .i64 rm,.int .i64 m,.int .i64 lm,.int .i64 rv,.int .u32 ini] 145))=w0 at *;clear HB;have HZ:Hid (Blk (w0.alloc (.cells #[.nilFunc,.nilFunc] 209)) w0.heap.size 209 [.nilFunc,.nilFunc]):=aq (Blk.new w0 _ _ rfl);have HBZ:=aq (bal HG0.o (.cells #[.nilFunc,.nilFunc] 209));have HBW:=aq ((Below.refl w0.heap.size w0).alloc (Nat.le_refl _) (.cells #[.nilFunc,.nilFunc] 209))
 go_wp2_with (first
  | (refine strow rfl 209 (.tmp 5) (.tmp 17) rfl rfl rfl HZ.o rfl (by rw [infoFA];rfl) (by simp [Value.oneCell']) ?_
     intro W2 h1 h2;have H1:=aq h1;have H2:=aq h2
     clear h1 h2)
  | (refine ldrow (cs:=[.func (.func 146) #[] #[.pointer (some ⟨TB,0,none⟩)],.func (.func 149) #[] #[.pointer (some ⟨TB,0,none⟩)]]) rfl 209 (.tmp 5) rfl rfl H1.o _ underlying209 rfl (by rw [infoFA];rfl) ?_))
 have HB2:=aq (HBZ.o.grown H2.o HBZ.o.size (fun k hk=>by cases hk;exact HG0.o.size));have HBW2:=aq (HBW.o.grown H2.o HBW.o.size (fun k hk=>by cases hk;exact Nat.le_refl _));have HT2:=aq (HT.o.below HBW2.o);have HX2:=aq (HX.o.below HBW2.o);clear H2 HBZ HBW HT HX HZ HBW2 H1;go_loopw [19,1] (fun i o wr=>∃ (j L:Nat) (A':Option Addr) (c':Nat) (l:List Int),j<=2/\i= .int .i64 (j:Int)/\o= .slice A' L c'/\Rd .u8 wr A' L c' l/\((j=0/\A'=X/\L=n/\c'=c/\l=xs)\/(j=1/\L=ys.length/\l=ys)\/(j=2/\L=ys.length/\l=sc8 ini ys))/\Blk wr TB 145 (c14 u p f b m s rv nw s rm m lm rv ini)/\Below w.heap.size w wr) (fun i _ _=>2 - (intOf i).toNat)
 case atStart=>exact⟨0,n,X,c,xs,Nat.zero_le _,rfl,rfl,HX2.o,Or.inl ⟨rfl,rfl,rfl,rfl,rfl⟩,HT2.o,HB2.o⟩
 case round =>
  obtain⟨j,L,A',c',l,hj,rfl,rfl,hr,hcase,hTr,hBr⟩:=hrel;have HR:=aq hr;have HTr:=aq hTr;have HBr:=aq hBr;clear hr hTr hBr;rcases hcase with⟨rfl,rfl,rfl,rfl,rfl⟩ | ⟨rfl,rfl,rfl⟩ | ⟨rfl,rfl,rfl⟩
  . have ix0:=fa_ix0 (.func (.func 146) #[] #[.pointer (some ⟨TB,0,none⟩)]) (.func (.func 149) #[] #[.pointer (some ⟨TB,0,none⟩)])
    go_wp2_with fail;refine(pts1_any u p f b m s rv rm lm ini nw TB A' L c' l ys wr HTr.o HR.o HEN.o).mono ?_;rintro e w3 ⟨A3,c3,rfl,hr3,hB3⟩;have HR3:=aq hr3;have HT3:=aq (HTr.o.below hB3);have HB3:=aq (HBr.o.trans (hB3.mono HBr.o.size));clear hr3 hB3 ix0;dsimp only;go_wp2;go_roundw
    case rel=>exact⟨1,ys.length,A3,c3,ys,by omega,by go_num,rfl,HR3.o,Or.inr (Or.inl ⟨rfl,rfl,rfl⟩),HT3.o,HB3.o⟩
    case measure=>simp [intOf]
  . have ix1:=fa_ix1 (.func (.func 146) #[] #[.pointer (some ⟨TB,0,none⟩)]) (.func (.func 149) #[] #[.pointer (some ⟨TB,0,none⟩)])
    go_wp2_with fail;refine(pts2_any u p f b m s rv rm lm ini nw TB A' l.length c' l wr HTr.o HR.o hini hnl HBT.o (validB_of HBT.o)).mono ?_;rintro e w3 ⟨A3,c3,rfl,hr3,hB3⟩;have HR3:=aq hr3;have HT3:=aq (HTr.o.below hB3);have HB3:=aq (HBr.o.trans (hB3.mono HBr.o.size));clear hr3 hB3 ix1;dsimp only;go_wp2;go_roundw
    case rel=>exact⟨2,l.length,A3,c3,sc8 ini l,by omega,by go_num,rfl,HR3.o,Or.inr (Or.inr ⟨rfl,rfl,rfl⟩),HT3.o,HB3.o⟩
    case measure=>simp [intOf]
  . have c4:=HTr.o.cell (j:=4) (v:=.int .i64 m) rfl
    go_wp2_with fail;refine(mod_any m kk np A' ys.length c' (sc8 ini ys) wr HM.o hk HR.o HYS.o (by omega) (sc8_bit HBT.o) (validB_of (sc8_bit HBT.o))).mono ?_;rintro e w3 ⟨A3,c3,rfl,hO3,hB3⟩;have HO3:=aq hO3;have HB3:=aq (HBr.o.trans (hB3.mono HBr.o.size));have HLe:=aq HBr.o.size;clear hO3 hB3 c4;dsimp only;go_wp2_with fail;refine(gotP_ok _).mono ?_;rintro e w4 ⟨rfl,rfl⟩;dsimp only;go_wp2;go_ret;exact⟨A3,c3,rfl,O2.mono HO3.o HLe.o,HB3.o⟩
end Go.Proofs.YthmhogdceolkdaaGreat.Cr
namespace Go.Proofs.YthmhogdceolkdaaGreat.Cr
open Tryz
open Go.RowKit Go.Shelf
attribute [local go_sem] Oper.semAt_some
end Go.Proofs.YthmhogdceolkdaaGreat.Cr
namespace Go.Proofs.YthmhogdceolkdaaGreat
open Tryz
open Go.RowKit
attribute [local go_sem] Oper.semAt_some
end Go.Proofs.YthmhogdceolkdaaGreat
namespace Go.Proofs.YthmhogdceolkdaaGreat
open Tryz
open Go.RowKit
attribute [local go_sem] Oper.semAt_some
def idI(m x:Int):Int:=m*(1 - 2*x)
set_option maxRecDepth 100000
set_option maxHeartbeats 1000000
theorem stream_any(k:Nat)(f lim:Int)(w:World)(hk:k<=100000):Calls prog 231 #[.agg #[.int .i64 (k:Int),.int .i64 f,.int .i64 lim]] w fun e w'=>e= .returned (.int .i64 ((k:Int)+4))/\Below w.heap.size w w':=by
 have HB:=aq ((Below.refl w.heap.size w).alloc (Nat.le_refl _) (.cells #[.int .i64 (k:Int),.int .i64 f,.int .i64 lim] 230));go_enter func231,ntmps231;go_wp2;go_ret;exact⟨rfl,HB.o⟩
theorem own_ne3{w:World}{base:Nat}{A:Option Addr}{n c:Nat}{vs:List Int}(h:Own .i64 3 w base A n c vs){q:Nat}(hq:q<n):A≠none:=by
 intro hA;subst hA;obtain⟨hl,h2⟩:=Ownv.cases h;rcases h2 with⟨_,rfl,_⟩ | ⟨g,cur,h3,_⟩
 . omega
 . cases h3
def frI(k f i:Nat):Int:=if i<f\/(k+4<=i/\i<k+4+f) then 127 else 0
def frL(k f:Nat):List Int:=(List.range (3*(k+4))).map (frI k f)
def FrI2(w:World)(k f BX:Nat)(lim:Int)(Am:Option Addr)(i:Value)(wr:World):Prop:=∃ (j:Nat) (cur:List Int),j<=f/\i= .int .i64 (j:Int)/\Own .i64 3 wr w.heap.size Am (3*(k+4)) (3*(k+4)) cur/\(∀ q,q<3*(k+4)->gi cur q=frI k j q)/\Blk wr BX 230 [.int .i64 (k:Int),.int .i64 (f:Int),.int .i64 lim]/\Below w.heap.size w wr
theorem info3i:(prog.info? 230).map (·.size)=some 3:=by kernel_rfl
theorem fresh_any(k f:Nat)(lim:Int)(w:World)(hk:k<=6144)(hf:f<k):Calls prog 171 #[.agg #[.int .i64 (k:Int),.int .i64 (f:Int),.int .i64 lim]] w fun e w'=>∃ A,e= .returned (.slice A (3*(k+4)) (3*(k+4)))/\Own .i64 3 w' w.heap.size A (3*(k+4)) (3*(k+4)) (frL k f)/\Below w.heap.size w w':=by
 have HST:=aq (fun W=>stream_any k (f:Int) lim W (by omega));have hb0:Below w.heap.size w (w.alloc (.cells #[.int .i64 (k:Int),.int .i64 f,.int .i64 lim] 230)):=(Below.refl _ w).alloc (Nat.le_refl _) _;have hx0:Blk (w.alloc (.cells #[.int .i64 (k:Int),.int .i64 f,.int .i64 lim] 230)) w.heap.size 230 [.int .i64 (k:Int),.int .i64 f,.int .i64 lim]:=Blk.new w [.int .i64 (k:Int),.int .i64 f,.int .i64 lim] _ rfl;obtain⟨N,hN⟩:∃ N:Nat,N=3*(k+4):=⟨_,rfl⟩
 have q3:IntKind.i64.wrap (3*((k:Int)+4))=(N:Int):=by rw [IntWalk.i64_in _ (by omega)];omega
 have q4:wrap64 (3*((k:Int)+4))=(N:Int):=by rw [<- IntWalk.i64_left];exact q3
 have HB0:=aq hb0;have HX0:=aq hx0;have HN:=aq hN;have hN9:N<=20000:=by omega
 clear hb0 hN;go_enter func171,ntmps171;go_wp2_with (refine ldrow (cs:=[.int .i64 (k:Int),.int .i64 f,.int .i64 lim]) rfl 230 (.tmp 1) rfl rfl hx0 _ underlying230 rfl (by rw [info3i];rfl) ?_);refine(HST.o _).mono ?_;rintro e w1 ⟨rfl,hB1⟩;have HX1:=aq (HX0.o.below hB1);have HB1:=aq (HB0.o.trans (hB1.mono HB0.o.size));clear hB1 hx0
 go_wp2_with (at_make
              refine list_of rfl fun K hK=>wp_mk (n:=N) _ _ 51 rfl el22 rfl rfl (by omega) (by unfold maxLen;omega) ?_;intro Am w3 hO3 hB3 hA;have HO3:Hid (Own .i64 3 w3 w1.heap.size Am N N (List.replicate N 0)):=aq (by unfold Own;simpa using hO3);have HX3:=aq (HX1.o.below hB3);have HB3:=aq (HB1.o.trans (hB3.mono HB1.o.size));have c31:=HX3.o.cell (j:=1) (v:=.int .i64 (f:Int)) rfl;clear hO3 hB3 hA;refine hK _ _ ?_
              clear hK K)
 obtain⟨BX,hBX⟩:∃ BX,BX=w.heap.size:=⟨_,rfl⟩
 rw [<- hBX]at HX3 ⊢;have HBX:=aq hBX;clear c31 hBX q3 q4;go_loopw [11] (fun i wr=>FrI2 w k f BX lim Am i wr) (fun i _=>f - (intOf i).toNat)
 case atStart =>
  refine⟨0,List.replicate N 0,Nat.zero_le _,rfl,by rw [<- HN.o];exact Ownv.mono HO3.o HB1.o.size,fun q hq=>?_,HX3.o,HB3.o⟩;rw [gi_zero];unfold frI;rw [if_neg (by omega)]
 case round =>
  obtain⟨j,cur,hj,rfl,hO,hq,hX,hB⟩:=hrel;rw [<- HN.o]at hO;have hN:=HN.o;have HQ:=aq hq;have HO:=aq hO;have HX:=aq hX;have HB:=aq hB;by_cases hlt:j<f
  . clear hO hq hB hN
    go_wp2_with (refine ldrow (cs:=[.int .i64 (k:Int),.int .i64 f,.int .i64 lim]) rfl 230 (.tmp 1) rfl rfl hX _ underlying230 rfl (by rw [info3i];rfl) ?_);refine(HST.o _).mono ?_;rintro e w4 ⟨rfl,hB4⟩;have hN:=HN.o;have hO4:=Ownv.below HO.o hB4;have hX4:=HX.o.below hB4;have hB4':=HB.o.trans (hB4.mono HB.o.size);have hcl:=Rd.len (Own.rd HO.o);have hA:Am≠none:=own_ne3 HO.o (q:=0) (by omega);have hge:=(Ownv.blk_of hO4 hA).1;have hS1:=Own.set_ hO4 (j:=j) (by omega) 127;have hS2:=Own.set_ hS1.1 (j:=k+4+j) (by omega) 127;have hf1:=Ownv.frozen hO4 (by omega) j;have hc1:=Rd.cell (Own.rd hO4) (j:=j) (by omega);have hi1:=fun W=>Rdv.ix (Own.rd hO4) el22 (j:=j) (by omega) .i64 W;have hf2:=Ownv.frozen hS1.1 (by omega) (k+4+j);have hc2:=Rd.cell (Own.rd hS1.1) (j:=k+4+j) (by omega);have hi2:=fun W=>Rdv.ixI (Own.rd hO4) el22 (j:=k+4+j) (by omega) .i64 ((k:Int)+4+(j:Int)) (by omega) W;have hne:BX≠blk Am:=by
     have h1:=hX4.lt;intro e;obtain⟨-,g1⟩:=Ownv.cases hO4;rcases g1 with⟨h,-⟩ | ⟨g,cur2,h,-,hh,-⟩
     . exact hA h
     . rw [h]at e
       have e:BX=g:=e;subst e;have h2:w4.heap[BX]?=_:=hX4;rw [hh]at h2;injection h2 with h2
       injection h2 with _ h9
       exact absurd h9 (by decide)
    have HO5:=aq hS2.1;have HX5:=aq ((hX4.grown hS1.2 hne).grown hS2.2 hne);have HB5:=aq ((hB4'.grown hS1.2 hB4'.size (fun k e=>by cases e;exact hge)).grown hS2.2 (Nat.le_trans hB4'.size hS1.2.size) (fun k e=>by cases e;exact hge));have HCL:=aq hcl;clear hS1 hS2 hO4 hX4 hB4' hB4 hcl hge hne hX hN;go_wp2;go_roundw
    case rel =>
     refine⟨j+1,_,by omega,by go_num,by rw [<- HN.o];exact HO5.o,fun q hq=>?_,HX5.o,HB5.o⟩;have h7:=HQ.o q hq;have hN:=HN.o;have h8:=HCL.o;rw [gi_set' _ _ _ _ (by rw [List.length_set];omega),gi_set' _ _ _ _ (by omega),h7];unfold frI;split
     . rw [if_pos (by omega)]
     . split
       . rw [if_pos (by omega)]
       . split
         . rw [if_pos (by omega)]
         . rw [if_neg (by omega)]
    case measure=>simp [intOf];omega
  . obtain rfl:j=f:=by omega
    have hE:cur=frL k j:=ext_gi (by have:=Rd.len (Own.rd hO);simp [frL];omega) fun q hq9=>by
     have hq8:q<3*(k+4):=by have:=Rd.len (Own.rd hO);omega
     rw [hq q hq8];unfold frL;rw [gi_range _ hq8]
    rw [hE]at HO;clear hO hq hX hB hE hN;go_wp2;go_ret;exact⟨Am,by rw [<- HN.o];rfl,by rw [<- HN.o];exact HO.o,HB.o⟩
structure DmS (W:World) (base D k f:Nat) (lim:Int) (V:Option Addr) (vc:Nat) (vs:List Int) (cnt:Int):Prop where
 b:Blk W D 232 [.int .i64 (k:Int),.int .i64 (f:Int),.int .i64 lim,.slice V (3*(k+4)) vc,.int .i64 cnt]
 v:Own .i64 3 W base V (3*(k+4)) vc vs
 d:base<=D
def NwX(k f:Nat)(lim:Int)(w1:World)(v6 v7:Value)(wx:World):Prop:=v7= .int .i64 0/\∃ D V,v6= .pointer (some ⟨D,0,none⟩)/\DmS wx w1.heap.size D k f lim V (3*(k+4)) (frL k f) 0/\Below w1.heap.size w1 wx
theorem new_ok(k f:Nat)(lim:Int)(w:World)(h1:40<=k)(h2:k<=6144)(hf:f<k)(hl:1<=lim) :
 Calls prog 119 #[.int .i64 (k:Int),.int .i64 (f:Int),.int .i64 lim] w fun e w'=>∃ D V,e= .returned (.tuple #[.pointer (some ⟨D,0,none⟩),.int .i64 0])/\DmS w' w.heap.size D k f lim V (3*(k+4)) (frL k f) 0/\Below w.heap.size w w':=by
 have HU:=aq (Cr.usable_ok k f lim w h1 h2 hf hl);have HFR:=aq (fun W=>fresh_any k f lim W h2 hf);clear h1 h2 hf hl;go_enter func119,ntmps119;go_wp2_with fail;refine HU.o.mono ?_;rintro e w1 ⟨rfl,hB⟩;have HB1:=aq hB;clear hB;go_wp2_with fail;have hx:Blk (w1.alloc (.cells #[.int .i64 (k:Int),.int .i64 (f:Int),.int .i64 lim] 230)) w1.heap.size 230 [.int .i64 (k:Int),.int .i64 (f:Int),.int .i64 lim]:=Blk.new w1 [.int .i64 (k:Int),.int .i64 (f:Int),.int .i64 lim] _ rfl;have hq:=(Below.refl w1.heap.size w1).alloc (Nat.le_refl _) (.cells #[.int .i64 (k:Int),.int .i64 (f:Int),.int .i64 lim] 230);have HB2:=aq (HB1.o.trans (hq.mono HB1.o.size));generalize w1.alloc (.cells #[.int .i64 (k:Int),.int .i64 (f:Int),.int .i64 lim] 230)=w2 at *;generalize w1.heap.size=BX at *;have HS:Hid (Blk w2.drew BX 230 [.int .i64 (k:Int),.int .i64 (f:Int),.int .i64 lim]):=aq hx;clear hx hq;go_cut [6,7] from 25 to 29 (fun v6 v7 wx=>NwX k f lim w2 v6 v7 wx)
 case first =>
  refine Q_start (fun W=>Blk W BX 230 [.int .i64 (k:Int),.int .i64 (f:Int),.int .i64 lim]) 4 7 ?_;refine Q_T 0 25 1 (.agg #[.int .i64 (k:Int),.int .i64 (f:Int),.int .i64 lim]) [3] rfl HS.o (yieldsIf_load_mid rfl 230 (.tmp 10) rfl BX (0) rfl [.int .i64 (k:Int),.int .i64 (f:Int),.int .i64 lim] _ (fun W hS=>fun q v hv=>Blk.cell hS (by rw [Nat.zero_add];exact hv)) underlying230 rfl (by rw [info3i];rfl)) ?_;simp only [z0,z1,z2];refine Q_T 1 26 3 (.agg #[.int .i64 (k:Int),.int .i64 (f:Int),.int .i64 lim]) [3,2] rfl HS.o (yieldsIf_load_mid rfl 230 (.tmp 10) rfl BX (0) rfl [.int .i64 (k:Int),.int .i64 (f:Int),.int .i64 lim] _ (fun W hS=>fun q v hv=>Blk.cell hS (by rw [Nat.zero_add];exact hv)) underlying230 rfl (by rw [info3i];rfl)) ?_;simp only [z0,z1,z2];refine Q_1S 2 7 rfl (fun K hK=>?_);go_simp;refine(HFR.o w2.drew).mono ?_;rintro e w3 ⟨A,rfl,hO,hB⟩;have HO:=aq (show Own .i64 3 w3 w2.heap.size A (3*(k+4)) (3*(k+4)) (frL k f) from hO);have HB3:Hid (Below w2.heap.size w2 w3):=aq ((Below.refl _ w2).drew.trans hB);have HS3:=aq (HS.o.below hB);clear hO hB;refine hK _ _ HS3.o ?_;clear hK K;refine Q_W 3 28 15 (.agg #[.int .i64 (k:Int),.int .i64 (f:Int),.int .i64 lim,.slice A (3*(k+4)) (3*(k+4)),.int .i64 0]) rfl HS3.o ?_;simp only [z0,z1,z2];have HF:Hid (NwX k f lim w2 (.pointer (some ⟨w3.heap.size,0,none⟩)) (.int .i64 0) (w3.alloc (.cells #[.int .i64 (k:Int),.int .i64 (f:Int),.int .i64 lim,.slice A (3*(k+4)) (3*(k+4)),.int .i64 0] 232))):=aq ⟨rfl,w3.heap.size,A,rfl,⟨Blk.new w3 [.int .i64 (k:Int),.int .i64 (f:Int),.int .i64 lim,.slice A (3*(k+4)) (3*(k+4)),.int .i64 0] _ rfl,Ownv.alloc HO.o _,HB3.o.size⟩,HB3.o.alloc HB3.o.size _⟩;refine Q_1 4 31 rfl (fun K hK=>?_);go_simp;refine hK _ _ ?_;clear hK K;refine Q_1 5 63 rfl (fun K hK=>?_);go_simp;refine hK _ _ ?_;clear hK K;refine Q_1 6 127 rfl (fun K hK=>?_);go_simp;refine hK _ _ ?_;clear hK K;refine Q_end ?_;go_wp2_with fail;go_meet;exact HF.o
 case rest =>
  obtain⟨rfl,D,V,rfl,hD,hB⟩:=hcut;have HD:=aq hD;have HBX:=aq (HB2.o.trans (hB.mono HB2.o.size));clear hD hB;go_wp2;go_ret2;exact⟨D,V,rfl,⟨HD.o.b,Ownv.mono HD.o.v HB2.o.size,Nat.le_trans HB2.o.size HD.o.d⟩,HBX.o⟩
section
variable {W : World} {base D k f : Nat} {lim : Int} {V : Option Addr} {vc : Nat} {vs : List Int} {cnt : Int}
theorem DmS.ne(h:DmS W base D k f lim V vc vs cnt):V≠none:=own_ne3 h.v (q:=0) (by omega)
theorem dnone_any(h:DmS W base D k f lim V vc vs cnt):Calls prog 172 #[.pointer (some ⟨D,0,none⟩)] W fun e w'=>e= .returned (.bool false)/\W=w':=by
 have c3:=h.b.cell (j:=3) (v:=.slice V (3*(k+4)) vc) rfl;have hV:=h.ne;cases V with
 | none=>exact absurd rfl hV
 | some a =>
   have e1:=fun W=>Lib.run_eql_slice_nil (P:=prog) W 51 3 (some a) (3*(k+4)) vc 0 0 el22.u;clear h hV;go_enter func172,ntmps172;go_wp2;go_ret;exact⟨rfl,rfl⟩
theorem values_any(h:DmS W base D k f lim V vc vs cnt)(hk:k<=6144):Calls prog 122 #[.pointer (some ⟨D,0,none⟩)] W fun e w'=>∃ A c,e= .returned (.slice A (3*(k+4)) c)/\Own .i64 3 w' W.heap.size A (3*(k+4)) c vs/\Below W.heap.size W w':=by
 have c3:=h.b.cell (j:=3) (v:=.slice V (3*(k+4)) vc) rfl;have HN:=aq (dnone_any h);have HC:=aq (cloneI_any V (3*(k+4)) vc vs W (Own.rd h.v) (by omega));clear h;go_enter func122,ntmps122;go_wp2_with fail;refine HN.o.mono ?_;rintro e w1 ⟨rfl,rfl⟩;go_wp2_with fail;refine HC.o.mono ?_;rintro e w1 ⟨A,c,rfl,hO,hB⟩;have HO:=aq hO;have HB:=aq hB;clear hO hB;go_wp2;go_ret;exact⟨A,c,rfl,HO.o,HB.o⟩
end
theorem add1_any(a b:Int)(w:World):Calls prog 176 #[.int .i64 a,.int .i64 b] w fun e w'=>e= .returned (.int .i64 (addI a b))/\Below w.heap.size w w':=by
 have HA:=aq (sadd_any a b w);generalize addI a b=z at *;go_enter func176,ntmps176;go_wp2_with fail;refine HA.o.mono ?_;rintro e w1 ⟨rfl,hB⟩;have HB:=aq hB;clear hB;go_wp2;go_ret;exact⟨rfl,HB.o⟩
def cmbL(at' l vs:List Int):Nat->List Int
 | 0=>vs
 | j+1=>(cmbL at' l vs j).set (gi at' j).toNat (addI (gi (cmbL at' l vs j) (gi at' j).toNat) (gi l j))
theorem cmbL_len(at' l vs:List Int):∀ j,(cmbL at' l vs j).length=vs.length
 | 0=>rfl
 | j+1=>by show(List.set _ _ _).length=_;rw [List.length_set];exact cmbL_len at' l vs j
def CbI(w:World)(base:Nat)(V:Option Addr)(N vc m:Nat)(ps l vs:List Int)(i:Value)(wr:World):Prop:=∃ j:Nat,j<=m/\i= .int .i64 (j:Int)/\Own .i64 3 wr base V N vc (cmbL ps l vs j)/\w.grownBy wr (some (blk V))
theorem combined_any(V:Option Addr)(N vc base:Nat)(vs:List Int)(A2:Option Addr)(m c2:Nat)(ps:List Int)(A3:Option Addr)(c3:Nat)(l:List Int)(w:World)(hv:Own .i64 3 w base V N vc vs)(hp:Rd .i64 w A2 m c2 ps)(hl:Rd .i64 w A3 m c3 l)
 (hn2:A2≠none->blk A2≠blk V) (hn3:A3≠none->blk A3≠blk V) (hb:∀ j,j<m->∃ p:Nat,gi ps j=(p:Int)/\p<N) (hm:m<=200000) :
 Calls prog 175 #[.slice V N vc,.slice A2 m c2,.slice A3 m c3,.func (.func 176) #[] #[]] w fun e w'=>(∃ v,e= .returned v)/\Own .i64 3 w' base V N vc (cmbL ps l vs m)/\w.grownBy w' (some (blk V)):=by
 have HV:=aq hv;have HP:=aq hp;have HL:=aq hl;have HN:=aq (And.intro hn2 hn3);have HBD:=aq hb;have HAD0:=aq (fun a b W=>add1_any a b W);clear hv hp hl hn2 hn3 hb;go_enter func175,ntmps175;go_wp2_with fail;go_loopw [12] (fun i wr=>CbI w base V N vc m ps l vs i wr) (fun i _=>m - (intOf i).toNat)
 case atStart=>exact⟨0,Nat.zero_le _,rfl,HV.o,World.grownBy.refl _ _⟩
 case round =>
  obtain⟨j,hj,rfl,hO,hG⟩:=hrel;have HO:=aq hO;have HG:=aq hG;by_cases hlt:j<m
  . obtain⟨p,hpe,hpn⟩:=HBD.o j hlt
    have hr2:=Rdv.grown HP.o hG (fun hA=>by have:=HN.o.1 hA;simpa using this);have hr3:=Rdv.grown HL.o hG (fun hA=>by have:=HN.o.2 hA;simpa using this);have ca:=Rd.cell hr2 hlt;have cx:=Rd.cell hr3 hlt;rw [hpe]at ca;have ia:=fun W=>Rdv.ix hr2 el22 hlt .i64 W;have ix:=fun W=>Rdv.ix hr3 el22 hlt .i64 W;have co:=Rd.cell (Own.rd hO) hpn;have io:=fun W=>Rdv.ix (Own.rd hO) el22 hpn .i64 W;have hvc:0<vc:=by have:=Rdv.le (Own.rd hO);omega
    have HCE:Hid (cmbL ps l vs (j+1)=(cmbL ps l vs j).set p (addI (gi (cmbL ps l vs j) p) (gi l j))):=aq (by show List.set _ _ _=_;rw [hpe,Int.toNat_natCast]);have HS:Hid (wr.drew.cell? (adr A2 j)=some (.int .i64 (p:Int))/\wr.drew.cell? (adr V p)=some (.int .i64 (gi (cmbL ps l vs j) p))):=aq ⟨ca,co⟩;generalize gi (cmbL ps l vs j) p=old at *;generalize gi l j=x at *;have HAD:=aq (HAD0.o old x);generalize addI old x=z at *;clear hO hG hr2 hr3 hpe ca co;go_wp2_with fail;refine Q_start (fun W=>W.cell? (adr A2 j)=some (.int .i64 (p:Int))/\W.cell? (adr V p)=some (.int .i64 old)) 16 17 ?_;refine Q_W 0 17 1 (.slice V N vc) rfl HS.o ?_;simp only [z0,z1,z2];refine Q_W 1 18 3 (.slice A2 m c2) rfl HS.o ?_;simp only [z0,z1,z2];refine Q_W 2 19 7 (.int .i64 (j:Int)) rfl HS.o ?_;simp only [z0,z1,z2];refine Q_W 3 20 15 (.pointer (some (adr A2 j))) rfl HS.o ?_;simp only [z0,z1,z2];refine Q_T 4 21 31 (.int .i64 (p:Int)) [15] rfl HS.o (.inl ⟨by rfl,fun W hS=>by obtain⟨s0,s1⟩:=hS;go_simp⟩) ?_;simp only [z0,z1,z2];refine Q_W 5 22 63 (.func (.func 176) #[] #[]) rfl HS.o ?_;simp only [z0,z1,z2];refine Q_W 6 23 127 (.slice V N vc) rfl HS.o ?_;simp only [z0,z1,z2];refine Q_W 7 24 255 (.slice A2 m c2) rfl HS.o ?_;simp only [z0,z1,z2];refine Q_W 8 25 511 (.int .i64 (j:Int)) rfl HS.o ?_;simp only [z0,z1,z2];refine Q_W 9 26 1023 (.pointer (some (adr A2 j))) rfl HS.o ?_;simp only [z0,z1,z2];refine Q_T 10 27 2047 (.int .i64 (p:Int)) [14,12,11] rfl HS.o (.inl ⟨by rfl,fun W hS=>by obtain⟨s0,s1⟩:=hS;go_simp⟩) ?_;simp only [z0,z1,z2];refine Q_W 11 28 4095 (.pointer (some (adr V p))) rfl HS.o ?_;simp only [z0,z1,z2];refine Q_T 12 29 8191 (.int .i64 old) [14] rfl HS.o (.inl ⟨by rfl,fun W hS=>by obtain⟨s0,s1⟩:=hS;go_simp⟩) ?_;simp only [z0,z1,z2];refine Q_W 13 30 16383 (.int .i64 x) rfl HS.o ?_;simp only [z0,z1,z2];refine Q_1S 14 32767 rfl (fun K hK=>?_);go_simp;refine(HAD.o wr.drew).mono ?_;rintro e w3 ⟨rfl,hB⟩;have HB3:Hid (Below wr.heap.size wr w3):=aq ((Below.refl _ wr).drew.trans hB);have HO3:=aq (Ownv.below HO.o HB3.o);have hS3:=Own.set_ HO3.o hpn z;have hf3:=Ownv.frozen HO3.o hvc p;have hc3:=Rd.cell (Own.rd HO3.o) hpn;have HS3:=aq hS3;clear hB hS3;have HSw:Hid (w3.cell? (adr A2 j)=some (.int .i64 (p:Int))/\w3.cell? (adr V p)=some (.int .i64 old)):=aq ⟨cell_below (w:=wr) HS.o.1 HB3.o,cell_below (w:=wr) HS.o.2 HB3.o⟩;refine hK _ _ HSw.o ?_;clear hK K;refine Q_W 15 32 65535 (.pointer (some (adr V p))) rfl HSw.o ?_;simp only [z0,z1,z2];refine Q_1 16 131071 rfl (fun K hK=>?_);go_simp;refine hK _ _ ?_;clear hK K;refine Q_end ?_;go_wp2_with fail;go_roundw
    case rel=>exact⟨j+1,by omega,by go_num,by rw [HCE.o];exact HS3.o.1,grown_same (grown_of_below HG.o HB3.o) HS3.o.2⟩
    case measure=>simp [intOf];omega
  . obtain rfl:j=m:=by omega
    clear hO hG;go_wp2;go_end0;exact⟨⟨_,rfl⟩,HO.o,HG.o⟩
end Go.Proofs.YthmhogdceolkdaaGreat