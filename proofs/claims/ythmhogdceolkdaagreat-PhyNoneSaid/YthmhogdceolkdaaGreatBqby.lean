/- Bundle. Conditions: none. -/
import Derived.Test.YthmhogdceolkdaaGreatBqbj
import Derived.Deep.Slices
import Derived.Lib.SmallJoins
import Derived.Test.YthmhogdceolkdaaGreatBqbx
set_option linter.unusedVariables false
set_option linter.unusedSimpArgs false
namespace Go.Proofs.YthmhogdceolkdaaGreat
open Tryz
open Go.ChangeShapes Go.Deep Go.Joins Go.RowKit Go.WideShapes
set_option maxRecDepth 100000
section
variable {H : Type} {enc : TypeId × Value -> H} {w : World} {base : Nat} {held : Bool}
theorem trod_gc{fuel:Nat}{cs:List Value}{x:DataW H × List MemPlace}(h:DataW.trod enc prog w base (fun _=>true) held fuel 23 cs=some x) :
 ∃ B c k,cs=[.int .i64 B,.int .i64 c,.int .i64 k]/\(Lit.int .i64 B).wf=true/\(Lit.int .i64 c).wf=true/\(Lit.int .i64 k).wf=true:=by
 obtain⟨xs,n,_,rfl,hl,hlen,hf⟩:=DataW.trod_struct underlying23 h;have hc:prog.cellsOf 23=3:=by kernel_rfl
 have k3:prog.cellsOf 3=1:=by kernel_rfl
 rw [hc]at hl;match cs,hl,xs,hlen with
 | [c0,c1,c2],_,[y0,y1,y2],_ =>
   have g0:=hf 0 _ rfl;have g1:=hf 1 _ rfl;have g2:=hf 2 _ rfl;simp [k3]at g0 g1 g2;obtain⟨B,e0,-,h0⟩:=DataW.trod_int underlying3 g0;obtain⟨c,e1,-,h1⟩:=DataW.trod_int underlying3 g1;obtain⟨k,e2,-,h2⟩:=DataW.trod_int underlying3 g2;simp at e0 e1 e2;subst e0 e1 e2;exact⟨B,c,k,rfl,h0,h1,h2⟩
theorem trod_pc{fuel:Nat}{cs:List Value}{x:DataW H × List MemPlace}(h:DataW.trod enc prog w base (fun _=>true) held fuel 25 cs=some x) :
 ∃ B c k lm hv,cs=[.int .i64 B,.int .i64 c,.int .i64 k,.int .i64 lm,.int .i64 hv]/\(Lit.int .i64 B).wf=true/\(Lit.int .i64 c).wf=true/\(Lit.int .i64 k).wf=true/\(Lit.int .i64 lm).wf=true/\(Lit.int .i64 hv).wf=true:=by
 obtain⟨xs,n,_,rfl,hl,hlen,hf⟩:=DataW.trod_struct underlying25 h;have hc:prog.cellsOf 25=5:=by kernel_rfl
 have k3:prog.cellsOf 3=1:=by kernel_rfl
 have kg:prog.cellsOf 23=3:=by kernel_rfl
 rw [hc]at hl;match cs,hl,xs,hlen with
 | [c0,c1,c2,c3,c4],_,[y0,y1,y2],_ =>
   have g0:=hf 0 _ rfl;have g1:=hf 1 _ rfl;have g2:=hf 2 _ rfl;simp [k3,kg]at g0 g1 g2;obtain⟨B,c,k,e0,hB,hcc,hk⟩:=trod_gc g0;obtain⟨lm,e1,-,h1⟩:=DataW.trod_int underlying3 g1;obtain⟨hv,e2,-,h2⟩:=DataW.trod_int underlying3 g2;simp at e0 e1 e2;obtain⟨rfl,rfl,rfl⟩:=e0;subst e1 e2;exact⟨B,c,k,lm,hv,rfl,hB,hcc,hk,h1,h2⟩
theorem trod_gt{fuel:Nat}{cs:List Value}{x:DataW H × List MemPlace}(h:DataW.trod enc prog w base (fun _=>true) held fuel 28 cs=some x) :
 ∃ u p f b m s rv nw,cs=[.int .i64 u,.int .i64 p,.int .i64 f,.int .i64 b,.int .i64 m,.int .i64 s,.int .i64 rv,.bool nw]/\((Lit.int .i64 u).wf=true/\(Lit.int .i64 p).wf=true/\(Lit.int .i64 f).wf=true/\(Lit.int .i64 b).wf=true/\(Lit.int .i64 m).wf=true/\(Lit.int .i64 s).wf=true/\(Lit.int .i64 rv).wf=true):=by
 obtain⟨xs,n,_,rfl,hl,hlen,hf⟩:=DataW.trod_struct underlying28 h;have hc:prog.cellsOf 28=8:=by kernel_rfl
 have k3:prog.cellsOf 3=1:=by kernel_rfl
 have k4:prog.cellsOf 4=1:=by kernel_rfl
 have km:prog.cellsOf 26=1:=by kernel_rfl
 rw [hc]at hl;match cs,hl,xs,hlen with
 | [c0,c1,c2,c3,c4,c5,c6,c7],_,[y0,y1,y2,y3,y4,y5,y6,y7],_ =>
   have g0:=hf 0 _ rfl;have g1:=hf 1 _ rfl;have g2:=hf 2 _ rfl;have g3:=hf 3 _ rfl;have g4:=hf 4 _ rfl;have g5:=hf 5 _ rfl;have g6:=hf 6 _ rfl;have g7:=hf 7 _ rfl;simp [k3,k4,km]at g0 g1 g2 g3 g4 g5 g6 g7;obtain⟨u,e0,-,h0⟩:=DataW.trod_int underlying3 g0;obtain⟨p,e1,-,h1⟩:=DataW.trod_int underlying3 g1;obtain⟨f,e2,-,h2⟩:=DataW.trod_int underlying3 g2;obtain⟨b,e3,-,h3⟩:=DataW.trod_int underlying3 g3;obtain⟨m,e4,-,h4⟩:=DataW.trod_int underlying26 g4;obtain⟨s,e5,-,h5⟩:=DataW.trod_int underlying3 g5;obtain⟨rv,e6,-,h6⟩:=DataW.trod_int underlying3 g6;obtain⟨nw,e7,-⟩:=DataW.trod_bool underlying4 g7;simp at e0 e1 e2 e3 e4 e5 e6 e7;subst e0 e1 e2 e3 e4 e5 e6 e7;exact⟨u,p,f,b,m,s,rv,nw,rfl,h0,h1,h2,h3,h4,h5,h6⟩
theorem open_pc{r:Reach}{b0:Nat}{v:Value}{d:DataW H}{p:List MemPlace}(hv:Value.okWide prog w r b0 25 v)(h:DataW.Trod enc prog w base (fun _=>true) held 25 v d p) :
 ∃ B c k lm hv,v= .agg #[.int .i64 B,.int .i64 c,.int .i64 k,.int .i64 lm,.int .i64 hv]/\(Lit.int .i64 B).wf=true/\(Lit.int .i64 c).wf=true/\(Lit.int .i64 k).wf=true/\(Lit.int .i64 lm).wf=true/\(Lit.int .i64 hv).wf=true:=by
 obtain⟨cs,rfl,hsz⟩:=okWide_struct underlying25 hv;obtain⟨fuel,hf⟩:=h;obtain⟨B,c,k,lm,hv,ha,hok⟩:=trod_pc hf;refine⟨B,c,k,lm,hv,?_,hok⟩;show Value.agg cs=Value.agg [.int .i64 B,.int .i64 c,.int .i64 k,.int .i64 lm,.int .i64 hv].toArray;rw [<- ha];simp [Value.cells]
theorem open_gt{r:Reach}{b0:Nat}{v:Value}{d:DataW H}{p:List MemPlace}(hv:Value.okWide prog w r b0 28 v)(h:DataW.Trod enc prog w base (fun _=>true) held 28 v d p) :
 ∃ u p f b m s rv nw,v= .agg #[.int .i64 u,.int .i64 p,.int .i64 f,.int .i64 b,.int .i64 m,.int .i64 s,.int .i64 rv,.bool nw]/\((Lit.int .i64 u).wf=true/\(Lit.int .i64 p).wf=true/\(Lit.int .i64 f).wf=true/\(Lit.int .i64 b).wf=true/\(Lit.int .i64 m).wf=true/\(Lit.int .i64 s).wf=true/\(Lit.int .i64 rv).wf=true):=by
 obtain⟨cs,rfl,hsz⟩:=okWide_struct underlying28 hv;obtain⟨fuel,hf⟩:=h;obtain⟨u,p,f,b,m,s,rv,nw,ha,hok⟩:=trod_gt hf;refine⟨u,p,f,b,m,s,rv,nw,?_,hok⟩;show Value.agg cs=Value.agg [.int .i64 u,.int .i64 p,.int .i64 f,.int .i64 b,.int .i64 m,.int .i64 s,.int .i64 rv,.bool nw].toArray;rw [<- ha];simp [Value.cells]
end
end Go.Proofs.YthmhogdceolkdaaGreat
namespace Go.Proofs.YthmhogdceolkdaaGreat.Cr
open Tryz
open Go.RowKit
attribute [local go_sem] Oper.semAt_some
set_option maxRecDepth 100000
set_option maxHeartbeats 8000000
theorem pnone_any(B c k lm hv sf u p f b m s rv:Int)(nw zr:Bool)(w:World):Calls prog 5 #[.agg #[.int .i64 B,.int .i64 c,.int .i64 k,.int .i64 lm,.int .i64 hv],.int .i64 sf,.agg #[.int .i64 u,.int .i64 p,.int .i64 f,.int .i64 b,.int .i64 m,.int .i64 s,.int .i64 rv,.bool nw],.bool zr] w fun e w'=>e= .returned (.bool true)/\Below w.heap.size w w':=by
 cases zr with
 | false =>
   have HC0:Hid (Blk ((w.alloc (.cells #[.int .i64 B,.int .i64 c,.int .i64 k,.int .i64 lm,.int .i64 hv] 25)).alloc (.cells #[.int .i64 u,.int .i64 p,.int .i64 f,.int .i64 b,.int .i64 m,.int .i64 s,.int .i64 rv,.bool nw] 28)) w.heap.size 25 (c5 B c k lm hv)):=aq ((Blk.new w [.int .i64 B,.int .i64 c,.int .i64 k,.int .i64 lm,.int .i64 hv] 25 rfl).alloc _);have HG0:Hid (Blk ((w.alloc (.cells #[.int .i64 B,.int .i64 c,.int .i64 k,.int .i64 lm,.int .i64 hv] 25)).alloc (.cells #[.int .i64 u,.int .i64 p,.int .i64 f,.int .i64 b,.int .i64 m,.int .i64 s,.int .i64 rv,.bool nw] 28)) (w.heap.size+1) 28 (c8 u p f b m s rv nw)):=aq (Blk.new _ [.int .i64 u,.int .i64 p,.int .i64 f,.int .i64 b,.int .i64 m,.int .i64 s,.int .i64 rv,.bool nw] 28 (by simp));have HB0:=aq (bal (bal (Below.refl w.heap.size w) (.cells #[.int .i64 B,.int .i64 c,.int .i64 k,.int .i64 lm,.int .i64 hv] 25)) (.cells #[.int .i64 u,.int .i64 p,.int .i64 f,.int .i64 b,.int .i64 m,.int .i64 s,.int .i64 rv,.bool nw] 28));go_enter func5,ntmps5;go_wp2_with fail;obtain⟨CB,hCB⟩:∃ x,x=w.heap.size:=⟨_,rfl⟩
   obtain⟨GB,hGB⟩:∃ x,x=w.heap.size+1:=⟨_,rfl⟩
   rw [<- hGB]at HG0 ⊢;rw [<- hCB]at HC0 ⊢;clear hCB hGB;generalize ((w.alloc (.cells #[.int .i64 B,.int .i64 c,.int .i64 k,.int .i64 lm,.int .i64 hv] 25)).alloc (.cells #[.int .i64 u,.int .i64 p,.int .i64 f,.int .i64 b,.int .i64 m,.int .i64 s,.int .i64 rv,.bool nw] 28))=w0 at *
   go_wp2_with (first
    | (refine ldrow (cs:=[.int .i64 B,.int .i64 c,.int .i64 k,.int .i64 lm,.int .i64 hv]) rfl 25 (.tmp 4) rfl rfl HC0.o _ underlying25 rfl (by rw [infoPC];rfl) ?_)
    | (refine ldrow (cs:=[.int .i64 u,.int .i64 p,.int .i64 f,.int .i64 b,.int .i64 m,.int .i64 s,.int .i64 rv,.bool nw]) rfl 28 (.tmp 6) rfl rfl HG0.o _ underlying28 rfl (by rw [infoGT];rfl) ?_)
    | fail)
   refine(recv_bad B c k lm hv sf u p f b m s rv 1 nw none w0 (fun W _=>inside_nil B c k lm hv W)).mono ?_;rintro e w1 ⟨rfl,hwx⟩;have HC1:=aq (HC0.o.below hwx);have HG1:=aq (HG0.o.below hwx);have HB1:=aq (HB0.o.trans (hwx.mono HB0.o.size));skip;clear hwx HC0 HG0 HB0;dsimp only
   go_wp2_with (first
    | (refine ldrow (cs:=[.int .i64 B,.int .i64 c,.int .i64 k,.int .i64 lm,.int .i64 hv]) rfl 25 (.tmp 4) rfl rfl HC1.o _ underlying25 rfl (by rw [infoPC];rfl) ?_)
    | (refine ldrow (cs:=[.int .i64 u,.int .i64 p,.int .i64 f,.int .i64 b,.int .i64 m,.int .i64 s,.int .i64 rv,.bool nw]) rfl 28 (.tmp 6) rfl rfl HG1.o _ underlying28 rfl (by rw [infoGT];rfl) ?_)
    | fail)
   refine(send_bad B c k lm hv sf u p f b m s rv 1 nw none none 0 0 w1 (fun W _=>inside_nil B c k lm hv W)).mono ?_;rintro e w2 ⟨rfl,hwx⟩;have HB2:=aq (HB1.o.trans (hwx.mono HB1.o.size));clear hwx HC1 HG1 HB1;dsimp only;go_wp2_with fail;refine(num_any _ _).mono ?_;rintro e wa ⟨rfl,rfl⟩;dsimp only;go_wp2_with fail;refine(num_any _ _).mono ?_;rintro e wb ⟨rfl,rfl⟩;dsimp only;go_wp2_with fail;refine(works_any _).mono ?_;rintro e wc ⟨rfl,hwx⟩;have HB3:=aq (HB2.o.trans (hwx.mono HB2.o.size));clear hwx;dsimp only;go_wp2;go_ret;exact⟨rfl,HB3.o⟩
 | true =>
   have HC0:Hid (Blk (((w.alloc (.cells #[.int .i64 B,.int .i64 c,.int .i64 k,.int .i64 lm,.int .i64 hv] 25)).alloc (.cells #[.int .i64 u,.int .i64 p,.int .i64 f,.int .i64 b,.int .i64 m,.int .i64 s,.int .i64 rv,.bool nw] 28)).alloc (.cells #[.int .i64 0,.int .i64 0,.int .i64 0,.slice none 0 0] 66)) w.heap.size 25 (c5 B c k lm hv)):=aq (((Blk.new w [.int .i64 B,.int .i64 c,.int .i64 k,.int .i64 lm,.int .i64 hv] 25 rfl).alloc _).alloc _);have HG0:Hid (Blk (((w.alloc (.cells #[.int .i64 B,.int .i64 c,.int .i64 k,.int .i64 lm,.int .i64 hv] 25)).alloc (.cells #[.int .i64 u,.int .i64 p,.int .i64 f,.int .i64 b,.int .i64 m,.int .i64 s,.int .i64 rv,.bool nw] 28)).alloc (.cells #[.int .i64 0,.int .i64 0,.int .i64 0,.slice none 0 0] 66)) (w.heap.size+1) 28 (c8 u p f b m s rv nw)):=aq ((Blk.new _ [.int .i64 u,.int .i64 p,.int .i64 f,.int .i64 b,.int .i64 m,.int .i64 s,.int .i64 rv,.bool nw] 28 (by simp)).alloc _);have HB0:=aq (bal (bal (Below.refl w.heap.size w) (.cells #[.int .i64 B,.int .i64 c,.int .i64 k,.int .i64 lm,.int .i64 hv] 25)) (.cells #[.int .i64 u,.int .i64 p,.int .i64 f,.int .i64 b,.int .i64 m,.int .i64 s,.int .i64 rv,.bool nw] 28));have HP0:Hid (Blk (((w.alloc (.cells #[.int .i64 B,.int .i64 c,.int .i64 k,.int .i64 lm,.int .i64 hv] 25)).alloc (.cells #[.int .i64 u,.int .i64 p,.int .i64 f,.int .i64 b,.int .i64 m,.int .i64 s,.int .i64 rv,.bool nw] 28)).alloc (.cells #[.int .i64 0,.int .i64 0,.int .i64 0,.slice none 0 0] 66)) (w.heap.size+1+1) 66 [.int .i64 0,.int .i64 0,.int .i64 0,.slice none 0 0]):=aq (Blk.new _ [.int .i64 0,.int .i64 0,.int .i64 0,.slice none 0 0] 66 (by simp));have HB0:=aq (bal HB0.o (.cells #[.int .i64 0,.int .i64 0,.int .i64 0,.slice none 0 0] 66));go_enter func5,ntmps5;go_wp2_with fail;obtain⟨CB,hCB⟩:∃ x,x=w.heap.size:=⟨_,rfl⟩
   obtain⟨GB,hGB⟩:∃ x,x=w.heap.size+1:=⟨_,rfl⟩
   obtain⟨PB,hPB⟩:∃ x,x=w.heap.size+1+1:=⟨_,rfl⟩
   rw [<- hPB]at HP0 ⊢;rw [<- hGB]at HG0 ⊢;rw [<- hCB]at HC0 ⊢;clear hCB hGB hPB;generalize (((w.alloc (.cells #[.int .i64 B,.int .i64 c,.int .i64 k,.int .i64 lm,.int .i64 hv] 25)).alloc (.cells #[.int .i64 u,.int .i64 p,.int .i64 f,.int .i64 b,.int .i64 m,.int .i64 s,.int .i64 rv,.bool nw] 28)).alloc (.cells #[.int .i64 0,.int .i64 0,.int .i64 0,.slice none 0 0] 66))=w0 at *
   go_wp2_with (first
    | (refine ldrow (cs:=[.int .i64 B,.int .i64 c,.int .i64 k,.int .i64 lm,.int .i64 hv]) rfl 25 (.tmp 4) rfl rfl HC0.o _ underlying25 rfl (by rw [infoPC];rfl) ?_)
    | (refine ldrow (cs:=[.int .i64 u,.int .i64 p,.int .i64 f,.int .i64 b,.int .i64 m,.int .i64 s,.int .i64 rv,.bool nw]) rfl 28 (.tmp 6) rfl rfl HG0.o _ underlying28 rfl (by rw [infoGT];rfl) ?_)
    | fail)
   refine(recv_bad B c k lm hv sf u p f b m s rv 1 nw (some ⟨PB,0,none⟩) w0 (fun W hW=>inside_zero B c k lm hv PB 0 _ _ _ none W (HP0.o.below hW))).mono ?_;rintro e w1 ⟨rfl,hwx⟩;have HC1:=aq (HC0.o.below hwx);have HG1:=aq (HG0.o.below hwx);have HB1:=aq (HB0.o.trans (hwx.mono HB0.o.size));have HP1:=aq (HP0.o.below hwx);clear hwx HC0 HG0 HB0 HP0;dsimp only
   go_wp2_with (first
    | (refine ldrow (cs:=[.int .i64 B,.int .i64 c,.int .i64 k,.int .i64 lm,.int .i64 hv]) rfl 25 (.tmp 4) rfl rfl HC1.o _ underlying25 rfl (by rw [infoPC];rfl) ?_)
    | (refine ldrow (cs:=[.int .i64 u,.int .i64 p,.int .i64 f,.int .i64 b,.int .i64 m,.int .i64 s,.int .i64 rv,.bool nw]) rfl 28 (.tmp 6) rfl rfl HG1.o _ underlying28 rfl (by rw [infoGT];rfl) ?_)
    | fail)
   refine(send_bad B c k lm hv sf u p f b m s rv 1 nw (some ⟨PB,0,none⟩) none 0 0 w1 (fun W hW=>inside_zero B c k lm hv PB 0 _ _ _ none W (HP1.o.below hW))).mono ?_;rintro e w2 ⟨rfl,hwx⟩;have HB2:=aq (HB1.o.trans (hwx.mono HB1.o.size));clear hwx HC1 HG1 HB1 HP1;dsimp only;go_wp2_with fail;refine(num_any _ _).mono ?_;rintro e wa ⟨rfl,rfl⟩;dsimp only;go_wp2_with fail;refine(num_any _ _).mono ?_;rintro e wb ⟨rfl,rfl⟩;dsimp only;go_wp2_with fail;refine(works_any _).mono ?_;rintro e wc ⟨rfl,hwx⟩;have HB3:=aq (HB2.o.trans (hwx.mono HB2.o.size));clear hwx;dsimp only;go_wp2;go_ret;exact⟨rfl,HB3.o⟩
end Go.Proofs.YthmhogdceolkdaaGreat.Cr