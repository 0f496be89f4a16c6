/- Bundle. Conditions: none. -/
import Derived.Test.YthmhogdceolkdaaGreatBqai
import Derived.Deep.RegionHeld3
import Derived.Test.YthmhogdceolkdaaGreatBqag
import Derived.Test.YthmhogdceolkdaaGreatBqah
import Derived.Laws.BytesArg
set_option linter.unusedVariables false
set_option linter.unusedSimpArgs false
namespace Go.Proofs.YthmhogdceolkdaaGreat
open Tryz
open Go.RowKit
set_option maxRecDepth 100000
set_option maxHeartbeats 1000000
def Ob.vX(o:Ob)(i bit:Nat)(f g:List Int)(x:Br):Int:=if x.bt=bit/\gi f x.fr≠UU/\gi g x.tt≠UU then gi f x.fr+o.term i x+gi g x.tt else UU
structure Cap (W:World) (p1 p2 p3 p4 p5:Nat) (bit i:Nat) (f g:List Int) (bo bb:Nat):Prop where
 c1:Blk W p1 3 [.int .i64 (bit:Int)]
 c2:Blk W p2 346 (ints8 f)
 c3:Blk W p3 346 (ints8 g)
 c4:Blk W p4 343 [.pointer (some ⟨bo,0,none⟩),.slice (some ⟨bb,0,none⟩) 16 16]
 c5:Blk W p5 3 [.int .i64 (i:Int)]
theorem Cap.below{W W':World}{p1 p2 p3 p4 p5:Nat}{bit i:Nat}{f g:List Int}{bo bb:Nat}(h:Cap W p1 p2 p3 p4 p5 bit i f g bo bb)(hB:Below W.heap.size W W'):Cap W' p1 p2 p3 p4 p5 bit i f g bo bb:=⟨h.c1.below hB,h.c2.below hB,h.c3.below hB,h.c4.below hB,h.c5.below hB⟩
def InS(b9 p2 p3 p4 p5 bo:Nat)(fr bt pr tt i:Nat)(vf vg:Int)(W:World):Prop :=
 W.cell? ⟨b9,0,none⟩=some (.int .i64 (fr:Int))/\W.cell? ⟨b9,1,none⟩=some (.int .i64 (bt:Int))/\W.cell? ⟨b9,2,none⟩=some (.int .i64 (pr:Int))/\W.cell? ⟨b9,3,none⟩=some (.int .i64 (tt:Int)) /\
  W.cell? ⟨p2,fr,none⟩=some (.int .i64 vf)/\W.cell? ⟨p3,tt,none⟩=some (.int .i64 vg)/\W.cell? ⟨p4,0,none⟩=some (.pointer (some ⟨bo,0,none⟩))/\W.cell? ⟨p5,0,none⟩=some (.int .i64 (i:Int))
theorem inner_any(p1 p2 p3 p4 p5 bo bb bit:Nat)(o:Ob)(S P A:Option Addr)(cs cp ca i:Nat)(f g:List Int)(b:Br)(B:Int)(w:World)(hc:Cap w p1 p2 p3 p4 p5 bit i f g bo bb)(h:SwAt w bo bb o S P A cs cp ca)(ho:o.ok)(hi:i<o.s.length)(hf:Met B f)(hg:Met B g)(hB:B<=50000000)(h0:0<=B)(hb:b ∈ brT) :
 Calls prog 338 #[brA b,.pointer (some ⟨p1,0,none⟩),.pointer (some ⟨p2,0,none⟩),.pointer (some ⟨p3,0,none⟩),.pointer (some ⟨p4,0,none⟩),.pointer (some ⟨p5,0,none⟩)] w fun e w'=>e= .returned (.int .i64 (o.vX i bit f g b))/\Below w.heap.size w w':=by
 obtain⟨b1,b2,b3,b4⟩:=br_bd b hb;have hal:Below w.heap.size w (w.alloc (.cells (brV b).toArray 318)):=(Below.refl _ w).alloc (Nat.le_refl _) _;have h':=hc.below hal;have hb9:Blk (w.alloc (.cells (brV b).toArray 318)) w.heap.size 318 (brV b):=Blk.new w (brV b) 318 rfl;have x0:=hb9.cell (j:=0) (v:=.int .i64 (b.fr:Int)) rfl;have x1:=hb9.cell (j:=1) (v:=.int .i64 (b.bt:Int)) rfl;have x2:=hb9.cell (j:=2) (v:=.int .i64 (b.pr:Int)) rfl;have x3:=hb9.cell (j:=3) (v:=.int .i64 (b.tt:Int)) rfl;have x4:=h'.c2.icell (j:=b.fr) (by have:=hf.len;omega);have x5:=h'.c3.icell (j:=b.tt) (by have:=hg.len;omega);have x6:=h'.c4.cell (j:=0) (v:=.pointer (some ⟨bo,0,none⟩)) rfl;have x7:=h'.c5.cell (j:=0) (v:=.int .i64 (i:Int)) rfl;have x8:=h'.c1.cell (j:=0) (v:=.int .i64 (bit:Int)) rfl;have HS:Hid (∀ W:World,Below (w.alloc (.cells (brV b).toArray 318)).heap.size (w.alloc (.cells (brV b).toArray 318)) W->InS w.heap.size p2 p3 p4 p5 bo b.fr b.bt b.pr b.tt i (gi f b.fr) (gi g b.tt) W):=aq fun W hW =>
  have h9:=hb9.below hW;have hc:=h'.below hW;⟨h9.cell rfl,h9.cell rfl,h9.cell rfl,h9.cell rfl,hc.c2.icell (by have:=hf.len;omega),hc.c3.icell (by have:=hg.len;omega),hc.c4.cell rfl,hc.c5.cell rfl⟩
 have HAL:=aq hal;have HSW:=aq (h.below hal);have hbd:=ho;have HBD:=aq (o.term_bd ho i hi b hb);clear hbd;unfold Ob.vX;have HH:=aq h;have HO:=aq ho;have hfb:=hf.bd b.fr b1;have hgb:=hg.bd b.tt b4;rw [UU_eq]at hfb hgb;have HMEM:=aq hb;have hbb:(brV b).toArray=#[.int .i64 (b.fr:Int),.int .i64 (b.bt:Int),.int .i64 (b.pr:Int),.int .i64 (b.tt:Int)]:=rfl;rw [hbb]at x0 x1 x2 x3 x4 x5 x6 x7 x8 hal;clear h' hb9 hc h ho hf hg hb hbb;unfold brA;by_cases e1:b.bt=bit
 . have f1:((b.bt:Int) != (bit:Int))=false:=bne_f (by omega)
   by_cases e2:gi f b.fr=UU
   . have f2:(gi f b.fr == -1125899906842624)=true:=beq_t (by rw [e2,UU_eq])
     rw [if_neg (fun h=>h.2.1 e2)];clear e1 e2;go_enter func338,ntmps338;go_wp2;go_ret;exact⟨rfl,hal⟩
   . have f2:(gi f b.fr == -1125899906842624)=false:=beq_f (by rw [<- UU_eq];exact e2)
     by_cases e3:gi g b.tt=UU
     . have f3:(gi g b.tt == -1125899906842624)=true:=beq_t (by rw [e3,UU_eq])
       rw [if_neg (fun h=>h.2.2 e3)];clear e1 e2 e3;go_enter func338,ntmps338;go_wp2;go_ret;exact⟨rfl,hal⟩
     . have f3:(gi g b.tt == -1125899906842624)=false:=beq_f (by rw [<- UU_eq];exact e3)
       rw [if_pos ⟨e1,e2,e3⟩];rw [UU_eq]at e2 e3;have hfb:=hfb.resolve_left e2;have hgb:=hgb.resolve_left e3;clear e1 e2 e3;have hbd:=HBD.o;have hw1:IntKind.i64.wrap (gi f b.fr+o.term i b)=gi f b.fr+o.term i b:=IntWalk.i64_in _ (by omega);have hw2:IntKind.i64.wrap (gi f b.fr+o.term i b+gi g b.tt)=gi f b.fr+o.term i b+gi g b.tt:=IntWalk.i64_in _ (by omega);have HTE:=aq (term_any bo o S P A cs cp ca i b);have i1:(b.fr:Int)<8:=by omega
       have i2:(b.tt:Int)<8:=by omega
       have i3:(0:Int)<=(b.fr:Int):=by omega
       have i4:(0:Int)<=(b.tt:Int):=by omega
       clear hbd hal;go_enter func338,ntmps338;go_wp2_with fail;clear x0 x1 x2 x3 x4 x5 x6 x7 x8;obtain⟨w9,hw9⟩:∃ w9,w9=w.alloc (.cells #[.int .i64 (b.fr:Int),.int .i64 (b.bt:Int),.int .i64 (b.pr:Int),.int .i64 (b.tt:Int)] 318):=⟨_,rfl⟩
       rw [<- hw9];have HS:Hid (∀ W:World,Below w9.heap.size w9 W->InS w.heap.size p2 p3 p4 p5 bo b.fr b.bt b.pr b.tt i (gi f b.fr) (gi g b.tt) W):=by rw [hw9];exact HS
       have HAL:Hid (Below w.heap.size w w9):=by rw [hw9];exact HAL
       have HSW:Hid (SwAt w9 bo bb o S P A cs cp ca):=by rw [hw9];exact HSW
       clear hw9;have hS0:=HS.o w9.drew (Below.refl _ _).drew;clear i1 i2 i3 i4;refine wp_region_Z (InS w.heap.size p2 p3 p4 p5 bo b.fr b.bt b.pr b.tt i (gi f b.fr) (gi g b.tt)) 15 (by kernel_rfl) ?_;refine wpAnyZ_take (i:=0) (v:=.pointer (some ⟨w.heap.size,0,none⟩)) rfl (by kernel_rfl) (by kernel_rfl) (by kernel_rfl) (by kernel_rfl) (fun _ _ _ h=>h) (Or.inl ⟨by rfl,fun W hS=>by go_simp⟩) hS0 ?_;simp only [Act.put,yq0,yq1,yq2];refine wpAnyZ_take (i:=1) (v:=.int .i64 (b.fr:Int)) rfl (by kernel_rfl) (by kernel_rfl) (by kernel_rfl) (by kernel_rfl) (fun _ _ _ h=>h) (Or.inl ⟨by rfl,fun W hS=>by obtain⟨s0,s1,s2,s3,s4,s5,s6,s7⟩:=hS;go_simp⟩) hS0 ?_;simp only [Act.put,yq0,yq1,yq2];refine wpAnyZ_take (i:=2) (v:=.pointer (some ⟨p2,b.fr,none⟩)) rfl (by kernel_rfl) (by kernel_rfl) (by kernel_rfl) (by kernel_rfl) (fun _ _ _ h=>h) (Or.inl ⟨by rfl,fun W hS=>by go_simp;intro h9;omega⟩) hS0 ?_;simp only [Act.put,yq0,yq1,yq2];refine wpAnyZ_take (i:=3) (v:=.int .i64 (gi f b.fr)) rfl (by kernel_rfl) (by kernel_rfl) (by kernel_rfl) (by kernel_rfl) (fun _ _ _ h=>h) (Or.inl ⟨by rfl,fun W hS=>by obtain⟨s0,s1,s2,s3,s4,s5,s6,s7⟩:=hS;go_simp⟩) hS0 ?_;simp only [Act.put,yq0,yq1,yq2];refine wpAnyZ_take (i:=4) (v:=.pointer (some ⟨p4,0,none⟩)) rfl (by kernel_rfl) (by kernel_rfl) (by kernel_rfl) (by kernel_rfl) (fun _ _ _ h=>h) (Or.inl ⟨by rfl,fun W hS=>by go_simp⟩) hS0 ?_;simp only [Act.put,yq0,yq1,yq2];refine wpAnyZ_take (i:=5) (v:=.pointer (some ⟨bo,0,none⟩)) rfl (by kernel_rfl) (by kernel_rfl) (by kernel_rfl) (by kernel_rfl) (fun _ _ _ h=>h) (Or.inl ⟨by rfl,fun W hS=>by obtain⟨s0,s1,s2,s3,s4,s5,s6,s7⟩:=hS;go_simp⟩) hS0 ?_;simp only [Act.put,yq0,yq1,yq2];refine wpAnyZ_take (i:=6) (v:=.int .i64 (i:Int)) rfl (by kernel_rfl) (by kernel_rfl) (by kernel_rfl) (by kernel_rfl) (fun _ _ _ h=>h) (Or.inl ⟨by rfl,fun W hS=>by obtain⟨s0,s1,s2,s3,s4,s5,s6,s7⟩:=hS;go_simp⟩) hS0 ?_;simp only [Act.put,yq0,yq1,yq2];refine wpAnyZ_take (i:=7) (v:=brA b) rfl (by kernel_rfl) (by kernel_rfl) (by kernel_rfl) (by kernel_rfl) (fun _ _ _ h=>h) (Or.inl ⟨by rfl,fun W hS=>by obtain⟨s0,s1,s2,s3,s4,s5,s6,s7⟩:=hS;unfold brA;go_simp⟩) hS0 ?_;simp only [Act.put,yq0,yq1,yq2];refine wpAnyZ_take (i:=10) (v:=.pointer (some ⟨w.heap.size,3,none⟩)) rfl (by kernel_rfl) (by kernel_rfl) (by kernel_rfl) (by kernel_rfl) (fun _ _ _ h=>h) (Or.inl ⟨by rfl,fun W hS=>by go_simp⟩) hS0 ?_;simp only [Act.put,yq0,yq1,yq2];refine wpAnyZ_take (i:=11) (v:=.int .i64 (b.tt:Int)) rfl (by kernel_rfl) (by kernel_rfl) (by kernel_rfl) (by kernel_rfl) (fun _ _ _ h=>h) (Or.inl ⟨by rfl,fun W hS=>by obtain⟨s0,s1,s2,s3,s4,s5,s6,s7⟩:=hS;go_simp⟩) hS0 ?_;simp only [Act.put,yq0,yq1,yq2];refine wpAnyZ_take (i:=12) (v:=.pointer (some ⟨p3,b.tt,none⟩)) rfl (by kernel_rfl) (by kernel_rfl) (by kernel_rfl) (by kernel_rfl) (fun _ _ _ h=>h) (Or.inl ⟨by rfl,fun W hS=>by go_simp;intro h9;omega⟩) hS0 ?_;simp only [Act.put,yq0,yq1,yq2];refine wpAnyZ_take (i:=13) (v:=.int .i64 (gi g b.tt)) rfl (by kernel_rfl) (by kernel_rfl) (by kernel_rfl) (by kernel_rfl) (fun _ _ _ h=>h) (Or.inl ⟨by rfl,fun W hS=>by obtain⟨s0,s1,s2,s3,s4,s5,s6,s7⟩:=hS;go_simp⟩) hS0 ?_;simp only [Act.put,yq0,yq1,yq2];refine wpAnyZ_one (i:=8) rfl (by kernel_rfl) rfl (fun K hK=>?_);go_simp;refine(HTE.o _ (HSW.o.o.below (Below.refl _ _).drew) HMEM.o HO.o hi).mono ?_;rintro e w4 ⟨rfl,hB4⟩;have hb4:Below w9.heap.size w9 w4:=(Below.refl _ w9).drew.trans hB4;have HB4:=aq hb4;have HS4:=aq (HS.o _ hb4);clear hB4 hb4 hS0;generalize htm:o.term i b=tm at *;have HTM:=aq htm;clear htm;go_wp2_with fail;refine hK _ _ (fun _=>HS4.o) ?_;clear hK K;refine wpAnyZ_one (i:=9) rfl (by kernel_rfl) rfl (fun K hK=>?_);go_simp;refine hK _ _ (fun _=>HS4.o) ?_;clear hK K;refine wpAnyZ_one (i:=14) rfl (by kernel_rfl) rfl (fun K hK=>?_);go_simp;refine hK _ _ (fun _=>HS4.o) ?_;clear hK K;refine wpAnyZ_one (i:=15) rfl (by kernel_rfl) rfl (fun K hK=>?_);go_simp;refine hK _ _ (fun h=>absurd rfl h) ?_;clear hK K;refine wpAnyZ_done (by kernel_rfl) ?_ _;go_wp2;go_ret;refine⟨ret_int ?_,HAL.o.trans (HB4.o.mono HAL.o.size)⟩;rw [HTM.o]
 . have f1:((b.bt:Int) != (bit:Int))=true:=bne_t (by omega)
   rw [if_neg (fun h=>e1 h.1)];clear e1;go_enter func338,ntmps338;go_wp2;go_ret;exact⟨rfl,hal⟩
def gN(o:Ob)(i bit:Nat)(f g:List Int)(j:Nat):Int:=(brT.take j).foldl (fun best x=>max best (o.vX i bit f g x)) UU
theorem gN_succ(o:Ob)(i bit:Nat)(f g:List Int)(j:Nat)(hj:j<16):gN o i bit f g (j+1)=max (gN o i bit f g j) (o.vX i bit f g (brN j)):=by
 unfold gN;rw [br_take j hj,List.foldl_append];rfl
theorem vX_bd{o:Ob}(h:o.ok)(i bit:Nat)(hi:i<o.s.length){B:Int}{f g:List Int}(hf:Met B f)(hg:Met B g)(b:Br)(hb:b ∈ brT):o.vX i bit f g b=UU\/(-(2*B+381)<=o.vX i bit f g b/\o.vX i bit f g b<=2*B+381):=by
 unfold Ob.vX;split
 . rename_i hc
   obtain⟨b1,-,-,b4⟩:=br_bd b hb;have h1:=(hf.bd _ b1).resolve_left hc.2.1;have h2:=(hg.bd _ b4).resolve_left hc.2.2;have h3:=o.term_bd h i hi b hb;right;omega
 . exact .inl rfl
theorem gN_bd{o:Ob}(h:o.ok)(i bit:Nat)(hi:i<o.s.length){B:Int}(h0:0<=B)(hB:B<=50000000){f g:List Int}(hf:Met B f)(hg:Met B g):∀ j,j<=16->gN o i bit f g j=UU\/(-(2*B+381)<=gN o i bit f g j/\gN o i bit f g j<=2*B+381)
 | 0,_=>.inl rfl
 | j+1,hj=>by
   rw [gN_succ o i bit f g j (by omega)];have h1:=gN_bd h i bit hi h0 hB hf hg j (by omega);have h2:=vX_bd h i bit hi hf hg (brN j) (brN_mem j (by omega));rw [UU_eq]at h1 h2 ⊢;omega
def GrInv(o:Ob)(i bit:Nat)(f g:List Int)(w:World)(v kd:Value)(wr:World):Prop:=∃ j:Nat,j<=16/\kd= .int .i64 j/\v= .int .i64 (gN o i bit f g j)/\Below w.heap.size w wr
theorem greatest_any(p1 p2 p3 p4 p5 bo bb bit:Nat)(o:Ob)(S P A:Option Addr)(cs cp ca i:Nat)(f g:List Int)(B:Int)(w:World)(hc:Cap w p1 p2 p3 p4 p5 bit i f g bo bb)(h:SwAt w bo bb o S P A cs cp ca)(ho:o.ok)(hi:i<o.s.length)(hf:Met B f)(hg:Met B g)(hB:B<=50000000)(h0:0<=B) :
 Calls prog 337 #[.slice (some ⟨bb,0,none⟩) 16 16,.func (.func 338) #[] #[.pointer (some ⟨p1,0,none⟩),.pointer (some ⟨p2,0,none⟩),.pointer (some ⟨p3,0,none⟩),.pointer (some ⟨p4,0,none⟩),.pointer (some ⟨p5,0,none⟩)]] w fun e w'=>e= .returned (.int .i64 (gN o i bit f g 16))/\Below w.heap.size w w':=by
 have HC:=aq hc;have HSW:=aq h;have HIN:=aq (fun b W hc h hb=>inner_any p1 p2 p3 p4 p5 bo bb bit o S P A cs cp ca i f g b B W hc h ho hi hf hg hB h0 hb);clear hc h ho hf hg;go_enter func337,ntmps337;go_wp2;go_loopw [5,10] (fun v kd wr=>GrInv o i bit f g w v kd wr) (fun _ kd _=>16 - (intOf kd).toNat)
 case atStart=>exact⟨0,by omega,rfl,rfl,Below.refl _ _⟩
 case round =>
  obtain⟨j,hj,rfl,rfl,hB1⟩:=hrel;by_cases hlt:j<16
  . have sw:=HSW.o.below hB1
    have hix:=fun W=>ix60 bb 16 16 hlt .i64 W;have hmem:=brN_mem j hlt;have hcl:=br_cells sw.b j hlt;have hb9:Blk (wr.alloc (.cells (zer 4).toArray 318)) wr.heap.size 318 (zer 4):=Blk.new wr _ 318 rfl;have HNX:=aq (gN_succ o i bit f g j hlt);generalize gN o i bit f g j=nx at *;generalize brN j=b at *;have HSW':=aq sw;have HB1:=aq hB1;clear sw hB1
    go_wp2_with (first
     | (refine wpList_load_mid rfl 318 (.tmp 12) rfl bb (4*j) rfl (brV b) _ hcl underlying318 rfl (by rw [info77];rfl) ?_)
     | (refine strow rfl 318 (.tmp 7) (.tmp 13) rfl rfl rfl hb9 rfl (by rw [info77];rfl) (ints8_one _) ?_;intro W2 h1 h2;have h77:=h1;have H1:=aq h1;have H2:=aq h2;clear h1 h2 hb9 hcl)
     | (refine ldrow rfl 318 (.tmp 7) rfl rfl h77 _ underlying318 rfl (by rw [info77];rfl) ?_))
    have hB2:Below wr.heap.size wr W2:=((Below.refl _ wr).alloc (Nat.le_refl _) _).grown H2.o (by simp) (fun k hk=>by cases hk;exact Nat.le_refl _);refine(HIN.o b _ ((HC.o.below HB1.o).below hB2) (HSW'.o.below hB2) hmem).mono ?_;rintro e w3 ⟨rfl,hB3⟩;have HB3:=aq (HB1.o.trans ((hB2.trans (hB3.mono hB2.size)).mono HB1.o.size));clear hB2 hB3 h77;generalize o.vX i bit f g b=vx at *;go_wp2;go_roundw
    case rel=>exact⟨j+1,by omega,by go_num,by rw [max_if,HNX.o],HB3.o⟩
    case measure=>simp [intOf];omega
  . obtain rfl:j=16:=by omega
    go_wp2;go_ret;exact⟨rfl,hB1⟩
theorem value_any(p2 p3 p4 p5 bo bb bit:Nat)(o:Ob)(S P A:Option Addr)(cs cp ca i:Nat)(f g:List Int)(B:Int)(w:World)(c2:Blk w p2 346 (ints8 f))(c3:Blk w p3 346 (ints8 g))(c4:Blk w p4 343 [.pointer (some ⟨bo,0,none⟩),.slice (some ⟨bb,0,none⟩) 16 16])(c5:Blk w p5 3 [.int .i64 (i:Int)])(h:SwAt w bo bb o S P A cs cp ca)(ho:o.ok)(hi:i<o.s.length)(hf:Met B f)(hg:Met B g)(hB:B<=50000000)(h0:0<=B) :
 Calls prog 336 #[.int .i64 (bit:Int),.pointer (some ⟨p4,0,none⟩),.pointer (some ⟨p2,0,none⟩),.pointer (some ⟨p3,0,none⟩),.pointer (some ⟨p5,0,none⟩)] w fun e w'=>e= .returned (.int .i64 (gN o i bit f g 16))/\Below w.heap.size w w':=by
 have hb:Blk (w.alloc (.cells #[.int .i64 (bit:Int)] 3)) w.heap.size 3 [.int .i64 (bit:Int)]:=Blk.new w [.int .i64 (bit:Int)] 3 rfl;have hcap:Cap (w.alloc (.cells #[.int .i64 (bit:Int)] 3)) w.heap.size p2 p3 p4 p5 bit i f g bo bb:=⟨hb,c2.alloc _,c3.alloc _,c4.alloc _,c5.alloc _⟩
 have hk:=hcap.c4.cell (j:=1) (v:=.slice (some ⟨bb,0,none⟩) 16 16) rfl;have HG:=aq (greatest_any w.heap.size p2 p3 p4 p5 bo bb bit o S P A cs cp ca i f g B _ hcap (h.alloc _) ho hi hf hg hB h0);clear hb hcap c2 c3 c4 c5 h ho hf hg;go_enter func336,ntmps336;go_wp2_with fail;refine HG.o.mono ?_;rintro e w1 ⟨rfl,hB1⟩;go_wp2;go_ret;exact⟨rfl,((Below.refl _ w).alloc (Nat.le_refl _) _).trans (hB1.mono (by simp))⟩
theorem total_any(bo bb:Nat)(o:Ob)(S P A:Option Addr)(cs cp ca i:Nat)(f g:List Int)(B:Int)(w:World)(h:SwAt w bo bb o S P A cs cp ca)(ho:o.ok)(hi:i<o.s.length)(hf:Met B f)(hg:Met B g)(hB:B<=50000000)(h0:0<=B) :
 Calls prog 301 #[swV bo bb,.int .i64 (i:Int),.agg (ints8 f).toArray,.agg (ints8 g).toArray] w fun e w'=>e= .returned (.int .i64 ((gN o i 0 f g 16 - gN o i 1 f g 16).tdiv 2))/\Below w.heap.size w w':=by
 obtain⟨w4,hw4⟩:∃ w4,w4=(((w.alloc (.cells #[.pointer (some ⟨bo,0,none⟩),.slice (some ⟨bb,0,none⟩) 16 16] 343)).alloc (.cells #[.int .i64 (i:Int)] 3)).alloc (.cells (ints8 f).toArray 346)).alloc (.cells (ints8 g).toArray 346):=⟨_,rfl⟩
 have c4:Blk w4 w.heap.size 343 [.pointer (some ⟨bo,0,none⟩),.slice (some ⟨bb,0,none⟩) 16 16]:=by rw [hw4];exact(((Blk.new w [.pointer (some ⟨bo,0,none⟩),.slice (some ⟨bb,0,none⟩) 16 16] 343 rfl).alloc _).alloc _).alloc _
 have c5:Blk w4 (w.heap.size+1) 3 [.int .i64 (i:Int)]:=by rw [hw4];exact((Blk.new (w.alloc _) [.int .i64 (i:Int)] 3 (by simp)).alloc _).alloc _
 have c2:Blk w4 (w.heap.size+1+1) 346 (ints8 f):=by rw [hw4];exact(Blk.new ((w.alloc _).alloc _) (ints8 f) 346 (by simp)).alloc _
 have c3:Blk w4 (w.heap.size+1+1+1) 346 (ints8 g):=by rw [hw4];exact Blk.new (((w.alloc _).alloc _).alloc _) (ints8 g) 346 (by simp)
 have sw:SwAt w4 bo bb o S P A cs cp ca:=by rw [hw4];exact(((h.alloc _).alloc _).alloc _).alloc _
 have hBw:Below w.heap.size w w4:=by rw [hw4];exact((((Below.refl _ w).alloc (Nat.le_refl _) _).alloc (by simp) _).alloc (by simp;omega) _).alloc (by simp;omega) _
 have q0:=gN_bd ho i 0 hi h0 hB hf hg 16 (Nat.le_refl _);have q1:=gN_bd ho i 1 hi h0 hB hf hg 16 (Nat.le_refl _);rw [UU_eq]at q0 q1;have HV:=aq (fun(bit:Nat) W (hW:Below w4.heap.size w4 W)=>value_any (w.heap.size+1+1) (w.heap.size+1+1+1) w.heap.size (w.heap.size+1) bo bb bit o S P A cs cp ca i f g B W (c2.below hW) (c3.below hW) (c4.below hW) (c5.below hW) (sw.below hW) ho hi hf hg hB h0);have HBW:=aq hBw;have HW4:=aq hw4;clear c2 c3 c4 c5 sw hBw hw4 h ho hf hg;unfold swV;go_enter func301,ntmps301;go_wp2_with fail;rw [<- HW4.o];refine(HV.o 0 w4 (Below.refl _ _)).mono ?_;rintro e w5 ⟨rfl,hB5⟩;have HB5:=aq hB5;clear hB5;generalize hv0:gN o i 0 f g 16=v0 at *;have HV0:=aq hv0;clear hv0;go_wp2_with fail;refine(HV.o 1 w5 HB5.o).mono ?_;rintro e w6 ⟨rfl,hB6⟩;have HB6:=aq (HBW.o.trans ((HB5.o.trans (hB6.mono HB5.o.size)).mono HBW.o.size));clear hB6;generalize hv1:gN o i 1 f g 16=v1 at *;have HV1:=aq hv1;clear hv1;go_wp2;go_ret;exact⟨ret_int (by rw [HV0.o,HV1.o]),HB6.o⟩
def SoftB(xs:List Int):Bool:=xs.all (fun v=>decide (-127<=v/\v<=127))
theorem softB_f{xs:List Int}{j:Nat}(hj:j<xs.length)(h:¬ (-127<=gi xs j/\gi xs j<=127)):SoftB xs=false:=by
 rw [Bool.eq_false_iff];intro hh;have:=all_gi.1 hh j hj;simp only [decide_eq_true_eq]at this;exact h this
theorem softB_t{xs:List Int}(h:∀ q,q<xs.length->-127<=gi xs q/\gi xs q<=127):SoftB xs=true:=all_gi.2 fun j hj=>by simpa using h j hj
theorem softB_mem{xs:List Int}(h:SoftB xs=true):∀ v ∈ xs,-127<=v/\v<=127:=fun v hv=>by simpa using List.all_eq_true.1 h v hv
theorem el106:El prog 117 51 (.slice none 0 0) 24:=⟨by kernel_rfl,by kernel_rfl,fun _=>by kernel_rfl,rfl⟩
theorem soft1_any(v:Int)(w:World):Calls prog 350 #[.int .i64 v] w fun e w'=>e= .returned (.bool (!decide (-127<=v/\v<=127)))/\w=w':=by
 by_cases h1:v < -127
 . rw [show decide (-127<=v/\v<=127)=false from by simp;omega]
   go_enter func350,ntmps350;go_wp2;go_ret;exact⟨rfl,rfl⟩
 . rw [show decide (-127<=v/\v<=127)=!decide (127<v) from by rw [Bool.eq_iff_iff];simp;omega,Bool.not_not]
   go_enter func350,ntmps350;go_wp2;go_ret;exact⟨rfl,rfl⟩
def SIdx(n:Nat)(xs:List Int)(i:Value):Prop:=∃ j:Nat,j<=n/\i= .int .i64 j/\∀ q,q<j->-127<=gi xs q/\gi xs q<=127
def SPost(b:Bool)(w:World)(e:Ending)(w':World):Prop:=∃ r:Int,e= .returned (.int .i64 r)/\(0<=r↔b=false)/\w=w'
theorem sidx_any(A:Option Addr)(n c:Nat)(xs:List Int)(w:World)(h:Rd .i64 w A n c xs) :
 Calls prog 230 #[.slice A n c,.func (.func 350) #[] #[]] w (SPost (SoftB xs) w):=by
 have hbd:=h.bd.1;go_enter func230,ntmps230;go_wp2;go_loop [8] (fun i=>SIdx n xs i) (fun i=>n - (intOf i).toNat)
 case atStart=>exact⟨0,by omega,rfl,by intro q hq;omega⟩
 case round =>
  obtain⟨j,hj,rfl,hv⟩:=hrel;by_cases hlt:j<n
  . have hc:=Rd.cell h hlt
    have hix:=fun W=>Rdv.ix h el22 hlt .i64 W;have HV:=aq hv;clear hv;by_cases h1:-127<=gi xs j/\gi xs j<=127
    . have h1':(!decide (-127<=gi xs j/\gi xs j<=127))=false:=by simp;omega
      have H1:=aq h1;clear h1;go_wp2_with (go_at_call 350;refine(soft1_any _ _).mono ?_;rintro e w' ⟨rfl,rfl⟩;rw [h1']);go_round
      case rel=>exact⟨j+1,by omega,by go_num,fun q hq=>lt_succ_cases HV.o H1.o q hq⟩
      case measure=>simp [intOf];omega
    . have h1':(!decide (-127<=gi xs j/\gi xs j<=127))=true:=by simp;omega
      have hf:=aq (softB_f (by rw [h.len];exact hlt) h1);clear h1;go_wp2_with (go_at_call 350;refine(soft1_any _ _).mono ?_;rintro e w' ⟨rfl,rfl⟩;rw [h1']);go_ret;exact⟨_,rfl,by rw [hf.o];simp,rfl⟩
  . have hf:=aq (softB_t (xs:=xs) (by rw [h.len];intro q hq;exact hv q (by omega)))
    clear hv;go_wp2;go_ret;exact⟨_,rfl,by rw [hf.o];simp,rfl⟩
theorem scont_any(A:Option Addr)(n c:Nat)(xs:List Int)(w:World)(h:Rd .i64 w A n c xs) :
 Calls prog 233 #[.slice A n c,.func (.func 350) #[] #[]] w fun e w'=>e= .returned (.bool (!SoftB xs))/\w=w':=by
 go_enter func233,ntmps233;go_wp2_with (go_at_call 230;refine(sidx_any A n c xs w h).mono ?_;rintro e w' ⟨r,rfl,hr,rfl⟩);go_ret;refine⟨ret_bool ?_,rfl⟩;cases hv:SoftB xs<;>simp_all
theorem srow_any(A:Option Addr)(n c:Nat)(xs:List Int)(w:World)(h:Rd .i64 w A n c xs) :
 Calls prog 349 #[.slice A n c] w fun e w'=>e= .returned (.bool (!SoftB xs))/\w=w':=by
 go_enter func349,ntmps349;go_wp2_with (go_at_call 233;refine(scont_any A n c xs w h).mono ?_;rintro e w' ⟨rfl,rfl⟩);go_ret;exact⟨rfl,rfl⟩
structure RowS where
 A:Option Addr
 c:Nat
 xs:List Int
def RowS.v(r:RowS):Value:=.slice r.A r.xs.length r.c
def RowS.At(W:World)(r:RowS):Prop:=Rd .i64 W r.A r.xs.length r.c r.xs
def rowsB(rs:List RowS):Bool:=rs.all (fun r=>SoftB r.xs)
def RIdx(n:Nat)(rs:List RowS)(i:Value):Prop:=∃ j:Nat,j<=n/\i= .int .i64 j/\∀ q,q<j->∀ r,rs[q]?=some r->SoftB r.xs=true
theorem ridx_any(A:Option Addr)(n c:Nat)(rs:List RowS)(w:World)(h:Rdv w A n c (rs.map RowS.v))(hr:∀ r ∈ rs,r.At w) :
 Calls prog 362 #[.slice A n c,.func (.func 349) #[] #[]] w (SPost (rowsB rs) w):=by
 have hbd:=h.bd.1;have hlen:rs.length=n:=by have:=h.len;simpa using this
 have HLEN:=aq hlen;clear hlen;go_enter func362,ntmps362;go_wp2;go_loop [8] (fun i=>RIdx n rs i) (fun i=>n - (intOf i).toNat)
 case atStart=>exact⟨0,by omega,rfl,by intro q hq;omega⟩
 case round =>
  obtain⟨j,hj,rfl,hv⟩:=hrel;by_cases hlt:j<n
  . obtain⟨r,hrj⟩:∃ r,rs[j]?=some r:=⟨_,List.getElem?_eq_getElem (by rw [HLEN.o];exact hlt)⟩
    have hc:=h.at_ j r.v (by rw [List.getElem?_map,hrj];rfl);unfold RowS.v at hc;have HAT:=aq (hr r (List.mem_of_getElem? hrj));have hix:=fun W=>Rdv.ix h el106 hlt .i64 W;have HV:=aq hv;have HRJ:=aq hrj;clear hv hrj;cases h1:SoftB r.xs with
    | true =>
      have H1:=aq h1;go_wp2_with (go_at_call 349;refine(srow_any _ _ _ _ _ HAT.o).mono ?_;rintro e w' ⟨rfl,rfl⟩;rw [H1.o,Bool.not_true]);go_round
      case rel=>exact⟨j+1,by omega,by go_num,fun q hq r' hr'=>by
       rcases (by omega:q<j\/q=j) with hq' | rfl
       . exact HV.o q hq' r' hr'
       . rw [HRJ.o]at hr';cases hr';exact H1.o⟩
      case measure=>simp [intOf];omega
    | false =>
      have H1:=aq h1
      have hf:=aq (show rowsB rs=false from by
       rw [Bool.eq_false_iff];intro hh;have:=List.all_eq_true.1 hh r (List.mem_of_getElem? HRJ.o)
       rw [H1.o]at this;cases this)
      go_wp2_with (go_at_call 349;refine(srow_any _ _ _ _ _ HAT.o).mono ?_;rintro e w' ⟨rfl,rfl⟩;rw [H1.o,Bool.not_false]);go_ret;exact⟨_,rfl,by rw [hf.o];simp,rfl⟩
  . have hf:=aq (show rowsB rs=true from List.all_eq_true.2 fun r hr'=>by
     obtain⟨q,hq,e⟩:=List.getElem_of_mem hr';have:=HLEN.o
     exact hv q (by omega) r (by rw [List.getElem?_eq_getElem hq,e]))
    clear hv
    go_wp2
    go_ret
    exact⟨_,rfl,by rw [hf.o];simp,rfl⟩
theorem rcont_any(A:Option Addr)(n c:Nat)(rs:List RowS)(w:World)(h:Rdv w A n c (rs.map RowS.v))(hr:∀ r ∈ rs,r.At w) :
 Calls prog 348 #[.slice A n c,.func (.func 349) #[] #[]] w fun e w'=>e= .returned (.bool (!rowsB rs))/\w=w':=by
 go_enter func348,ntmps348;go_wp2_with (go_at_call 362;refine(ridx_any A n c rs w h hr).mono ?_;rintro e w' ⟨r,rfl,hr,rfl⟩);go_ret;refine⟨ret_bool ?_,rfl⟩;cases hv:rowsB rs<;>simp_all
theorem outside_any(A:Option Addr)(n c:Nat)(rs:List RowS)(w:World)(h:Rdv w A n c (rs.map RowS.v))(hr:∀ r ∈ rs,r.At w) :
 Calls prog 332 #[.slice A n c] w fun e w'=>e= .returned (.bool (!rowsB rs))/\w=w':=by
 go_enter func332,ntmps332;go_wp2_with (go_at_call 348;refine(rcont_any A n c rs w h hr).mono ?_;rintro e w' ⟨rfl,rfl⟩);go_ret;exact⟨rfl,rfl⟩
theorem wp_scope_fwd{P:Program}{a:Act}{w:World}{Q:Exit->Act->World->Prop}{c rest:Code}(l:Nat)(hf:findLabel c l=some rest)
 (first:c.wp P (Exit.jump l (fun a w=>rest.wp P (Exit.jump l (fun _ _=>False) Q) a w) Q) a w):(Code.scope c).wp P Q a w :=
 wp_scope_jumps l (fun a w=>rest.wp P (Exit.jump l (fun _ _=>False) Q) a w) (fun _ _=>0) hf first fun a w h=>Code.wp_mono (fun e a w h=>by
  cases e<;>first | exact h | exact⟨h.1,h.2.elim⟩) h
theorem info62:(prog.info? 343).map (·.size)=some 2:=by kernel_rfl
theorem res62{W:World}{b:Nat}{cs:List Value}(h:Blk W b 343 cs)(hl:cs.length=2):(loadVar 343 ⟨b,0,none⟩).run prog W= .ok (.agg cs.toArray) W :=
 run_loadVar_row (P:=prog) W b 343 343 _ (0,0) _ h underlying343 rfl (by rw [info62];simp [hl])
theorem results28{W:World}{b:Nat}{cs:List Value}{a:Array Value}{E:Int}(h:Blk W b 343 cs)(hl:cs.length=2)(h2:a.getD 6 undef= .pointer (some ⟨b,0,none⟩))(h3:a.getD 7 undef= .int .i64 E) :
 (results Tryz.f297 a).run prog W= .ok (.tuple #[.agg cs.toArray,.int .i64 E]) W:=by
 rw [results_cell_tmp rfl,h2,h3];simp [asAddr,res62 h hl,Sem.run_pure]
theorem bne_len_f{a b:Nat}(h:a=b+3):((a:Int) != (b:Int)+3)=false:=by simp;omega
def Ob.lens(o:Ob):Prop:=1<=o.a.length/\o.a.length<=6144/\o.s.length=o.a.length+3/\o.p.length=o.a.length+3
def Ob.soft(o:Ob):Bool:=SoftB o.s && (SoftB o.p && SoftB o.a)
theorem Ob.of_ok{o:Ob}(h:o.ok):o.lens/\o.soft=true:=by
 obtain⟨h1,h2,h3,h4,h5,h6,h7⟩:=h;refine⟨⟨h1,h2,h3,h4⟩,?_⟩;unfold Ob.soft SoftB;simp only [Bool.and_eq_true,List.all_eq_true,decide_eq_true_eq];exact⟨h5,h6,h7⟩
def obRows(o:Ob)(S P A:Option Addr)(cs cp ca:Nat):List RowS:=[⟨S,cs,o.s⟩,⟨P,cp,o.p⟩,⟨A,ca,o.a⟩]
theorem obRows_soft(o:Ob)(S P A:Option Addr)(cs cp ca:Nat):rowsB (obRows o S P A cs cp ca)=o.soft:=by
 simp [rowsB,obRows,Ob.soft]
def zero62:List Value:=[.pointer none,.slice none 0 0]
structure In3 (W:World) (o:Ob) (S P A:Option Addr) (cs cp ca:Nat):Prop where
 s:Rd .i64 W S o.s.length cs o.s
 p:Rd .i64 W P o.p.length cp o.p
 a:Rd .i64 W A o.a.length ca o.a
theorem In3.alloc{W:World}{o:Ob}{S P A:Option Addr}{cs cp ca:Nat}(h:In3 W o S P A cs cp ca)(x:Obj):In3 (W.alloc x) o S P A cs cp ca:=⟨Rdv.alloc h.s x,Rdv.alloc h.p x,Rdv.alloc h.a x⟩
theorem observed_ok(S P A:Option Addr)(cs cp ca:Nat)(o:Ob)(w:World)(h:In3 w o S P A cs cp ca)(ho:o.ok) :
 Calls prog 297 #[.slice S o.s.length cs,.slice P o.p.length cp,.slice A o.a.length ca] w fun e w'=>∃ bo bb,e= .returned (.tuple #[swV bo bb,.int .i64 0])/\SwAt w' bo bb o S P A cs cp ca/\Below w.heap.size w w':=by
 obtain⟨⟨l1,l2,l3,l4⟩,hs⟩:=Ob.of_ok ho;have hb:Blk (w.alloc (.cells #[.pointer none,.slice none 0 0] 343)) w.heap.size 343 zero62:=Blk.new w zero62 343 rfl;have hb2:=hb.alloc (.cells #[.slice S o.s.length cs,.slice P o.p.length cp,.slice A o.a.length ca] 51);have h':=aq ((h.alloc (.cells #[.pointer none,.slice none 0 0] 343)).alloc (.cells #[.slice S o.s.length cs,.slice P o.p.length cp,.slice A o.a.length ca] 51));have hR:=aq (Ownv.lit (w.alloc (.cells #[.pointer none,.slice none 0 0] 343)) #[.slice S o.s.length cs,.slice P o.p.length cp,.slice A o.a.length ca] 51 rfl (Nat.le_refl _) (by show 3<=maxLen;unfold maxLen;omega)).rd;have HS:=aq hs;have hQ:Below w.heap.size w (((w.alloc (.cells #[.pointer none,.slice none 0 0] 343)).alloc (.cells #[.slice S o.s.length cs,.slice P o.p.length cp,.slice A o.a.length ca] 51)).alloc (.cells #[.slice S o.s.length cs,.slice P o.p.length cp,.slice A o.a.length ca] 380)):=(((Below.refl _ w).alloc (Nat.le_refl _) _).alloc (by simp) _).alloc (by simp;omega) _;have h89:ObsAt (((w.alloc (.cells #[.pointer none,.slice none 0 0] 343)).alloc (.cells #[.slice S o.s.length cs,.slice P o.p.length cp,.slice A o.a.length ca] 51)).alloc (.cells #[.slice S o.s.length cs,.slice P o.p.length cp,.slice A o.a.length ca] 380)) (w.heap.size+2) o S P A cs cp ca :=
  ⟨Blk.new _ [.slice S o.s.length cs,.slice P o.p.length cp,.slice A o.a.length ca] 380 (by simp),Rdv.alloc h'.o.s _,Rdv.alloc h'.o.p _,Rdv.alloc h'.o.a _⟩
 have hb3:=hb2.alloc (.cells #[.slice S o.s.length cs,.slice P o.p.length cp,.slice A o.a.length ca] 380);have HQ:=aq hQ;have H89:=aq h89;have HB3:=aq hb3;have H0:=aq h;have e3:=bne_len_f l3;have e4:=bne_len_f l4;have L3:=aq l3;have L4:=aq l4;clear l3 l4;clear h hs hQ h89 hb hb2 hb3;go_enter func297,ntmps297;go_wp2_with fail;go_step3;go_wp2_with fail;refine(outside_any _ 3 3 (obRows o S P A cs cp ca) _ (by have:=hR.o;simpa [obRows,RowS.v] using this) (by intro r hr;simp [obRows]at hr;rcases hr with rfl | rfl | rfl;exact h'.o.s;exact h'.o.p;exact h'.o.a)).mono ?_;rintro e w1 ⟨rfl,rfl⟩;rw [obRows_soft,HS.o,Bool.not_true];go_wp2_with fail;refine(branches_any _).mono ?_;rintro e w2 ⟨bb,rfl,hB,hs,hB2⟩;have h62:=HB3.o.below hB2;have HW:=aq (SwAt.mk (H89.o.below hB2) hB);have HB2:=aq hB2;have HBB:=aq hs;clear hB hs hB2;go_wp2_with (refine strow (cs:=[.pointer (some ⟨w.heap.size+2,0,none⟩),.slice (some ⟨bb,0,none⟩) 16 16]) rfl 343 (.tmp 6) (.tmp 42) rfl rfl rfl h62 rfl (by rw [info62];rfl) (by simp [Value.oneCell']) ?_;intro W2 h1 h2;have H1:=aq h1;have H2:=aq h2;clear h1 h2 h62);rw [Exit.noGoto_ret];have hfin:Below w.heap.size w W2:=(HQ.o.trans (HB2.o.mono (by simp;omega))).grown H2.o (by have:=HB2.o.size;simp at this;omega) (fun k hk=>by cases hk;exact Nat.le_refl _);have hz:=HBB.o;simp at hz;exact bodyPost_ret (results28 H1.o rfl rfl rfl) rfl ⟨w.heap.size+2,bb,rfl,⟨⟨Blk.grown HW.o.o.blk H2.o (by omega),Rdv.below H0.o.s hfin,Rdv.below H0.o.p hfin,Rdv.below H0.o.a hfin⟩,Blk.grown HW.o.b H2.o (by omega)⟩,hfin⟩
end Go.Proofs.YthmhogdceolkdaaGreat
namespace Go.Proofs.YthmhogdceolkdaaGreat.Tu
open Tryz
open Go.RowKit
def szK(u:Nat):Nat:=40+8*(u % 60)
end Go.Proofs.YthmhogdceolkdaaGreat.Tu