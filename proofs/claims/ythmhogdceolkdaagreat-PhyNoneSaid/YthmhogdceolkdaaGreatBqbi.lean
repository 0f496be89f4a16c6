/- Bundle. Conditions: none. -/
import Derived.Test.YthmhogdceolkdaaGreatBqbf
import Derived.Test.YthmhogdceolkdaaGreatBqbh
set_option linter.unusedVariables false
set_option linter.unusedSimpArgs false
namespace Go.Proofs.YthmhogdceolkdaaGreat
open Tryz
open Go.RowKit Go.Shelf
attribute [local go_sem] Oper.semAt_some
set_option maxRecDepth 100000
set_option maxHeartbeats 4000000
def sc8(init:Int)(xs:List Int):List Int:=(List.range xs.length).map fun j=>if gSq init j=1 then(fun v=>(1 - v)) (gi xs j) else gi xs j
theorem sc8_len(init:Int)(xs:List Int):(sc8 init xs).length=xs.length:=by simp [sc8]
theorem sc8_gi(init:Int)(xs:List Int)(j:Nat)(h:j<xs.length):gi (sc8 init xs) j=if gSq init j=1 then(fun v=>(1 - v)) (gi xs j) else gi xs j:=gi_range _ h
structure ScK8 (w:World) (Bz LB FB OB:Nat) (A:Option Addr) (n c:Nat) (xs ys:List Int) (t:Nat) (W:World):Prop where
 o:∃ A' c',Blk W OB 53 [.slice A' t c']/\Own .u8 5 W Bz A' t c' (ys.take t)
 l:Blk W LB 53 [.slice A n c]
 f:Blk W FB 270 [.func (.func 217) #[] #[]]
 bl:Below w.heap.size w W
 hs:Bz<=W.heap.size
section
variable {w W W' : World} {Bz LB FB OB : Nat} {A : Option Addr} {n c : Nat} {xs ys : List Int} {t : Nat}
theorem ScK8.clB(h:ScK8 w Bz LB FB OB A n c xs ys t W)(hb:Below W.heap.size W W'):ScK8 w Bz LB FB OB A n c xs ys t W':=by
 obtain⟨A',c',h1,h2⟩:=h.o;exact⟨⟨A',c',h1.below hb,Ownv.below h2 hb⟩,h.l.below hb,h.f.below hb,h.bl.trans (hb.mono h.bl.size),Nat.le_trans h.hs hb.size⟩
theorem ScK8.clG(h:ScK8 w Bz LB FB OB A n c xs ys t W){r:Nat}(hg:W.grownBy W' (some r))(hr:w.heap.size<=r)(h1:r≠OB)(h2:r≠LB)(h3:r≠FB)(h4:∀ A' c',Own .u8 5 W Bz A' t c' (ys.take t)->A'≠none->blk A'≠r):ScK8 w Bz LB FB OB A n c xs ys t W':=by
 obtain⟨A',c',k1,k2⟩:=h.o;have go:∀ b,b<W.heap.size->r≠b->W'.heap[b]?=W.heap[b]?:=fun b hb hne=>hg.block b hb (fun e=>hne (by first | exact Option.some.inj e | exact(Option.some.inj e).symm));exact⟨⟨A',c',(go _ k1.lt h1).trans k1,Ownv.grown k2 hg (fun hA e=>h4 A' c' k2 hA (Option.some.inj e))⟩,(go _ h.l.lt h2).trans h.l,(go _ h.f.lt h3).trans h.f,h.bl.grown hg h.bl.size (fun k e=>by cases e;exact hr),Nat.le_trans h.hs hg.size⟩
theorem ScK8.clP(h:ScK8 w Bz LB FB OB A n c xs ys t W){l:Nat}{o:Obj}(o':Obj)(hl:w.heap.size<=l)(hk:W.heap[l]?=some o)(ho:o.isCells=false):ScK8 w Bz LB FB OB A n c xs ys t (W.putObj l o'):=by
 have nb:∀ {b:Nat} {x:Array Value} {ty:TypeId} {f:Nat × Nat},W.heap[b]?=some (.cells x ty f)->l≠b:=fun hb e=>by
  subst e;rw [hb]at hk;rw [<- Option.some.inj hk]at ho;cases ho
 refine h.clG (grownBy_putObj' W l o') hl (fun e=>?_) (nb h.l) (nb h.f) (fun A' c' k hA e=>?_)
 . obtain⟨A',c',k1,-⟩:=h.o
   exact nb k1 e
 . obtain⟨-,g1⟩:=Ownv.cases k
   rcases g1 with⟨q,-⟩ | ⟨g,cur,q,-,hh,-⟩
   . exact hA q
   . rw [q]at e
     exact nb hh e.symm
theorem ScK8.clR(h:ScK8 w Bz LB FB OB A n c xs ys t W){r:Nat}{x:Array Value}{ty:TypeId}{f:Nat × Nat}(hw:w.heap.size<=r)(hr:W.heap[r]?=some (.cells x ty f))(ht:ty ∈ [356])(hg:W.grownBy W' (some r)):ScK8 w Bz LB FB OB A n c xs ys t W':=by
 rw [List.mem_singleton]at ht;subst ht;have nb:∀ {b:Nat} {t2:TypeId} {cs:List Value},Blk W b t2 cs->t2≠356->r≠b:=fun hb hne e=>by
  subst e;have:=(show W.heap[r]?=_ from hb).symm.trans hr;simp only [Option.some.injEq,Obj.cells.injEq]at this;exact hne this.2.1
 refine h.clG hg hw (fun e=>?_) (nb h.l (by decide)) (nb h.f (by decide)) (fun A' c' k hA e=>?_)
 . obtain⟨A',c',k1,-⟩:=h.o
   exact nb k1 (by decide) e
 . obtain⟨-,g1⟩:=Ownv.cases k
   rcases g1 with⟨q,-⟩ | ⟨g,cur,q,-,hh,-⟩
   . exact hA q
   . rw [q]at e
     have e:g=r:=e;rw [e]at hh;have:=hh.symm.trans hr;simp only [Option.some.injEq,Obj.cells.injEq]at this;exact absurd this.2.1 (by decide)
end
theorem ScK8.next{w W W2:World}{Bz LB FB OB:Nat}{A A' A2:Option Addr}{n c t c' c2:Nat}{xs ys:List Int}{v:Int}(h:ScK8 w Bz LB FB OB A n c xs ys t W)(hX:Blk W OB 53 [.slice A' t c'])(hO:Own .u8 5 W Bz A' t c' (ys.take t))(ht:t<ys.length)(hv:v=gi ys t)(hw:w.heap.size<=Bz)(hwO:w.heap.size<=OB)(hl:LB≠OB)(hlb:LB<Bz)(hfb:FB<Bz)
 (hO2:Ownv 5 W2 Bz A2 (t+1) c2 ((ys.take t).map (Value.int .u8) ++ [.int .u8 v])) (hg:W.grownBy W2 ((Value.slice A' t c').ownBlock)) :
 KeepsOthers W (W2.setCell ⟨OB,0,none⟩ (.slice A2 (t+1) c2))/\KpT [143,356] W (W2.setCell ⟨OB,0,none⟩ (.slice A2 (t+1) c2))/\ScK8 w Bz LB FB OB A n c xs ys (t+1) (W2.setCell ⟨OB,0,none⟩ (.slice A2 (t+1) c2)):=by
 have hob:∀ k,(Value.slice A' t c').ownBlock=some k->Bz<=k:=fun k hk=>Ownv.ob' hO hk;have hx2:Blk W2 OB 53 [.slice A' t c']:=Cr.Blk.grown hX hg (Cr.blk_ne_row hX hO (by decide));have hg2:=grownBy_set W2 OB 0 (.slice A2 (t+1) c2);have go:∀ b,b<W.heap.size->b<Bz->b≠OB->(W2.setCell ⟨OB,0,none⟩ (.slice A2 (t+1) c2)).heap[b]?=W.heap[b]?:=fun b h1 h2 h3 =>
  (hg2.block b (Nat.lt_of_lt_of_le h1 hg.size) (fun e=>h3 (by first | exact(Option.some.inj e).symm | exact Option.some.inj e))).trans (hg.block b h1 (fun e=>by have:=hob b (by first | exact e | exact e.symm);omega))
 refine⟨KeepsOthers.trans (KeepsOthers.of_grownBy hg (fun j o hj=>Cr.row_cells hO j o hj)) (KeepsOthers.setCell _ _ _),?_,⟨⟨A2,c2,hx2.set 0 _,?_⟩,(go _ h.l.lt hlb hl).trans h.l,(go _ h.f.lt hfb (fun e=>?_)).trans h.f,?_,Nat.le_trans h.hs (Nat.le_trans hg.size hg2.size)⟩⟩
 . refine KpT.trans ?_ (KpT.grown hg2 hx2 (by decide))
   obtain⟨-,g1⟩:=Ownv.cases hO;rcases g1 with⟨q,rfl,rfl⟩ | ⟨g,cur,q,-,hh,-⟩
   . rw [q]at hg
     exact⟨hg.size,fun k ty cs _ hk=>(hg.block k hk.lt nofun).trans hk⟩
   . rw [q]at hg
     exact KpT.grown hg hh (by decide)
 . refine Cr.own_set_blk hx2 ?_ (by decide) 0 _
   have e:ys.take (t+1)=ys.take t ++ [v]:=by rw [List.take_succ_eq_append_getElem ht,hv,gi_eq _ _ ht]
   rw [e];simpa using hO2
 . have:=(show W.heap[FB]?=_ from h.f).symm.trans (e ▸ hX)
   simp only [Option.some.injEq,Obj.cells.injEq]at this;exact absurd this.2.1 (by decide)
 . exact(h.bl.grown hg h.bl.size (fun k hk=>Nat.le_trans hw (hob k (by first | exact hk | exact hk.symm)))).grown hg2 (Nat.le_trans h.bl.size hg.size) (fun k hk=>by cases hk;exact hwO)
theorem scr8_any(init:Int)(er:Int)(A:Option Addr)(n c:Nat)(xs:List Int)(w:World)(hi:init / 2147483648=0)(h:Rd .u8 w A n c xs)(hn:n<=131072)(hv:∀ q,q<n->gi xs q=0\/gi xs q=1)(hvb:Cr.ValidB xs=true) :
 Calls prog 215 #[.int .u32 init,.slice A n c,.func (.func 216) #[] #[],.int .i64 er,.func (.func 217) #[] #[]] w fun e w'=>∃ A' c',e= .returned (.tuple #[.slice A' n c',.int .i64 0])/\Own .u8 5 w' w.heap.size A' n c' (sc8 init xs)/\Below w.heap.size w w':=by
 have HLB:=aq ((Blk.new w [.slice A n c] 53 rfl).alloc (.cells #[.func (.func 217) #[] #[]] 270));have HFB:=aq (Blk.new (w.alloc (.cells #[.slice A n c] 53)) [.func (.func 217) #[] #[]] 270 rfl);have HB2:=aq (bal (bal (Below.refl w.heap.size w) (.cells #[.slice A n c] 53)) (.cells #[.func (.func 217) #[] #[]] 270));have HLX:=aq h.len;have HR:=aq h;have HV:=aq hv;have HVB:=aq hvb;have HI:=aq hi;clear h hv hvb;refine(callsIn_wide (n:=3)).1 ?_;refine callsIn_of_wp_marks func215 rfl trivial ?_;simp only [ntmps215,List.size_toArray,List.length_cons,List.length_nil,Nat.reduceAdd,Nat.reduceSub,Array.replicate_succ,Array.replicate_zero,List.push_toArray,List.append_toArray,List.nil_append,List.cons_append];refine wpIn_wide.2 ?_;go_wp2_with fail;have HR2:=aq (Rdv.below HR.o HB2.o);have HLZ:Hid (w.heap.size+2=((w.alloc (.cells #[.slice A n c] 53)).alloc (.cells #[.func (.func 217) #[] #[]] 270)).heap.size):=aq (by simp);generalize (w.alloc (.cells #[.slice A n c] 53)).alloc (.cells #[.func (.func 217) #[] #[]] 270)=w2 at *;have HFB':Hid (Blk w2 (w.heap.size+1) 270 [.func (.func 217) #[] #[]]):=aq (by have:=HFB.o;simpa using this);have HCF:=aq (Cr.containsG_any A n c xs w2 HR2.o);rw [HVB.o]at HCF;clear HFB;refine HCF.o.mono ?_;rintro e w3 ⟨rfl,hw3⟩;have hB3:Below w2.heap.size w2 w3:=by rw [<- hw3];exact Below.refl _ _
 clear hw3;have HB3:=aq (HB2.o.trans (hB3.mono HB2.o.size));have HLB:=aq (HLB.o.below hB3);have HFB':=aq (HFB'.o.below hB3);have hz23:=hB3.size;clear hB3;have cL:=HLB.o.cell (j:=0) (v:=.slice A n c) rfl;have hn1:¬ 131072<(n:Int):=by omega
 by_cases h0:n=0
 . subst h0
   go_wp2_with (first
    | (at_make;refine list_of rfl fun K hK=>Cr.wp_mk0 (n:=0) (kl:=.i64) (kr:=.i64) _ _ 53 rfl el26 rfl rfl (by omega) (by unfold maxLen;omega) ?_;intro A4 w4 hO4 hB4;have HO4:=aq hO4;have HB4:=aq hB4;have cL4:=(HLB.o.below hB4).alloc (.cells #[.slice A4 0 0] 53) |>.cell (j:=0) (v:=.slice A 0 c) rfl;clear hO4 hB4;refine hK _ _ ?_;clear hK K)
    | go_step3)
   exact⟨_,results_tmp2 rfl _ _ _,A4,0,rfl,Own.of_eq (Ownv.mono (Ownv.alloc HO4.o (.cells #[.slice A4 0 0] 53)) HB3.o.size) rfl (by unfold sc8;rw [show xs.length=0 by simpa using HLX.o];rfl),(bal (HB3.o.trans (HB4.o.mono HB3.o.size)) (.cells #[.slice A4 0 0] 53))⟩
 . have hn0:((n:Int) == 0)=false:=beq_f (by omega)
   go_wp2_with (first
    | (at_make;refine list_of rfl fun K hK=>Cr.wp_mk0 (n:=n) (kl:=.i64) (kr:=.i64) _ _ 53 rfl el26 rfl rfl (by omega) (by unfold maxLen;omega) ?_;intro A4 w4 hO4 hB4;have HO4:=aq hO4;have HB4:=aq hB4;have cL4:=(HLB.o.below hB4).alloc (.cells #[.slice A4 0 n] 53) |>.cell (j:=0) (v:=.slice A n c) rfl;clear hO4 hB4;refine hK _ _ ?_;clear hK K)
    | go_step3)
   refine(gbits_any init _).mono ?_;rintro e w6 ⟨rfl,hI6,hB6⟩;have HI6:=aq hI6;have HX6:=aq ((Blk.new w4 [.slice A4 0 n] 53 rfl).below hB6);have HO6:=aq (Ownv.below (Ownv.alloc HO4.o (.cells #[.slice A4 0 n] 53)) hB6);have HB36:=aq ((bal HB4.o (.cells #[.slice A4 0 n] 53)).trans (hB6.mono (bal HB4.o (.cells #[.slice A4 0 n] 53)).size));have HB6:=aq (HB3.o.trans (HB36.o.mono HB3.o.size));have HL6:=aq (HLB.o.below HB36.o);have HF6:=aq (HFB'.o.below HB36.o);have HSEQ:=aq (gold_seq init (w4.alloc (.cells #[.slice A4 0 n] 53)).heap.size n HI.o (by omega) w6 HI6.o);have HLY:Hid ((sc8 init xs).length=n):=aq (by rw [sc8_len];simpa using HLX.o);have HK:Hid (ScK8 w w3.heap.size w.heap.size (w.heap.size+1) w4.heap.size A n c xs (sc8 init xs) 0 w6):=aq ⟨⟨A4,n,HX6.o,HO6.o⟩,HL6.o,HF6.o,HB6.o,HB36.o.size⟩;have hz3:w.heap.size+2<=w3.heap.size:=by have:=HLZ.o;omega
   have hz4:w3.heap.size<=w4.heap.size:=HB4.o.size;have hz6:w4.heap.size<w6.heap.size:=HX6.o.lt;have hpos:0<n:=by omega
   clear HI6 HX6 HO6 HL6 HF6 cL cL4 hI6 hB6 HCF HLB HFB' HB2 HLZ HO4;generalize (w4.alloc (.cells #[.slice A4 0 n] 53)).heap.size=IB at *;go_wp2_with fail;refine(wpIn_wide (n:=3)).1 ?_;refine' Cr.rangeT (w0:=w6) (gf:=308) (lb:=#[.pointer (some ⟨IB,0,none⟩)]) (T:=n) rfl (enters_of func308 (by kernel_rfl) rfl) HSEQ.o KpT.trans
    (fun W l o o' hl h1 h2=>KpT.put o' h1 h2) (Below.refl _ _) (fun _=>rfl)
    (fun pre W=>ScK8 w w3.heap.size w.heap.size (w.heap.size+1) w4.heap.size A n c xs (sc8 init xs) pre.length W/\pre.length<n)
    (fun cd pre W=>cd= .exit 1/\ScK8 w w3.heap.size w.heap.size (w.heap.size+1) w4.heap.size A n c xs (sc8 init xs) pre.length W/\pre.length=n)
    (fun s X Y h hb=>⟨h.1.clB hb,h.2⟩) (fun cd s X Y h hb=>⟨h.1,h.2.1.clB hb,h.2.2⟩)
    (fun s X Y r t x f hr h hk ht hg=>⟨h.1.clR (by omega) hk ht hg,h.2⟩) (fun cd s X Y r t x f hr h hk ht hg=>⟨h.1,h.2.1.clR (by omega) hk ht hg,h.2.2⟩)
    (fun s X l o o' h hl hk ho=>⟨h.1.clP o' (by omega) hk ho,h.2⟩) (fun cd s X l o o' h hl hk ho=>⟨h.1,h.2.1.clP o' (by omega) hk ho,h.2.2⟩)
    (fun pre W h=>h.2) ⟨HK.o,hpos⟩ _ ?assign ?body ?done ?stop
   case assign =>
    intro l x W K hK;unfold encB;gi_wp2;exact hK
   case done =>
    rintro D xs W hD h;exact h.elim
   case stop =>
    rintro D cd pre W hD _ ⟨rfl,hI,hlen⟩ hK;obtain⟨A9,c9,hx,hO⟩:=hI.o;have cO:=hx.cell (j:=0) (v:=.slice A9 pre.length c9) rfl;have HO9:=aq (Ownv.mono (Cr.Ownv.put hO (.deferred none) hK rfl) (show w.heap.size<=w3.heap.size by omega));have HB9:=aq (hI.bl.grown (grownBy_putObj' W D (.deferred none)) hI.bl.size (fun k e=>by cases e;omega));rw [hlen]at cO HO9;rw [List.take_of_length_le (by rw [HLY.o];exact Nat.le_refl _)]at HO9;clear hO hx hI;refine wpIn_exit ?_;go_wp2;refine⟨by simp,.inl ⟨_,_,rfl,run_takeDeferred hK,?_⟩⟩;exact⟨_,results_tmp2 rfl _ _ _,A9,c9,rfl,HO9.o,HB9.o⟩
   case body =>
    rintro l pre x W ⟨hI,hlt⟩ rfl;have hpl:∀ x:Int,(pre ++ [x]).length=pre.length+1:=fun x=>by simp
    obtain⟨A9,c9,hx,hO⟩:=hI.o;have hrw:=Rdv.below HR.o hI.bl;have cL:=hI.l.cell (j:=0) (v:=.slice A n c) rfl;have cF:=hI.f.cell (j:=0) (v:=.func (.func 217) #[] #[]) rfl;have cO:=hx.cell (j:=0) (v:=.slice A9 pre.length c9) rfl;have hixx:=fun W=>Rdv.ix hrw el26 hlt .i64 W;have hcell:=Rd.cell hrw hlt;have hne:=Cr.blk_ne_row hx hO (by decide);have HI:=aq hI;have HX:=aq hx;have HO:=aq hO;have hsz:=hI.hs;have HPL:=aq hpl
    have HFI:=aq (sc8_gi init xs pre.length (by have h9:xs.length=n:=by simpa using HLX.o
                                                omega))
    have HVV:=aq (HV.o pre.length hlt);have hyl:pre.length<(sc8 init xs).length:=by rw [HLY.o];exact hlt
    obtain⟨v0,hv0⟩:∃ v,v=gi xs pre.length:=⟨_,rfl⟩
    rw [<- hv0]at hcell HFI HVV;clear hI hx hO hpl hrw hv0;rcases gSq_bit init pre.length with hb | hb
    . rw [hb]at HFI ⊢
      rw [if_neg (by decide)]at HFI
      gi_wp2_with (first
       | ((with_reducible refine Cr.listAp ?hL ?hh);(case hL=>exact fun⟨_,_,h⟩=>h);intro K hK;refine wp_app1 (w:=W) (base:=w3.heap.size) _ _ 53 rfl el26 rfl (.int .u8 v0) rfl rfl HO.o (by omega) (by omega) hsz ?_;intro A2 c2 W2 hO2 hg2;have HN:=aq (ScK8.next HI.o HX.o HO.o hyl HFI.o.symm (by omega) (by omega) (by omega) (by omega) (by omega) hO2 hg2);have hx2:=Cr.Blk.grown HX.o hg2 hne;have c2':=hx2.cell (j:=0) (v:=.slice A9 pre.length c9) rfl;have f2':=hx2.frozen 0;have cL3:=HN.o.2.2.l.cell (j:=0) (v:=.slice A n c) rfl;clear hO2 hg2;refine hK _ _ ?_;clear hK K))
      all_goals (rename_i hq)
      all_goals (first
       | (refine⟨HN.o.1,HN.o.2.1,?_⟩
          show ScK8 _ _ _ _ _ _ _ _ _ _ (pre ++ [_]).length _/\(pre ++ [_]).length<n;rw [HPL.o]
          exact⟨HN.o.2.2,by have h9:=beq_eq_false_iff_ne.1 hq;omega⟩)
       | (refine⟨HN.o.1,rfl,?_⟩
          show ScK8 _ _ _ _ _ _ _ _ _ _ (pre ++ [_]).length _/\(pre ++ [_]).length=n;rw [HPL.o]
          exact⟨HN.o.2.2,by have h9:=eq_of_beq hq;omega⟩))
    . rw [hb]at HFI ⊢
      rw [if_pos rfl]at HFI;have HFI:Hid (gi (sc8 init xs) pre.length=(1 - v0)):=aq HFI.o;have HFX:=aq (gflip_any v0 HVV.o W);obtain⟨v1,hv1⟩:∃ v,v=(1 - v0):=⟨_,rfl⟩
      rw [<- hv1]at HFI HFX;clear hv1
      gi_wp2_with (first
       | ((with_reducible refine Cr.callR ?_);refine HFX.o.mono ?_;rintro en W1 ⟨rfl,rfl⟩)
       | ((with_reducible refine Cr.listAp ?hL2 ?hh2);(case hL2=>exact fun⟨_,_,h⟩=>h);intro K hK;refine wp_app1 (w:=W) (base:=w3.heap.size) _ _ 53 rfl el26 rfl (.int .u8 v1) rfl rfl HO.o (by omega) (by omega) hsz ?_;intro A2 c2 W2 hO2 hg2;have HN:=aq (ScK8.next HI.o HX.o HO.o hyl HFI.o.symm (by omega) (by omega) (by omega) (by omega) (by omega) hO2 hg2);have hx2:=Cr.Blk.grown HX.o hg2 hne;have c2':=hx2.cell (j:=0) (v:=.slice A9 pre.length c9) rfl;have f2':=hx2.frozen 0;have cL3:=HN.o.2.2.l.cell (j:=0) (v:=.slice A n c) rfl;clear hO2 hg2;refine hK _ _ ?_;clear hK K))
      all_goals (rename_i hq)
      all_goals (first
       | (refine⟨HN.o.1,HN.o.2.1,?_⟩
          show ScK8 _ _ _ _ _ _ _ _ _ _ (pre ++ [_]).length _/\(pre ++ [_]).length<n;rw [HPL.o]
          exact⟨HN.o.2.2,by have h9:=beq_eq_false_iff_ne.1 hq;omega⟩)
       | (refine⟨HN.o.1,rfl,?_⟩
          show ScK8 _ _ _ _ _ _ _ _ _ _ (pre ++ [_]).length _/\(pre ++ [_]).length=n;rw [HPL.o]
          exact⟨HN.o.2.2,by have h9:=eq_of_beq hq;omega⟩))
def scS(init:Int)(xs:List Int):List Int:=(List.range xs.length).map fun j=>if gSq init j=1 then(fun v=>(-v)) (gi xs j) else gi xs j
theorem scS_len(init:Int)(xs:List Int):(scS init xs).length=xs.length:=by simp [scS]
theorem scS_gi(init:Int)(xs:List Int)(j:Nat)(h:j<xs.length):gi (scS init xs) j=if gSq init j=1 then(fun v=>(-v)) (gi xs j) else gi xs j:=gi_range _ h
structure ScKS (w:World) (Bz LB FB OB:Nat) (A:Option Addr) (n c:Nat) (xs ys:List Int) (t:Nat) (W:World):Prop where
 o:∃ A' c',Blk W OB 51 [.slice A' t c']/\Own .i64 3 W Bz A' t c' (ys.take t)
 l:Blk W LB 51 [.slice A n c]
 f:Blk W FB 176 [.func (.func 204) #[] #[]]
 bl:Below w.heap.size w W
 hs:Bz<=W.heap.size
section
variable {w W W' : World} {Bz LB FB OB : Nat} {A : Option Addr} {n c : Nat} {xs ys : List Int} {t : Nat}
theorem ScKS.clB(h:ScKS w Bz LB FB OB A n c xs ys t W)(hb:Below W.heap.size W W'):ScKS w Bz LB FB OB A n c xs ys t W':=by
 obtain⟨A',c',h1,h2⟩:=h.o;exact⟨⟨A',c',h1.below hb,Ownv.below h2 hb⟩,h.l.below hb,h.f.below hb,h.bl.trans (hb.mono h.bl.size),Nat.le_trans h.hs hb.size⟩
theorem ScKS.clG(h:ScKS w Bz LB FB OB A n c xs ys t W){r:Nat}(hg:W.grownBy W' (some r))(hr:w.heap.size<=r)(h1:r≠OB)(h2:r≠LB)(h3:r≠FB)(h4:∀ A' c',Own .i64 3 W Bz A' t c' (ys.take t)->A'≠none->blk A'≠r):ScKS w Bz LB FB OB A n c xs ys t W':=by
 obtain⟨A',c',k1,k2⟩:=h.o;have go:∀ b,b<W.heap.size->r≠b->W'.heap[b]?=W.heap[b]?:=fun b hb hne=>hg.block b hb (fun e=>hne (by first | exact Option.some.inj e | exact(Option.some.inj e).symm));exact⟨⟨A',c',(go _ k1.lt h1).trans k1,Ownv.grown k2 hg (fun hA e=>h4 A' c' k2 hA (Option.some.inj e))⟩,(go _ h.l.lt h2).trans h.l,(go _ h.f.lt h3).trans h.f,h.bl.grown hg h.bl.size (fun k e=>by cases e;exact hr),Nat.le_trans h.hs hg.size⟩
theorem ScKS.clP(h:ScKS w Bz LB FB OB A n c xs ys t W){l:Nat}{o:Obj}(o':Obj)(hl:w.heap.size<=l)(hk:W.heap[l]?=some o)(ho:o.isCells=false):ScKS w Bz LB FB OB A n c xs ys t (W.putObj l o'):=by
 have nb:∀ {b:Nat} {x:Array Value} {ty:TypeId} {f:Nat × Nat},W.heap[b]?=some (.cells x ty f)->l≠b:=fun hb e=>by
  subst e;rw [hb]at hk;rw [<- Option.some.inj hk]at ho;cases ho
 refine h.clG (grownBy_putObj' W l o') hl (fun e=>?_) (nb h.l) (nb h.f) (fun A' c' k hA e=>?_)
 . obtain⟨A',c',k1,-⟩:=h.o
   exact nb k1 e
 . obtain⟨-,g1⟩:=Ownv.cases k
   rcases g1 with⟨q,-⟩ | ⟨g,cur,q,-,hh,-⟩
   . exact hA q
   . rw [q]at e
     exact nb hh e.symm
theorem ScKS.clR(h:ScKS w Bz LB FB OB A n c xs ys t W){r:Nat}{x:Array Value}{ty:TypeId}{f:Nat × Nat}(hw:w.heap.size<=r)(hr:W.heap[r]?=some (.cells x ty f))(ht:ty ∈ [356])(hg:W.grownBy W' (some r)):ScKS w Bz LB FB OB A n c xs ys t W':=by
 rw [List.mem_singleton]at ht;subst ht;have nb:∀ {b:Nat} {t2:TypeId} {cs:List Value},Blk W b t2 cs->t2≠356->r≠b:=fun hb hne e=>by
  subst e;have:=(show W.heap[r]?=_ from hb).symm.trans hr;simp only [Option.some.injEq,Obj.cells.injEq]at this;exact hne this.2.1
 refine h.clG hg hw (fun e=>?_) (nb h.l (by decide)) (nb h.f (by decide)) (fun A' c' k hA e=>?_)
 . obtain⟨A',c',k1,-⟩:=h.o
   exact nb k1 (by decide) e
 . obtain⟨-,g1⟩:=Ownv.cases k
   rcases g1 with⟨q,-⟩ | ⟨g,cur,q,-,hh,-⟩
   . exact hA q
   . rw [q]at e
     have e:g=r:=e;rw [e]at hh;have:=hh.symm.trans hr;simp only [Option.some.injEq,Obj.cells.injEq]at this;exact absurd this.2.1 (by decide)
end
theorem ScKS.next{w W W2:World}{Bz LB FB OB:Nat}{A A' A2:Option Addr}{n c t c' c2:Nat}{xs ys:List Int}{v:Int}(h:ScKS w Bz LB FB OB A n c xs ys t W)(hX:Blk W OB 51 [.slice A' t c'])(hO:Own .i64 3 W Bz A' t c' (ys.take t))(ht:t<ys.length)(hv:v=gi ys t)(hw:w.heap.size<=Bz)(hwO:w.heap.size<=OB)(hl:LB≠OB)(hlb:LB<Bz)(hfb:FB<Bz)
 (hO2:Ownv 3 W2 Bz A2 (t+1) c2 ((ys.take t).map (Value.int .i64) ++ [.int .i64 v])) (hg:W.grownBy W2 ((Value.slice A' t c').ownBlock)) :
 KeepsOthers W (W2.setCell ⟨OB,0,none⟩ (.slice A2 (t+1) c2))/\KpT [143,356] W (W2.setCell ⟨OB,0,none⟩ (.slice A2 (t+1) c2))/\ScKS w Bz LB FB OB A n c xs ys (t+1) (W2.setCell ⟨OB,0,none⟩ (.slice A2 (t+1) c2)):=by
 have hob:∀ k,(Value.slice A' t c').ownBlock=some k->Bz<=k:=fun k hk=>Ownv.ob' hO hk;have hx2:Blk W2 OB 51 [.slice A' t c']:=Cr.Blk.grown hX hg (Cr.blk_ne_row hX hO (by decide));have hg2:=grownBy_set W2 OB 0 (.slice A2 (t+1) c2);have go:∀ b,b<W.heap.size->b<Bz->b≠OB->(W2.setCell ⟨OB,0,none⟩ (.slice A2 (t+1) c2)).heap[b]?=W.heap[b]?:=fun b h1 h2 h3 =>
  (hg2.block b (Nat.lt_of_lt_of_le h1 hg.size) (fun e=>h3 (by first | exact(Option.some.inj e).symm | exact Option.some.inj e))).trans (hg.block b h1 (fun e=>by have:=hob b (by first | exact e | exact e.symm);omega))
 refine⟨KeepsOthers.trans (KeepsOthers.of_grownBy hg (fun j o hj=>Cr.row_cells hO j o hj)) (KeepsOthers.setCell _ _ _),?_,⟨⟨A2,c2,hx2.set 0 _,?_⟩,(go _ h.l.lt hlb hl).trans h.l,(go _ h.f.lt hfb (fun e=>?_)).trans h.f,?_,Nat.le_trans h.hs (Nat.le_trans hg.size hg2.size)⟩⟩
 . refine KpT.trans ?_ (KpT.grown hg2 hx2 (by decide))
   obtain⟨-,g1⟩:=Ownv.cases hO;rcases g1 with⟨q,rfl,rfl⟩ | ⟨g,cur,q,-,hh,-⟩
   . rw [q]at hg
     exact⟨hg.size,fun k ty cs _ hk=>(hg.block k hk.lt nofun).trans hk⟩
   . rw [q]at hg
     exact KpT.grown hg hh (by decide)
 . refine Cr.own_set_blk hx2 ?_ (by decide) 0 _
   have e:ys.take (t+1)=ys.take t ++ [v]:=by rw [List.take_succ_eq_append_getElem ht,hv,gi_eq _ _ ht]
   rw [e];simpa using hO2
 . have:=(show W.heap[FB]?=_ from h.f).symm.trans (e ▸ hX)
   simp only [Option.some.injEq,Obj.cells.injEq]at this;exact absurd this.2.1 (by decide)
 . exact(h.bl.grown hg h.bl.size (fun k hk=>Nat.le_trans hw (hob k (by first | exact hk | exact hk.symm)))).grown hg2 (Nat.le_trans h.bl.size hg.size) (fun k hk=>by cases hk;exact hwO)
theorem scrS_any(init:Int)(er:Int)(A:Option Addr)(n c:Nat)(xs:List Int)(w:World)(hi:init / 2147483648=0)(h:Rd .i64 w A n c xs)(hn:n<=131072)(hv:∀ q,q<n->-127<=gi xs q/\gi xs q<=127)(hvb:SoftB xs=true) :
 Calls prog 202 #[.int .u32 init,.slice A n c,.func (.func 203) #[] #[],.int .i64 er,.func (.func 204) #[] #[]] w fun e w'=>∃ A' c',e= .returned (.tuple #[.slice A' n c',.int .i64 0])/\Own .i64 3 w' w.heap.size A' n c' (scS init xs)/\Below w.heap.size w w':=by
 have HLB:=aq ((Blk.new w [.slice A n c] 51 rfl).alloc (.cells #[.func (.func 204) #[] #[]] 176));have HFB:=aq (Blk.new (w.alloc (.cells #[.slice A n c] 51)) [.func (.func 204) #[] #[]] 176 rfl);have HB2:=aq (bal (bal (Below.refl w.heap.size w) (.cells #[.slice A n c] 51)) (.cells #[.func (.func 204) #[] #[]] 176));have HLX:=aq h.len;have HR:=aq h;have HV:=aq hv;have HVB:=aq hvb;have HI:=aq hi;clear h hv hvb;refine(callsIn_wide (n:=3)).1 ?_;refine callsIn_of_wp_marks func202 rfl trivial ?_;simp only [ntmps202,List.size_toArray,List.length_cons,List.length_nil,Nat.reduceAdd,Nat.reduceSub,Array.replicate_succ,Array.replicate_zero,List.push_toArray,List.append_toArray,List.nil_append,List.cons_append];refine wpIn_wide.2 ?_;go_wp2_with fail;have HR2:=aq (Rdv.below HR.o HB2.o);have HLZ:Hid (w.heap.size+2=((w.alloc (.cells #[.slice A n c] 51)).alloc (.cells #[.func (.func 204) #[] #[]] 176)).heap.size):=aq (by simp);generalize (w.alloc (.cells #[.slice A n c] 51)).alloc (.cells #[.func (.func 204) #[] #[]] 176)=w2 at *;have HFB':Hid (Blk w2 (w.heap.size+1) 176 [.func (.func 204) #[] #[]]):=aq (by have:=HFB.o;simpa using this);have HCF:=aq (gscont_any A n c xs w2 HR2.o);rw [HVB.o]at HCF;clear HFB;refine HCF.o.mono ?_;rintro e w3 ⟨rfl,hB3⟩;have HB3:=aq (HB2.o.trans (hB3.mono HB2.o.size));have HLB:=aq (HLB.o.below hB3);have HFB':=aq (HFB'.o.below hB3);have hz23:=hB3.size;clear hB3;have cL:=HLB.o.cell (j:=0) (v:=.slice A n c) rfl;have hn1:¬ 131072<(n:Int):=by omega
 by_cases h0:n=0
 . subst h0
   go_wp2_with (first
    | (at_make;refine list_of rfl fun K hK=>Cr.wp_mk0 (n:=0) (kl:=.i64) (kr:=.i64) _ _ 51 rfl el22 rfl rfl (by omega) (by unfold maxLen;omega) ?_;intro A4 w4 hO4 hB4;have HO4:=aq hO4;have HB4:=aq hB4;have cL4:=(HLB.o.below hB4).alloc (.cells #[.slice A4 0 0] 51) |>.cell (j:=0) (v:=.slice A 0 c) rfl;clear hO4 hB4;refine hK _ _ ?_;clear hK K)
    | go_step3)
   exact⟨_,results_tmp2 rfl _ _ _,A4,0,rfl,Own.of_eq (Ownv.mono (Ownv.alloc HO4.o (.cells #[.slice A4 0 0] 51)) HB3.o.size) rfl (by unfold scS;rw [show xs.length=0 by simpa using HLX.o];rfl),(bal (HB3.o.trans (HB4.o.mono HB3.o.size)) (.cells #[.slice A4 0 0] 51))⟩
 . have hn0:((n:Int) == 0)=false:=beq_f (by omega)
   go_wp2_with (first
    | (at_make;refine list_of rfl fun K hK=>Cr.wp_mk0 (n:=n) (kl:=.i64) (kr:=.i64) _ _ 51 rfl el22 rfl rfl (by omega) (by unfold maxLen;omega) ?_;intro A4 w4 hO4 hB4;have HO4:=aq hO4;have HB4:=aq hB4;have cL4:=(HLB.o.below hB4).alloc (.cells #[.slice A4 0 n] 51) |>.cell (j:=0) (v:=.slice A n c) rfl;clear hO4 hB4;refine hK _ _ ?_;clear hK K)
    | go_step3)
   refine(gbits_any init _).mono ?_;rintro e w6 ⟨rfl,hI6,hB6⟩;have HI6:=aq hI6;have HX6:=aq ((Blk.new w4 [.slice A4 0 n] 51 rfl).below hB6);have HO6:=aq (Ownv.below (Ownv.alloc HO4.o (.cells #[.slice A4 0 n] 51)) hB6);have HB36:=aq ((bal HB4.o (.cells #[.slice A4 0 n] 51)).trans (hB6.mono (bal HB4.o (.cells #[.slice A4 0 n] 51)).size));have HB6:=aq (HB3.o.trans (HB36.o.mono HB3.o.size));have HL6:=aq (HLB.o.below HB36.o);have HF6:=aq (HFB'.o.below HB36.o);have HSEQ:=aq (gold_seq init (w4.alloc (.cells #[.slice A4 0 n] 51)).heap.size n HI.o (by omega) w6 HI6.o);have HLY:Hid ((scS init xs).length=n):=aq (by rw [scS_len];simpa using HLX.o);have HK:Hid (ScKS w w3.heap.size w.heap.size (w.heap.size+1) w4.heap.size A n c xs (scS init xs) 0 w6):=aq ⟨⟨A4,n,HX6.o,HO6.o⟩,HL6.o,HF6.o,HB6.o,HB36.o.size⟩;have hz3:w.heap.size+2<=w3.heap.size:=by have:=HLZ.o;omega
   have hz4:w3.heap.size<=w4.heap.size:=HB4.o.size;have hz6:w4.heap.size<w6.heap.size:=HX6.o.lt;have hpos:0<n:=by omega
   clear HI6 HX6 HO6 HL6 HF6 cL cL4 hI6 hB6 HCF HLB HFB' HB2 HLZ HO4;generalize (w4.alloc (.cells #[.slice A4 0 n] 51)).heap.size=IB at *;go_wp2_with fail;refine(wpIn_wide (n:=3)).1 ?_;refine' Cr.rangeT (w0:=w6) (gf:=308) (lb:=#[.pointer (some ⟨IB,0,none⟩)]) (T:=n) rfl (enters_of func308 (by kernel_rfl) rfl) HSEQ.o KpT.trans
    (fun W l o o' hl h1 h2=>KpT.put o' h1 h2) (Below.refl _ _) (fun _=>rfl)
    (fun pre W=>ScKS w w3.heap.size w.heap.size (w.heap.size+1) w4.heap.size A n c xs (scS init xs) pre.length W/\pre.length<n)
    (fun cd pre W=>cd= .exit 1/\ScKS w w3.heap.size w.heap.size (w.heap.size+1) w4.heap.size A n c xs (scS init xs) pre.length W/\pre.length=n)
    (fun s X Y h hb=>⟨h.1.clB hb,h.2⟩) (fun cd s X Y h hb=>⟨h.1,h.2.1.clB hb,h.2.2⟩)
    (fun s X Y r t x f hr h hk ht hg=>⟨h.1.clR (by omega) hk ht hg,h.2⟩) (fun cd s X Y r t x f hr h hk ht hg=>⟨h.1,h.2.1.clR (by omega) hk ht hg,h.2.2⟩)
    (fun s X l o o' h hl hk ho=>⟨h.1.clP o' (by omega) hk ho,h.2⟩) (fun cd s X l o o' h hl hk ho=>⟨h.1,h.2.1.clP o' (by omega) hk ho,h.2.2⟩)
    (fun pre W h=>h.2) ⟨HK.o,hpos⟩ _ ?assign ?body ?done ?stop
   case assign =>
    intro l x W K hK;unfold encB;gi_wp2;exact hK
   case done =>
    rintro D xs W hD h;exact h.elim
   case stop =>
    rintro D cd pre W hD _ ⟨rfl,hI,hlen⟩ hK;obtain⟨A9,c9,hx,hO⟩:=hI.o;have cO:=hx.cell (j:=0) (v:=.slice A9 pre.length c9) rfl;have HO9:=aq (Ownv.mono (Cr.Ownv.put hO (.deferred none) hK rfl) (show w.heap.size<=w3.heap.size by omega));have HB9:=aq (hI.bl.grown (grownBy_putObj' W D (.deferred none)) hI.bl.size (fun k e=>by cases e;omega));rw [hlen]at cO HO9;rw [List.take_of_length_le (by rw [HLY.o];exact Nat.le_refl _)]at HO9;clear hO hx hI;refine wpIn_exit ?_;go_wp2;refine⟨by simp,.inl ⟨_,_,rfl,run_takeDeferred hK,?_⟩⟩;exact⟨_,results_tmp2 rfl _ _ _,A9,c9,rfl,HO9.o,HB9.o⟩
   case body =>
    rintro l pre x W ⟨hI,hlt⟩ rfl;have hpl:∀ x:Int,(pre ++ [x]).length=pre.length+1:=fun x=>by simp
    obtain⟨A9,c9,hx,hO⟩:=hI.o;have hrw:=Rdv.below HR.o hI.bl;have cL:=hI.l.cell (j:=0) (v:=.slice A n c) rfl;have cF:=hI.f.cell (j:=0) (v:=.func (.func 204) #[] #[]) rfl;have cO:=hx.cell (j:=0) (v:=.slice A9 pre.length c9) rfl;have hixx:=fun W=>Rdv.ix hrw el22 hlt .i64 W;have hcell:=Rd.cell hrw hlt;have hne:=Cr.blk_ne_row hx hO (by decide);have HI:=aq hI;have HX:=aq hx;have HO:=aq hO;have hsz:=hI.hs;have HPL:=aq hpl
    have HFI:=aq (scS_gi init xs pre.length (by have h9:xs.length=n:=by simpa using HLX.o
                                                omega))
    have HVV:=aq (HV.o pre.length hlt);have hyl:pre.length<(scS init xs).length:=by rw [HLY.o];exact hlt
    obtain⟨v0,hv0⟩:∃ v,v=gi xs pre.length:=⟨_,rfl⟩
    rw [<- hv0]at hcell HFI HVV;clear hI hx hO hpl hrw hv0;rcases gSq_bit init pre.length with hb | hb
    . rw [hb]at HFI ⊢
      rw [if_neg (by decide)]at HFI
      gi_wp2_with (first
       | ((with_reducible refine Cr.listAp ?hL ?hh);(case hL=>exact fun⟨_,_,h⟩=>h);intro K hK;refine wp_app1 (w:=W) (base:=w3.heap.size) _ _ 51 rfl el22 rfl (.int .i64 v0) rfl rfl HO.o (by omega) (by omega) hsz ?_;intro A2 c2 W2 hO2 hg2;have HN:=aq (ScKS.next HI.o HX.o HO.o hyl HFI.o.symm (by omega) (by omega) (by omega) (by omega) (by omega) hO2 hg2);have hx2:=Cr.Blk.grown HX.o hg2 hne;have c2':=hx2.cell (j:=0) (v:=.slice A9 pre.length c9) rfl;have f2':=hx2.frozen 0;have cL3:=HN.o.2.2.l.cell (j:=0) (v:=.slice A n c) rfl;clear hO2 hg2;refine hK _ _ ?_;clear hK K))
      all_goals (rename_i hq)
      all_goals (first
       | (refine⟨HN.o.1,HN.o.2.1,?_⟩
          show ScKS _ _ _ _ _ _ _ _ _ _ (pre ++ [_]).length _/\(pre ++ [_]).length<n;rw [HPL.o]
          exact⟨HN.o.2.2,by have h9:=beq_eq_false_iff_ne.1 hq;omega⟩)
       | (refine⟨HN.o.1,rfl,?_⟩
          show ScKS _ _ _ _ _ _ _ _ _ _ (pre ++ [_]).length _/\(pre ++ [_]).length=n;rw [HPL.o]
          exact⟨HN.o.2.2,by have h9:=eq_of_beq hq;omega⟩))
    . rw [hb]at HFI ⊢
      rw [if_pos rfl]at HFI;have HFI:Hid (gi (scS init xs) pre.length=(-v0)):=aq HFI.o;have HFX:=aq (gsflip_any v0 HVV.o W);obtain⟨v1,hv1⟩:∃ v,v=(-v0):=⟨_,rfl⟩
      rw [<- hv1]at HFI HFX;clear hv1
      gi_wp2_with (first
       | ((with_reducible refine Cr.callR ?_);refine HFX.o.mono ?_;rintro en W1 ⟨rfl,rfl⟩)
       | ((with_reducible refine Cr.listAp ?hL2 ?hh2);(case hL2=>exact fun⟨_,_,h⟩=>h);intro K hK;refine wp_app1 (w:=W) (base:=w3.heap.size) _ _ 51 rfl el22 rfl (.int .i64 v1) rfl rfl HO.o (by omega) (by omega) hsz ?_;intro A2 c2 W2 hO2 hg2;have HN:=aq (ScKS.next HI.o HX.o HO.o hyl HFI.o.symm (by omega) (by omega) (by omega) (by omega) (by omega) hO2 hg2);have hx2:=Cr.Blk.grown HX.o hg2 hne;have c2':=hx2.cell (j:=0) (v:=.slice A9 pre.length c9) rfl;have f2':=hx2.frozen 0;have cL3:=HN.o.2.2.l.cell (j:=0) (v:=.slice A n c) rfl;clear hO2 hg2;refine hK _ _ ?_;clear hK K))
      all_goals (rename_i hq)
      all_goals (first
       | (refine⟨HN.o.1,HN.o.2.1,?_⟩
          show ScKS _ _ _ _ _ _ _ _ _ _ (pre ++ [_]).length _/\(pre ++ [_]).length<n;rw [HPL.o]
          exact⟨HN.o.2.2,by have h9:=beq_eq_false_iff_ne.1 hq;omega⟩)
       | (refine⟨HN.o.1,rfl,?_⟩
          show ScKS _ _ _ _ _ _ _ _ _ _ (pre ++ [_]).length _/\(pre ++ [_]).length=n;rw [HPL.o]
          exact⟨HN.o.2.2,by have h9:=eq_of_beq hq;omega⟩))
end Go.Proofs.YthmhogdceolkdaaGreat
namespace Go.Proofs.YthmhogdceolkdaaGreat
open Tryz
open Go.RowKit
attribute [local go_sem] Oper.semAt_some
theorem scramble_any(init:Int)(A:Option Addr)(n c:Nat)(xs:List Int)(w:World)(hi:init / 2147483648=0)(h:Rd .u8 w A n c xs)(hn:n<=131072)(hv:∀ q,q<n->gi xs q=0\/gi xs q=1)(hvb:Cr.ValidB xs=true) :
 Calls prog 150 #[.int .u32 init,.slice A n c] w fun e w'=>∃ A' c',e= .returned (.tuple #[.slice A' n c',.int .i64 0])/\Own .u8 5 w' w.heap.size A' n c' (sc8 init xs)/\Below w.heap.size w w':=by
 have HS:=aq (fun er=>scr8_any init er A n c xs w hi h hn hv hvb);clear hi h hn hv hvb;go_enter func150,ntmps150;go_wp2_with fail;refine(HS.o _).mono ?_;rintro e w1 ⟨A',c',rfl,hO,hB⟩;have HO:=aq hO;have HB:=aq hB;clear hO hB;go_wp2;go_ret2;exact⟨A',c',rfl,HO.o,HB.o⟩
theorem scrsoft_any(init:Int)(A:Option Addr)(n c:Nat)(xs:List Int)(w:World)(hi:init / 2147483648=0)(h:Rd .i64 w A n c xs)(hn:n<=131072)(hv:∀ q,q<n->-127<=gi xs q/\gi xs q<=127)(hvb:SoftB xs=true) :
 Calls prog 143 #[.int .u32 init,.slice A n c] w fun e w'=>∃ A' c',e= .returned (.tuple #[.slice A' n c',.int .i64 0])/\Own .i64 3 w' w.heap.size A' n c' (scS init xs)/\Below w.heap.size w w':=by
 have HS:=aq (fun er=>scrS_any init er A n c xs w hi h hn hv hvb);clear hi h hn hv hvb;go_enter func143,ntmps143;go_wp2_with fail;refine(HS.o _).mono ?_;rintro e w1 ⟨A',c',rfl,hO,hB⟩;have HO:=aq hO;have HB:=aq hB;clear hO hB;go_wp2;go_ret2;exact⟨A',c',rfl,HO.o,HB.o⟩
theorem btw_any(n a b:Int)(w:World):Calls prog 104 #[.int .i64 n,.int .i64 a,.int .i64 b] w fun e w'=>e= .returned (.bool (decide (a<=n/\n<=b)))/\w=w':=by
 rcases (by omega:¬ a<=n\/(a<=n/\¬ n<=b)\/(a<=n/\n<=b)) with h1 | ⟨h1,h2⟩ | ⟨h1,h2⟩
 . have e1:decide (a<=n/\n<=b)=false:=by simp;omega
   rw [e1];go_enter func104,ntmps104;go_wp2;go_ret;exact⟨rfl,rfl⟩
 . have e1:decide (a<=n/\n<=b)=false:=by simp;omega
   rw [e1];go_enter func104,ntmps104;go_wp2;go_ret;exact⟨rfl,rfl⟩
 . have e1:decide (a<=n/\n<=b)=true:=by simp;omega
   rw [e1];go_enter func104,ntmps104;go_wp2;go_ret;exact⟨rfl,rfl⟩
theorem elB:El prog 218 4 (.bool false) 1:=⟨by kernel_rfl,by kernel_rfl,fun _=>by kernel_rfl,rfl⟩
theorem xbidx_any(A:Option Addr)(n c:Nat)(bs:List Bool)(w:World)(h:Rdv w A n c (bs.map Value.bool)) :
 Calls prog 225 #[.slice A n c,.bool false] w fun e w'=>∃ r:Int,e= .returned (.int .i64 r)/\(decide (0<=r)=!bs.all id)/\w=w':=by
 have hbd:=h.bd.1;have HL:Hid (bs.length=n):=aq (by simpa using h.len);go_enter func225,ntmps225;go_wp2;go_loopw [8] (fun i wr=>∃ j:Nat,j<=n/\i= .int .i64 (j:Int)/\(∀ q,q<j->bs.getD q true=true)/\wr=w) (fun i _=>n - (intOf i).toNat)
 case atStart=>exact⟨0,by omega,rfl,(by intro q hq;omega),rfl⟩
 case round =>
  obtain⟨j,hj,rfl,hv,rfl⟩:=hrel;have HV:=aq hv;clear hv;by_cases hlt:j<n
  . obtain⟨b,hb⟩:∃ b,bs[j]?=some b:=⟨_,List.getElem?_eq_getElem (by rw [HL.o];exact hlt)⟩
    have hc:=h.at_ j (.bool b) (by rw [List.getElem?_map,hb];rfl);have hix:=fun W=>Rdv.ix h elB hlt .i64 W;have HB:=aq hb;clear hb;cases b with
    | true =>
      go_wp2;go_roundw
      case rel=>exact⟨j+1,by omega,by go_num,(fun q hq=>by
       rcases Nat.lt_succ_iff_lt_or_eq.1 hq with h1 | rfl
       . exact HV.o q h1
       . rw [List.getD_eq_getElem?_getD,HB.o];rfl),trivial⟩
      case measure=>simp [intOf];omega
    | false =>
      have hf:bs.all id=false:=by
       rw [List.all_eq_false];exact⟨false,List.mem_of_getElem? HB.o,by simp⟩
      go_wp2;go_ret;exact⟨_,rfl,by rw [hf];simp,rfl⟩
  . have hf:bs.all id=true:=by
     rw [List.all_eq_true];intro b hb;obtain⟨q,hq,rfl⟩:=List.getElem_of_mem hb;have:=HV.o q (by have:=HL.o;omega);rw [List.getD_eq_getElem?_getD,List.getElem?_eq_getElem hq]at this;exact this
    go_wp2
    go_ret
    exact⟨_,rfl,by rw [hf];simp,rfl⟩
theorem xbcont_any(A:Option Addr)(n c:Nat)(bs:List Bool)(w:World)(h:Rdv w A n c (bs.map Value.bool)) :
 Calls prog 159 #[.slice A n c,.bool false] w fun e w'=>e= .returned (.bool (!bs.all id))/\w=w':=by
 have HI:=aq (xbidx_any A n c bs w h);clear h;go_enter func159,ntmps159;go_wp2_with fail;refine HI.o.mono ?_;rintro e w' ⟨r,rfl,hr,rfl⟩;have HR:=aq hr;clear hr;go_wp2;go_ret;exact⟨ret_bool HR.o,rfl⟩
theorem gall_any(A:Option Addr)(n c:Nat)(bs:List Bool)(w:World)(h:Rdv w A n c (bs.map Value.bool)) :
 Calls prog 98 #[.slice A n c] w fun e w'=>e= .returned (.bool (bs.all id))/\w=w':=by
 have HI:=aq (xbcont_any A n c bs w h);clear h;go_enter func98,ntmps98;go_wp2_with fail;refine HI.o.mono ?_;rintro e w' ⟨rfl,rfl⟩;go_wp2;go_ret;exact⟨ret_bool (by simp),rfl⟩
theorem width_any(B c k:Int)(w:World)(hB:0<=B/\B<=100):Calls prog 101 #[.agg #[.int .i64 B,.int .i64 c,.int .i64 k]] w fun e w'=>e= .returned (.int .i64 (12*B))/\Below w.heap.size w w':=by
 obtain⟨h1,h2⟩:=hB;have HB:=aq ((Below.refl w.heap.size w).alloc (Nat.le_refl _) (.cells #[.int .i64 B,.int .i64 c,.int .i64 k] 63));go_enter func101,ntmps101;go_wp2;go_ret;exact⟨rfl,HB.o⟩
end Go.Proofs.YthmhogdceolkdaaGreat