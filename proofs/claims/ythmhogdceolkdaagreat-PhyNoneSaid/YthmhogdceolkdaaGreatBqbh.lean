/- Bundle. Conditions: none. -/
import Derived.Test.YthmhogdceolkdaaGreatBqbg
set_option linter.unusedVariables false
set_option linter.unusedSimpArgs false
namespace Go.Proofs.YthmhogdceolkdaaGreat.Cr
open Tryz
open Go.RowKit Go.Shelf
attribute [local go_sem] Oper.semAt_some
set_option maxRecDepth 100000
set_option maxHeartbeats 4000000
section
variable {P : Program} {w : World} {n : Nat} {e : TypeId}
theorem callR{l n g:Nat}{args:Array Value}{W:World}{Q:Ending->World->Prop}(h:Calls P g args W Q):Fence.wide.fn g/\CallsIn (Fence.wide.inRound l) n P g args W Q:=⟨trivial,CallsIn.inRound l (callsIn_wide.2 h)⟩
theorem listAp{P:Program}{Q:Exit->Act->World->Prop}{n l:Nat}{ops:Array Oper}{rest:List Oper}{a:Act}{w:World}{d:Option Tmp}{aa:Array Operand}{ts:Array TypeId}{t:TypeId}{ps:String}{af:Array Edge}(hL:¬ LetsOut Q)
 (h:∀ K:Act->World->Prop,(∀ a w,wpListIn (Fence.wide.inRound l) n P ops Q rest a w->K a w)->({dst:=d,op:=.call {callee:=.builtin .append,args:=aa,argTypes:=ts},type:=t,pos:=ps,after:=af,guard:=none}:Oper).wp P a w K Q) :
 wpListIn (Fence.wide.inRound l) n P ops Q ({dst:=d,op:=.call {callee:=.builtin .append,args:=aa,argTypes:=ts},type:=t,pos:=ps,after:=af,guard:=none} :: rest) a w:=listRn_of rfl nofun hL h
theorem wp_mk0{o:Oper}{a:Act}{K:Act->World->Prop}{Q:Exit->Act->World->Prop}(l r:Operand)(t:TypeId)
 (ho:o.op= .makeSlice t l r) {z:Value} {bytes:Nat} (hE:El P t e z bytes) {kl kr:IntKind} (hs:a.eval l= .int kl 0) (hx:a.eval r= .int kr (n:Int))
 (hby:bytes*n<=281474976710656) (hm:n<=maxLen)
 (h:∀ A w',Ownv e w' w.heap.size A 0 n []->Below w.heap.size w w'->K (a.put o.dst (.slice A 0 n)) w'):o.wp P a w K Q:=by
 obtain⟨i,hi,hz0,hz1,hz2⟩:=info_parts hE.i;have hb':((bytes:Nat):Int)*(n:Int)<=281474976710656:=by
  have h':((bytes*n:Nat):Int)<=281474976710656:=by omega
  rwa [Int.natCast_mul]at h'
 have hr:=run_make (P:=P) w t e i z hE.u hi hz0 kl kr 0 n (by omega) (by omega) (by rw [hz2];exact hb') (by unfold maxLen at hm;omega);simp only [Int.toNat_natCast,Int.toNat_zero]at hr;unfold Oper.wp;simp only [execOp,ho,Sem.run_bind,Sem.run_pure,Result.andThen_ok,hs,hx,hr];have h2:=World.ownsRow_lit (e:=e) (size:=1) w (madeCells z.cells (n*i.size)) n (Nat.le_refl _) hm (by rw [size_madeCells,hz1]);rw [hz1,hE.z1,Nat.mul_one]at h2 ⊢;refine h _ _ ?_ ((Below.refl _ _).alloc (Nat.le_refl _) _);have h3:Ownv e (w.alloc (.cells (madeCells #[z] n) e)) w.heap.size (some ⟨w.heap.size,0,none⟩) n n (madeCells #[z] n).toList:=⟨h2⟩
 exact h3.upto (Nat.zero_le _)
end
theorem Rdv.keepN{B OB:Nat}{W W':World}{A:Option Addr}{n c:Nat}{vs:List Value}(h:Rdv W A n c vs)(hk:KpN B OB W W')(hA:A≠none->blk A≠OB/\blk A<B):Rdv W' A n c vs:=by
 by_cases hc:0<c
 . obtain⟨b,o,rfl,hb⟩:=h.ptr hc
   have h1:=hA (by simp);refine⟨h.len,h.le,h.cm,h.nil,h.spot,fun _ a ha=>Nat.lt_of_lt_of_le (h.lt hc a ha) hk.1,fun j v hj=>?_⟩;rw [<- h.at_ j v hj];exact World.cell?_of_block (hk.2 b h1.2 h1.1)
 . have h1:=h.le
   have h2:=h.len;obtain rfl:vs=[]:=List.eq_nil_of_length_eq_zero (by omega);exact⟨h.len,h.le,h.cm,h.nil,fun h9=>absurd h9 hc,fun h9=>absurd h9 hc,by simp⟩
def ArKp(BB:Nat)(A:Option Addr)(N c:Nat)(B:List Int)(X Y:World):Prop:=(Blk X BB 51 [.slice A N c]->Blk Y BB 51 [.slice A N c])/\(Rd .i64 X A N c B->Rd .i64 Y A N c B)
theorem ArKp.rfl'{BB:Nat}{A:Option Addr}{N c:Nat}{B:List Int}{X:World}:ArKp BB A N c B X X:=⟨id,id⟩
theorem ArKp.trans{BB:Nat}{A:Option Addr}{N c:Nat}{B:List Int}{X Y Z:World}(h:ArKp BB A N c B X Y)(k:ArKp BB A N c B Y Z):ArKp BB A N c B X Z:=⟨fun x=>k.1 (h.1 x),fun x=>k.2 (h.2 x)⟩
theorem ArKp.put{BB:Nat}{A:Option Addr}{N c:Nat}{B:List Int}{W:World}{D l:Nat}(o':Obj)(hB:BB<D)(hA:A≠none->blk A<D)(hl:D<=l):ArKp BB A N c B W (W.putObj l o') :=
 ⟨fun h=>(World.putObj_heap_other (by omega)).trans h,fun h=>Rdv.grown0 h (grownBy_putObj' W l o') (fun hc e=>by
   obtain⟨b,o,rfl,hb⟩:=h.ptr hc;have h2:=hA (by simp);rw [Option.some.injEq]at e
   omega)⟩
theorem ar_seq(B:List Int)(st N:Nat)(A:Option Addr)(c FB BB T:Nat)(hN1:1<=N)(hN:N<=100000)(hst:st<N)(w:World)
 (hF:Blk w FB 3 [.int .i64 st]) (hB:Blk w BB 51 [.slice A N c]) (hR:Rd .i64 w A N c B) :
 SeqF 2 291 #[.pointer (some ⟨FB,0,none⟩),.pointer (some ⟨BB,0,none⟩)] encI (ArKp BB A N c B) (fun _=>False) (fun _=>True) (fun pre x=>x=rgV B st N pre.length) T w :=
 fun l J Jx W hb hJ hJx hY hT h0=>ar_in l B st N A c FB BB T hN1 hN hst (ArKp BB A N c B) W (hF.below hb) (hB.below hb) (Rdv.below hR hb)
  (fun X Y hk hbx hrx=>⟨hk.1 hbx,hk.2 hrx⟩) J Jx hJ hJx hY hT h0
structure PsK (w:World) (Bz:Nat) (B:List Int) (st N OB EB e:Nat) (t:Nat) (W:World):Prop where
 o:∃ A c,Blk W OB 51 [.slice A (selL B st N t).length c]/\Own .i64 3 W Bz A (selL B st N t).length c (selL B st N t)
 eb:Blk W EB 3 [.int .i64 e]
 bl:Below w.heap.size w W
 hs:Bz<=W.heap.size
theorem PsK.clB{w:World}{Bz:Nat}{B:List Int}{st N OB EB e:Nat}{W W':World}{t:Nat}(h:PsK w Bz B st N OB EB e t W)(hb:Below W.heap.size W W'):PsK w Bz B st N OB EB e t W':=by
 obtain⟨A,c,h1,h2⟩:=h.o;exact⟨⟨A,c,h1.below hb,Ownv.below h2 hb⟩,h.eb.below hb,h.bl.trans (hb.mono h.bl.size),Nat.le_trans h.hs hb.size⟩
theorem PsK.clP{w:World}{Bz Bq:Nat}{B:List Int}{st N OB EB e:Nat}{W:World}{t l:Nat}{o:Obj}(h:PsK w Bz B st N OB EB e t W)(o':Obj)(hw:w.heap.size<=Bq)(hl:Bq<=l)(hk:W.heap[l]?=some o)(ho:o.isCells=false):PsK w Bz B st N OB EB e t (W.putObj l o'):=by
 obtain⟨A,c,h1,h2⟩:=h.o;have hg:=grownBy_putObj' W l o';exact⟨⟨A,c,h1.put o' hk ho,Ownv.put h2 o' hk ho⟩,h.eb.put o' hk ho,h.bl.grown hg h.bl.size (fun k e=>by cases e;omega),Nat.le_trans h.hs hg.size⟩
theorem PsK.next{w W W2:World}{Bz:Nat}{B:List Int}{st N OB EB e t:Nat}(h:PsK w Bz B st N OB EB e t W){A A2:Option Addr}{c c2:Nat}{x:Int}(hw:w.heap.size<=Bz)(hwO:w.heap.size<=OB)(hEO:EB≠OB)(hEB:EB<Bz)(hx:x=rgV B st N t)(hx0:0<=x)
 (hX:Blk W OB 51 [.slice A (selL B st N t).length c]) (hO:Own .i64 3 W Bz A (selL B st N t).length c (selL B st N t))
 (hO2:Ownv 3 W2 Bz A2 ((selL B st N t).length+1) c2 ((selL B st N t).map (Value.int .i64) ++ [.int .i64 x])) (hg:W.grownBy W2 ((Value.slice A (selL B st N t).length c).ownBlock)) :
 KeepsOthers W (W2.setCell ⟨OB,0,none⟩ (.slice A2 ((selL B st N t).length+1) c2))/\(∀ BB AA N' c',BB≠OB->(AA≠none->blk AA≠OB/\blk AA<Bz)->ArKp BB AA N' c' B W (W2.setCell ⟨OB,0,none⟩ (.slice A2 ((selL B st N t).length+1) c2)))/\PsK w Bz B st N OB EB e (t+1) (W2.setCell ⟨OB,0,none⟩ (.slice A2 ((selL B st N t).length+1) c2)):=by
 have hob:∀ k,(Value.slice A (selL B st N t).length c).ownBlock=some k->Bz<=k:=fun k hk=>Ownv.ob' hO hk;have hx2:Blk W2 OB 51 [.slice A (selL B st N t).length c]:=hX.grown hg (blk_ne_row hX hO (by decide));have hg2:=grownBy_set W2 OB 0 (.slice A2 ((selL B st N t).length+1) c2);have hs1:selL B st N (t+1)=selL B st N t ++ [x]:=by rw [hx]at hx0 ⊢;exact selL_step hx0
 have hl1:(selL B st N (t+1)).length=(selL B st N t).length+1:=by rw [hs1,List.length_append];rfl
 have hO2':Own .i64 3 W2 Bz A2 (selL B st N (t+1)).length c2 (selL B st N (t+1)):=by
  rw [hl1,hs1];unfold Own;simpa using hO2
 have hbd:=h.bl;have hs:=h.hs;refine⟨KeepsOthers.trans (KeepsOthers.of_grownBy hg (fun j o hj=>row_cells hO j o hj)) (KeepsOthers.setCell _ _ _),?_,⟨⟨A2,c2,by rw [hl1];exact hx2.set 0 _,own_set_blk hx2 hO2' (by decide) 0 _⟩,?_,?_,?_⟩⟩
 . intro BB AA N' c' hBO hAO
   have hk:=KpN.trans (KpN.grown hg (fun r hr=>.inr (hob r hr)) hs) (KpN.grown hg2 (fun r hr=>.inl (Option.some.inj hr).symm) (Nat.le_trans hs hg.size));exact⟨fun hB=>(hB.grown hg (blk_ne_row hB hO (by decide))).other (fun e=>hBO e.symm) 0 _,fun hR=>Rdv.keepN hR hk hAO⟩
 . exact(h.eb.grown hg (fun e=>by have:=hob _ e.symm;omega)).other (fun e=>hEO e.symm) 0 _
 . exact(hbd.grown hg hbd.size (fun k hk=>Nat.le_trans hw (hob k hk))).grown hg2 (Nat.le_trans hbd.size hg.size) (fun k hk=>by cases hk;exact hwO)
 . exact Nat.le_trans hs (Nat.le_trans hg.size hg2.size)
theorem PsK.skip{w W:World}{Bz:Nat}{B:List Int}{st N OB EB e t:Nat}(h:PsK w Bz B st N OB EB e t W)(hx:rgV B st N t<0):PsK w Bz B st N OB EB e (t+1) W:=by
 obtain⟨h1,h2,h3,h4⟩:=h;exact⟨by rw [selL_skip hx];exact h1,h2,h3,h4⟩
def PoPost(B:List Int)(st N e:Nat)(w:World)(en:Ending)(w':World):Prop :=
 Below w.heap.size w w'/\((e≠0/\usC B=0/\en= .returned (.tuple #[.slice none 0 0,.int .i64 10])) \/
  ((e=0\/usC B≠0)/\∃ A c T,(selL B st N T).length=e/\en= .returned (.tuple #[.slice A e c,.int .i64 0])/\Own .i64 3 w' w.heap.size A e c (selL B st N T)))
theorem positions_any(k f rv e:Nat)(lim:Int)(w:World)(h1:40<=k)(h2:k<=6144)(hf:f<k)(hl:1<=lim)(hrv:rv<=3)(he:e<=131072) :
 Calls prog 174 #[.int .i64 k,.int .i64 f,.int .i64 lim,.int .i64 rv,.int .i64 e] w (PoPost ((bufL k f).take (szB k lim)) (stS k (szB k lim) rv) (szB k lim) e w):=by
 have HOF:=aq (fun W=>rof_ok k f lim W h1 h2 hf hl);have hzb:=szB_bd k hl;have hN:=nB_le h2;have HBF:=aq (fun W=>buf0_ok k f (szB k lim) W h1 h2 hzb.2);have hZ1:=hzb.1;have hZ2:szB k lim<=20000:=by omega
 have HST:=aq (fun W=>start_any k f (szB k lim) rv W h2 hZ1 hZ2 hrv);have hst:stS k (szB k lim) rv<szB k lim:=Nat.mod_lt _ (by omega);have hBl:((bufL k f).take (szB k lim)).length=szB k lim:=by rw [List.length_take,show(bufL k f).length=3*nB k from by unfold bufL;exact bufT_len _ _ _];omega
 clear h1 h2 hf hl;generalize (bufL k f).take (szB k lim)=B at *;generalize stS k (szB k lim) rv=st at *;generalize szB k lim=Z at *;generalize nB k=M at *;generalize rwS (k+4)=R at *;refine(callsIn_wide (n:=3)).1 ?_;refine callsIn_of_wp_marks func174 rfl trivial ?_;simp only [ntmps174,List.size_toArray,List.length_cons,List.length_nil,Nat.reduceAdd,Nat.reduceSub,Array.replicate_succ,Array.replicate_zero,List.push_toArray,List.append_toArray,List.nil_append,List.cons_append];refine wpIn_wide.2 ?_;have HE0:=aq (Blk.new w [.int .i64 e] 3 rfl);have HB0:=aq (bal (Below.refl _ w) (.cells [Value.int .i64 e].toArray 3));go_wp2_with fail;refine wp_scope_straight ?_;go_wp2_with fail;refine(HOF.o _).mono ?_;rintro en w1 ⟨rfl,hB1⟩;have HE1:=aq ((HE0.o.below hB1).alloc (.cells #[.int .i64 k,.int .i64 f,.int .i64 R,.int .i64 Z] 280));have HW1:=aq (Blk.new w1 [.int .i64 k,.int .i64 f,.int .i64 R,.int .i64 Z] 280 rfl);have HB1:=aq (bal (HB0.o.trans (hB1.mono HB0.o.size)) (.cells #[.int .i64 k,.int .i64 f,.int .i64 R,.int .i64 Z] 280));have HEW:Hid (w.heap.size<w1.heap.size):=aq ((HE0.o.below hB1).lt);have hW1:=HW1.o;have cE:=HE1.o.cell (j:=0) (v:=.int .i64 e) rfl;clear hB1 HE0 HB0;have q1:decide ((rv:Int)<0)=false:=by first | (simp;done) | (simp;omega)
 have q2:decide ((rv:Int) > 3)=false:=by simp;omega
 have q3:decide ((e:Int)<0)=false:=by first | (simp;done) | (simp;omega)
 have q4:decide ((e:Int) > 131072)=false:=by simp;omega
 go_wp2_with (refine ldrow (cs:=[.int .i64 k,.int .i64 f,.int .i64 R,.int .i64 Z]) rfl 280 (.tmp 12) rfl rfl hW1 _ underlying280 rfl info122 ?_);refine(HBF.o _).mono ?_;rintro en w2 ⟨Ab,rfl,hR,hB2⟩;have HR2:=aq hR;have HE2:=aq (HE1.o.below hB2);have HW2:=aq (HW1.o.below hB2);have HB2:=aq (HB1.o.trans (hB2.mono HB1.o.size));have HWZ:Hid (w1.heap.size<w2.heap.size):=aq HW2.o.lt;have cE2:=HE2.o.cell (j:=0) (v:=.int .i64 e) rfl;clear hR hB2 hW1 cE HE1 HW1 HB1;by_cases he0:e=0
 . subst he0
   go_wp2_with fail;exact⟨_,results_tmp2 rfl _ _ _,HB2.o,.inr ⟨.inl rfl,none,0,0,rfl,rfl,Own.nilv _ _ _ _⟩⟩
 . have q5:((e:Int) == 0)=false:=beq_f (by omega)
   have HNE:=aq he0;have HCF:=aq (cfu_any Ab Z (3*M) B w2 HR2.o (by omega));by_cases hu:usC B=0
   . rw [decide_eq_false (by simpa using hu)]at HCF
     have HU:=aq hu;clear hu he0;go_wp2_with fail;refine HCF.o.mono ?_;rintro en w3 ⟨rfl,rfl⟩;go_wp2_with fail;exact⟨_,results_tmp2 rfl _ _ _,HB2.o,.inl ⟨HNE.o,HU.o,rfl⟩⟩
   . rw [decide_eq_true hu]at HCF
     have HU:=aq hu;obtain⟨jj,hjj,hju⟩:=usC_ne.1 hu;have HJ:=aq (show jj<Z/\0<=gi B jj from⟨by omega,hju⟩);clear hu he0 hjj hju;go_wp2_with fail;refine HCF.o.mono ?_;rintro en w3 ⟨rfl,rfl⟩;have hW2:=HW2.o
     go_wp2_with (first
      | (at_make;refine list_of rfl fun K hK=>wp_mk0 (n:=e) (kl:=.i64) (kr:=.i64) _ _ 51 rfl el34 rfl rfl (by omega) (by unfold maxLen;omega) ?_;intro A4 w4 hO4 hB4;have HO4:=aq hO4;have hW4:=(hW2.below hB4).alloc (.cells #[.slice A4 0 e] 51);have HE4:=aq ((HE2.o.below hB4).alloc (.cells #[.slice A4 0 e] 51));have HB4:=aq hB4;clear hO4 hB4;refine hK _ _ ?_;clear hK K)
      | go_step3
      | (refine ldrow (cs:=[.int .i64 k,.int .i64 f,.int .i64 R,.int .i64 Z]) rfl 280 (.tmp 12) rfl rfl hW4 _ underlying280 rfl info122 ?_))
     have HBA:Hid (Ab≠none->blk Ab<w2.heap.size):=aq (fun hA=>by
      obtain⟨p,hp⟩:=Option.ne_none_iff_exists'.1 hA
      rw [hp];exact HR2.o.lt (by omega) p hp)
     refine(HST.o _).mono ?_;rintro en w5 ⟨rfl,hB5⟩;have HO5:=aq (Ownv.below (Ownv.alloc HO4.o (.cells #[.slice A4 0 e] 51)) hB5);have HX5:=aq ((Blk.new w4 [.slice A4 0 e] 51 rfl).below hB5);have HE5:=aq (HE4.o.below hB5);have HA5:=aq (Below.trans (bal HB4.o (.cells #[.slice A4 0 e] 51)) (hB5.mono (bal HB4.o (.cells #[.slice A4 0 e] 51)).size));have HS4:=aq HB4.o.size;have HS5:=aq HX5.o.lt;clear hB5;go_wp2_with fail;refine(around_any _ _ _ _ _).mono ?_;rintro en w6 ⟨rfl,hb6,hf6,hB6⟩;have HO6:=aq (Ownv.below HO5.o hB6);have HX6:=aq (HX5.o.below hB6);have HE6:=aq (HE5.o.below hB6);have HA6:=aq (HA5.o.trans (hB6.mono HA5.o.size));have HBB:=aq hb6;have HR6:=aq (Rdv.below HR2.o HA6.o);have HSL:=aq hf6.lt;have HFB:=aq hf6;clear hB6 hb6 hf6;have HSEQ:=aq (ar_seq B st Z Ab (3*M) (w5.heap.size+1) w5.heap.size (e*Z) (by omega) (by omega) hst w6 HFB.o HBB.o HR6.o);have HK:Hid (PsK w w2.heap.size B st Z w4.heap.size w.heap.size e 0 w6):=aq ⟨⟨A4,e,HX6.o,HO6.o⟩,HE6.o,HB2.o.trans (HA6.o.mono HB2.o.size),HA6.o.size⟩;have HIT:Hid (∀ t,(selL B st Z t).length<e->t<e*Z):=aq (fun t ht=>selL_lt HJ.o.1 HJ.o.2 ht);have HST:=HWZ.o;have HS4':=HS4.o;have HS5':=HS5.o;have HSL':=HSL.o;have HEW':=HEW.o;clear HO4 HO5 HX5 HE5 HA5 HO6 HX6 HE6 HR6 HBB HFB cE2 hW4 HE4 HCF HJ;go_wp2_with fail;refine(wpIn_wide (n:=3)).1 ?_;refine' rangeF (w0:=w6) (gf:=291) (lb:=#[.pointer (some ⟨w5.heap.size+1,0,none⟩),.pointer (some ⟨w5.heap.size,0,none⟩)]) (T:=e*Z) rfl (enters_of func291 (by kernel_rfl) rfl) HSEQ.o ArKp.trans
      (fun W l o o' hl h1 h2=>ArKp.put o' (by omega) (fun hA=>by have:=HBA.o hA;omega) hl) (Below.refl _ _) (fun _=>rfl)
      (fun pre W=>PsK w w2.heap.size B st Z w4.heap.size w.heap.size e pre.length W/\(selL B st Z pre.length).length<e)
      (fun c pre W=>c= .exit 1/\PsK w w2.heap.size B st Z w4.heap.size w.heap.size e pre.length W/\(selL B st Z pre.length).length=e)
      (fun s X Y h hb=>⟨h.1.clB hb,h.2⟩) (fun c s X Y h hb=>⟨h.1,h.2.1.clB hb,h.2.2⟩)
      (fun s X l o o' h hl hk ho=>⟨h.1.clP o' (by omega) hl hk ho,h.2⟩) (fun c s X l o o' h hl hk ho=>⟨h.1,h.2.1.clP o' (by omega) hl hk ho,h.2.2⟩)
      (fun pre W h=>HIT.o _ h.2) ⟨HK.o,Nat.pos_of_ne_zero HNE.o⟩ _ ?assign ?body ?done ?stop
     case assign =>
      intro l x W K hK;unfold encI;gi_wp2;exact hK
     case done =>
      rintro D xs W hD h;exact h.elim
     case stop =>
      rintro D c pre W hD _ ⟨rfl,hI,hlen⟩ hK;obtain⟨A,c,hx,hO⟩:=hI.o;have cO:=hx.cell (j:=0) (v:=.slice A (selL B st Z pre.length).length c) rfl;have HO9:=aq (Ownv.mono (Ownv.put hO (.deferred none) hK rfl) (show w.heap.size<=w2.heap.size by omega));have HB9:=aq (hI.bl.grown (grownBy_putObj' W D (.deferred none)) hI.bl.size (fun k e=>by cases e;omega));have HLE:=aq hlen;rw [hlen]at cO;clear hO hx hI;refine wpIn_exit ?_;go_wp2;refine⟨by simp,.inl ⟨_,_,rfl,run_takeDeferred hK,?_⟩⟩;refine⟨_,results_tmp2 rfl _ _ _,HB9.o,.inr ⟨.inr HU.o,A,c,pre.length,HLE.o,rfl,?_⟩⟩;have:=HO9.o;rw [HLE.o]at this;exact this
     case body =>
      rintro l pre x W ⟨hI,hlt⟩ rfl;have hpl:∀ x:Int,(pre ++ [x]).length=pre.length+1:=fun x=>by simp
      have HUS:=aq (usable_any (rgV B st Z pre.length) W);by_cases h0:0<=rgV B st Z pre.length
      . obtain⟨A,c,hx,hO⟩:=hI.o
        rw [decide_eq_true h0]at HUS;obtain⟨x,hxe⟩:∃ x,x=rgV B st Z pre.length:=⟨_,rfl⟩
        have HI:=aq hI;have HXE:=aq hxe;have HXP:=aq (show 0<=x by rw [hxe];exact h0);have cO:=hx.cell (j:=0) (v:=.slice A (selL B st Z pre.length).length c) rfl;have hne:=blk_ne_row hx hO (by decide);have HX:=aq hx;have HO:=aq hO;rw [<- hxe]at HUS ⊢;have hsz:=hI.hs;have HPL:=aq hpl;have HML:=aq (show(selL B st Z (pre.length+1)).length=(selL B st Z pre.length).length+1 by rw [selL_step h0,List.length_append];rfl);clear hI hx hO h0 hxe hpl
        gi_wp2_with (first
         | ((with_reducible refine callR ?_);refine HUS.o.mono ?_;rintro en W1 ⟨rfl,rfl⟩)
         | ((with_reducible refine listAp ?hL ?hh);(case hL=>exact fun⟨_,_,h⟩=>h);intro K hK;refine wp_app1 (w:=W) (base:=w2.heap.size) _ _ 51 rfl el34 rfl (.int .i64 x) rfl rfl HO.o (by omega) (by omega) hsz ?_;intro A2 c2 W2 hO2 hg2;have HN:=aq (PsK.next HI.o (by omega) (by omega) (by omega) (by omega) HXE.o HXP.o HX.o HO.o hO2 hg2);have hx2:=HX.o.grown hg2 hne;have c2':=hx2.cell (j:=0) (v:=.slice A (selL B st Z pre.length).length c) rfl;have f2':=hx2.frozen 0;have cE3:=HN.o.2.2.eb.cell (j:=0) (v:=.int .i64 e) rfl;clear hO2 hg2;refine hK _ _ ?_;clear hK K))
        all_goals (rename_i hq)
        all_goals (first
         | (refine⟨HN.o.1,HN.o.2.1 _ _ _ _ (by omega) (fun hA=>⟨by have:=HBA.o hA;omega,HBA.o hA⟩),?_⟩
            show PsK _ _ _ _ _ _ _ _ (pre ++ [_]).length _/\(selL B st Z (pre ++ [_]).length).length<e;rw [HPL.o]
            exact⟨HN.o.2.2,by rw [HML.o];have h9:=beq_eq_false_iff_ne.1 hq;omega⟩)
         | (refine⟨HN.o.1,rfl,?_⟩
            show PsK _ _ _ _ _ _ _ _ (pre ++ [_]).length _/\(selL B st Z (pre ++ [_]).length).length=e;rw [HPL.o]
            exact⟨HN.o.2.2,by rw [HML.o];have h9:=eq_of_beq hq;omega⟩))
      . rw [decide_eq_false h0]at HUS
        have HI:=aq hI;have HLT:=aq hlt;have H0:Hid (rgV B st Z pre.length<0):=aq (by omega);have HPL:=aq hpl;clear hI h0 hlt hpl;generalize hgx:rgV B st Z pre.length=x at *;gi_wp2_with ((with_reducible refine callR ?_);refine HUS.o.mono ?_;rintro en W1 ⟨rfl,rfl⟩);refine⟨KeepsOthers.refl _,ArKp.rfl',?_⟩;show PsK _ _ _ _ _ _ _ _ (pre ++ [_]).length _/\_;rw [HPL.o,selL_skip (by rw [hgx];exact H0.o)];exact⟨PsK.skip HI.o (by rw [hgx];exact H0.o),HLT.o⟩
theorem inv4_any(b:Int)(w:World):Calls prog 277 #[.int .u8 b] w fun e w'=>e= .returned (.bool (decide (1<b)))/\w=w':=by
 go_enter func277,ntmps277;go_wp2;go_wp2;go_ret;exact⟨rfl,rfl⟩
theorem idx4_any(A:Option Addr)(n c:Nat)(xs:List Int)(w:World)(h:Rd .u8 w A n c xs) :
 Calls prog 279 #[.slice A n c,.func (.func 277) #[] #[]] w (IdxPost xs w):=by
 have hbd:=h.bd.1;go_enter func279,ntmps279;go_wp2;go_loop [8] (fun i=>IdxInv n xs i) (fun i=>n - (intOf i).toNat)
 case atStart=>exact⟨0,by omega,rfl,by intro q hq;omega⟩
 case round =>
  obtain⟨j,hj,rfl,hv⟩:=hrel;by_cases hlt:j<n
  . have hc:=Rd.cell h hlt
    have hix:=fun W=>Rdv.ix h el53 hlt .i64 W;have HV:=aq hv;clear hv;by_cases h1:gi xs j<=1
    . have h1':decide (1<gi xs j)=false:=by simp;omega
      go_wp2_with (go_at_call 277;refine(inv4_any _ _).mono ?_;rintro e w' ⟨rfl,rfl⟩);go_round
      case rel=>exact⟨j+1,by omega,by go_num,fun q hq=>lt_succ_cases HV.o h1 q hq⟩
      case measure=>simp [intOf];omega
    . have h1':decide (1<gi xs j)=true:=by simp;omega
      have hf:=aq (validB_f (by rw [h.len];exact hlt) (by omega:1<gi xs j));go_wp2_with (go_at_call 277;refine(inv4_any _ _).mono ?_;rintro e w' ⟨rfl,rfl⟩);go_ret;exact⟨_,rfl,by rw [hf.o];simp,rfl⟩
  . have hf:=aq (validB_t (xs:=xs) (by rw [h.len];intro q hq;exact hv q (by omega)))
    go_wp2;go_ret;exact⟨_,rfl,by rw [hf.o];simp,rfl⟩
theorem contains4_any(A:Option Addr)(n c:Nat)(xs:List Int)(w:World)(h:Rd .u8 w A n c xs) :
 Calls prog 218 #[.slice A n c,.func (.func 277) #[] #[]] w fun e w'=>e= .returned (.bool (!ValidB xs))/\w=w':=by
 go_enter func218,ntmps218;go_wp2_with (go_at_call 279;refine(idx4_any A n c xs w h).mono ?_;rintro e w' ⟨r,rfl,hr,rfl⟩);go_ret;refine⟨ret_bool ?_,rfl⟩;cases hv:ValidB xs<;>simp_all
def MtPost(xs B:List Int)(st N e:Nat)(w:World)(en:Ending)(w':World):Prop :=
 Below w.heap.size w w'/\((e≠0/\usC B=0/\en= .returned (.tuple #[.slice none 0 0,.int .i64 10])) \/
  ((e=0\/usC B≠0)/\∃ A c T,(selL B st N T).length=e/\en= .returned (.tuple #[.slice A e c,.int .i64 0])/\A≠none/\Own .u8 5 w' w.heap.size A e c ((selL B st N T).map fun p=>gi xs p.toNat)))
def MtI(xs L:List Int)(e:Nat)(Am:Option Addr)(w:World)(i:Value)(wr:World):Prop:=∃ (j:Nat) (cur:List Int),j<=e/\i= .int .i64 (j:Int)/\Own .u8 5 wr w.heap.size Am e e cur/\(∀ q,q<j->gi cur q=gi xs (gi L q).toNat)/\Below w.heap.size w wr
theorem match_any(A:Option Addr)(n c:Nat)(xs:List Int)(k f rv e:Nat)(lim:Int)(w:World)(hx:Rd .u8 w A n c xs)(hv:ValidB xs=true)(hn:n=3*(k+4))(h1:40<=k)(h2:k<=6144)(hf:f<k)(hl:1<=lim)(hrv:rv<=3)(he:e<=131072)
 (hBn:∀ x,x ∈ (bufL k f).take (szB k lim)->x<(n:Int)) (hZ0:0<szB k lim) (hZl:szB k lim<=((bufL k f).take (szB k lim)).length) :
 Calls prog 213 #[.slice A n c,.int .i64 f,.int .i64 lim,.int .i64 rv,.int .i64 e] w (MtPost xs ((bufL k f).take (szB k lim)) (stS k (szB k lim) rv) (szB k lim) e w):=by
 have HPO:=aq (fun W=>positions_any k f rv e lim W h1 h2 hf hl hrv he);have HCO:=aq (fun W (h:Rd .u8 W A n c xs)=>contains4_any A n c xs W h);rw [hv]at HCO;have HSM:=aq (fun T x=>selL_mem (B:=(bufL k f).take (szB k lim)) (st:=stS k (szB k lim) rv) (N:=szB k lim) hZ0 hZl T x);generalize (bufL k f).take (szB k lim)=B at *;generalize stS k (szB k lim) rv=st at *;generalize szB k lim=Z at *;have a1:(n:Int).tdiv 3=((k+4:Nat):Int):=by rw [Int.tdiv_eq_ediv_of_nonneg (by omega),hn];omega
 have a2:(n:Int) / 3=((k+4:Nat):Int):=by omega
 have a3:(n:Int).tmod 3=0:=by rw [Int.tmod_eq_emod_of_nonneg (by omega)];omega
 have a4:(n:Int) % 3=0:=by omega
 have a5:IntKind.i64.wrap (((k+4:Nat):Int) - 4)=(k:Int):=by rw [IntKind.wrap_i64];omega
 have a6:IntKind.i64.wrap ((k+4:Nat):Int)=((k+4:Nat):Int):=by rw [IntKind.wrap_i64];omega
 have HX:=aq hx;have HBN:=aq hBn;have HN:=aq hn;obtain⟨k4,hk4⟩:∃ k4,k4=k+4:=⟨_,rfl⟩
 rw [<- hk4]at a1 a2 a5 a6;clear hx hBn hn h1 h2 hf hl hv hk4 hZ0 hZl;go_enter func213,ntmps213;go_wp2_with fail;refine(HPO.o _).mono ?_;rintro en w1 ⟨hB1,h⟩;have HB1:=aq hB1;have HX1:=aq (Rdv.below HX.o hB1);clear hB1;rcases h with⟨hne,hu0,rfl⟩ | ⟨hor,Ap,cp,T,hlen,rfl,hO⟩
 . have HNE:=aq hne
   have HU0:=aq hu0;clear hne hu0;go_wp2_with (go_at_call 218;refine(HCO.o _ HX1.o).mono ?_;rintro en w2 ⟨rfl,rfl⟩);go_ret2;exact⟨HB1.o,.inl ⟨HNE.o,HU0.o,rfl⟩⟩
 . have HLN:=aq hlen
   have HOR:=aq hor
   have HLL:Hid (∀ q,q<e->0<=gi (selL B st Z T) q/\gi (selL B st Z T) q<(n:Int)):=aq (fun q hq=>by
    have h9:=HSM.o T _ (gi_mem (selL B st Z T) q (by omega))
    exact⟨h9.1,HBN.o _ h9.2⟩)
   have HTL:=aq hlen;obtain⟨L,hL⟩:∃ L,selL B st Z T=L:=⟨_,rfl⟩
   have HTE:=aq hL;rw [hL]at HLN HLL hO;clear hL;have HRP:=aq (Own.rd hO);clear hlen hor hO
   go_wp2_with (first
    | (go_at_call 218;refine(HCO.o _ HX1.o).mono ?_;rintro en w2 ⟨rfl,rfl⟩)
    | (at_make;refine list_of rfl fun K hK=>wp_mk (n:=e) _ _ 53 rfl el53 rfl rfl (by omega) (by unfold maxLen;omega) ?_
       intro Am w3 hO3 hB3 hA;have HO3:=aq hO3;have HA:=aq hA;have HB3:=aq hB3;clear hO3 hB3 hA;refine hK _ _ ?_
       clear hK K))
   go_loopw [52] (fun i wr=>MtI xs L e Am w1 i wr) (fun i _=>e - (intOf i).toNat)
   case atStart=>exact⟨0,List.replicate e 0,Nat.zero_le _,rfl,by have:=HO3.o;unfold Own;simpa using this,fun q hq=>by omega,HB3.o⟩
   case round =>
    obtain⟨j,cur,hj,rfl,hO,hsame,hB⟩:=hrel;have HB:=aq hB;have HS:=aq hsame;by_cases hlt:j<e
    . have hlj:=HLL.o j hlt
      have hrp:=Rdv.below HRP.o HB.o;have hrx:=Rdv.below HX1.o HB.o;have cp1:=Rd.cell hrp hlt;have ip1:=fun W=>Rdv.ix hrp el34 hlt .i64 W;obtain⟨p,hp⟩:∃ p:Nat,gi L j=(p:Int):=⟨(gi L j).toNat,by omega⟩
      have HP:=aq hp;rw [hp]at cp1 hlj;have hpn:p<n:=by omega
      have cx1:=Rd.cell hrx hpn;have ix1:=fun W=>Rdv.ix hrx el53 hpn .i64 W;have hcu:=Rd.cell (Own.rd hO) hlt;have hfu:=Ownv.frozen hO (by omega) j;have hiu:=fun W=>Rdv.ix (Own.rd hO) el53 hlt .i64 W;obtain⟨x,hxe⟩:∃ x,gi xs p=x:=⟨_,rfl⟩
      have HXE:=aq hxe;rw [hxe]at cx1;have HST:=aq (Own.set_ hO hlt x);have hbA:=(Ownv.blk_ge hO (by omega)).1;have HB2:=aq (hB.grown (Own.set_ hO hlt x).2 hB.size (fun k e=>by cases e;exact hbA));have hcl:=(Own.rd hO).len;clear hO hB hsame hp hxe hlj;go_wp2;go_roundw
      case rel=>exact⟨j+1,cur.set j x,by omega,by go_num,HST.o.1,lt_succ_cases (fun q hq=>by rw [gi_set _ _ _ _ (by omega),if_neg (by omega)];exact HS.o q hq) (by rw [gi_set _ _ _ _ (by omega),if_pos rfl,HP.o,<- HXE.o];rfl),HB2.o⟩
      case measure=>simp [intOf];omega
    . obtain rfl:j=e:=by omega
      have hle:=(Own.rd hO).len
      have HLE:=aq (show cur=L.map fun p=>gi xs p.toNat from by
       have hL:=HLN.o;have hml:(L.map fun p=>gi xs p.toNat).length=L.length:=List.length_map ..;refine ext_gi (by omega) fun q hq=>?_
       rw [hsame q (by omega),gi_eq (L.map fun p=>gi xs p.toNat) q (by omega),List.getElem_map,gi_eq L q (by omega)])
      have HO9:=aq (Ownv.mono hO (show w.heap.size<=w1.heap.size from HB1.o.size));clear hO hB hsame hle;go_wp2;go_ret2;refine⟨HB1.o.trans (HB.o.mono HB1.o.size),.inr ⟨HOR.o,Am,j,T,HTL.o,rfl,HA.o,?_⟩⟩;have h9:=HO9.o;rw [HLE.o]at h9;rw [HTE.o];exact h9
end Go.Proofs.YthmhogdceolkdaaGreat.Cr
namespace Go.Proofs.YthmhogdceolkdaaGreat.Cr
open Tryz
open Go.RowKit Go.Shelf
theorem sxN_le2(N x:Nat):sxN N x<=2:=by
 unfold sxN;split<;>omega
theorem vX_bd(k f x:Nat):vX k f x<((3*(k+4):Nat):Int):=by
 unfold vX;have h1:=(ordV_bd (d:=k+4) (s:=sxN (nB k) x) (k:=jxN (nB k) x) (by omega)).2;have h2:=Nat.mul_le_mul_right (k+4) (sxN_le2 (nB k) x);generalize ordV (k+4) (sxN (nB k) x) (jxN (nB k) x)=v at *;generalize sxN (nB k) x=s at *;unfold elV;generalize s*(k+4)=m at *;split<;>omega
theorem bufL_bd(k f Z:Nat):∀ x,x ∈ (bufL k f).take Z->x<((3*(k+4):Nat):Int):=by
 intro x hx;have h:=List.mem_of_mem_take hx;unfold bufL bufT at h;obtain⟨j,-,rfl⟩:=List.mem_map.1 h;exact vX_bd k f j
theorem match_ok(A:Option Addr)(c:Nat)(xs:List Int)(k f rv e:Nat)(lim:Int)(w:World)(hx:Rd .u8 w A (3*(k+4)) c xs)(hv:ValidB xs=true)(h1:40<=k)(h2:k<=6144)(hf:f<k)(hl:1<=lim)(hrv:rv<=3)(he:e<=131072) :
 Calls prog 213 #[.slice A (3*(k+4)) c,.int .i64 f,.int .i64 lim,.int .i64 rv,.int .i64 e] w (MtPost xs ((bufL k f).take (szB k lim)) (stS k (szB k lim) rv) (szB k lim) e w):=by
 have hzb:=szB_bd k hl;refine match_any A _ c xs k f rv e lim w hx hv rfl h1 h2 hf hl hrv he (bufL_bd k f _) hzb.1 ?_;rw [List.length_take,show(bufL k f).length=3*nB k from by unfold bufL;exact bufT_len _ _ _];omega
attribute [local go_sem] Oper.semAt_some
set_option maxRecDepth 100000
set_option maxHeartbeats 4000000
structure ClS (LB CB EB b:Nat) (lim:Int) (rv:Nat) (A:Option Addr) (n c:Nat) (xs:List Int) (Ae:Option Addr) (me ce i e:Nat) (W:World):Prop where
 l:Blk W LB 122 (ints8 (LY b))
 c3:W.cell? ⟨CB,3,none⟩=some (.int .i64 lim)
 c4:W.cell? ⟨CB,4,none⟩=some (.int .i64 (rv:Int))
 e0:W.cell? ⟨EB,0,none⟩=some (.slice Ae me ce)
 r:∃ es:List Int,Rd .i64 W Ae me ce es/\gi es i=(e:Int)
 x:Rd .u8 W A n c xs
 hi:i<me
theorem ClS.below{LB CB EB b:Nat}{lim:Int}{rv:Nat}{A:Option Addr}{n c:Nat}{xs:List Int}{Ae:Option Addr}{me ce i e:Nat}{W W':World}(h:ClS LB CB EB b lim rv A n c xs Ae me ce i e W)(hb:Below W.heap.size W W'):ClS LB CB EB b lim rv A n c xs Ae me ce i e W':=by
 obtain⟨es,h1,h2⟩:=h.r;exact⟨h.l.below hb,cell_below h.c3 hb,cell_below h.c4 hb,cell_below h.e0 hb,⟨es,Rdv.below h1 hb,h2⟩,Rdv.below h.x hb,h.hi⟩
theorem ClS.ce{LB CB EB b:Nat}{lim:Int}{rv:Nat}{A:Option Addr}{n c:Nat}{xs:List Int}{Ae:Option Addr}{me ce i e:Nat}{W:World}(h:ClS LB CB EB b lim rv A n c xs Ae me ce i e W):W.cell? (adr Ae i)=some (.int .i64 (e:Int)):=by
 obtain⟨es,h1,h2⟩:=h.r;rw [<- h2];exact Rd.cell h1 h.hi
theorem cl28_any(LB CB EB b i e rv k:Nat)(lim:Int)(A Ae:Option Addr)(n c me ce:Nat)(xs B:List Int)(st Z:Nat)(W:World)(hS:ClS LB CB EB b lim rv A n c xs Ae me ce i e W)
 (hM:∀ w,Rd .u8 w A n c xs->Calls prog 213 #[.slice A n c,.int .i64 (fl b i:Int),.int .i64 lim,.int .i64 rv,.int .i64 e] w (MtPost xs B st Z e w)) :
 Calls prog 212 #[.int .i64 i,.slice A n c,.pointer (some ⟨LB,0,none⟩),.pointer (some ⟨CB,0,none⟩),.pointer (some ⟨EB,0,none⟩)] W (MtPost xs B st Z e W):=by
 have HM:=aq hM;have HS4:=aq hS;have HSD:=aq (ClS.below HS4.o ((Below.refl W.heap.size W).drew));clear hM hS;go_enter func212,ntmps212;go_wp2_with fail;refine P_start (ClS LB CB EB b lim rv A n c xs Ae me ce i e) 12 17 #[false,false,false,false,false,false,false,false,false,false,false,false,false,false,false,false,false] (by kernel_rfl) (by kernel_rfl) (by kernel_rfl) ?_;refine P_takeW 0 9 (.slice A n c) #[true,false,false,false,false,false,false,false,false,false,false,false,false,false,false,false,false] rfl rfl (by kernel_rfl) (by kernel_rfl) (by kernel_rfl) (by kernel_rfl) (by decide) (fun _ _ _ h=>h) (Or.inl ⟨by rfl,fun W hS=>by go_simp⟩) HSD.o ?_;simp only [yq0,yq1,yq2];refine P_takeT 1 10 (.agg (ints8 (LY b)).toArray) #[true,true,false,false,false,false,false,false,false,false,false,false,false,false,false,false,false] [3] rfl rfl (by kernel_rfl) (by kernel_rfl) (by kernel_rfl) (by kernel_rfl) (by kernel_rfl) (by kernel_rfl) (by kernel_rfl) (by decide) (fun _ _ _ h=>h) (yieldsIf_load_mid rfl 122 (.tmp 2) rfl LB (0) rfl (ints8 (LY b)) _ (fun W hS=>fun q v hv=>hS.l.cell (by rw [Nat.zero_add];exact hv)) underlying122 rfl (by rw [info23];rfl)) HSD.o ?_;simp only [yq0,yq1,yq2];refine P_takeW 2 11 (.int .i64 (i:Int)) #[true,true,true,false,false,false,false,false,false,false,false,false,false,false,false,false,false] rfl rfl (by kernel_rfl) (by kernel_rfl) (by kernel_rfl) (by kernel_rfl) (by decide) (fun _ _ _ h=>h) (Or.inl ⟨by rfl,fun W hS=>by go_simp⟩) HSD.o ?_;simp only [yq0,yq1,yq2];refine P_takeW 4 13 (.pointer (some ⟨CB,3,none⟩)) #[true,true,true,false,true,false,false,false,false,false,false,false,false,false,false,false,false] rfl rfl (by kernel_rfl) (by kernel_rfl) (by kernel_rfl) (by kernel_rfl) (by decide) (fun _ _ _ h=>h) (Or.inl ⟨by rfl,fun W hS=>by go_simp⟩) HSD.o ?_;simp only [yq0,yq1,yq2];refine P_take 5 14 (.int .i64 lim) #[true,true,true,false,true,true,false,false,false,false,false,false,false,false,false,false,false] rfl rfl (by kernel_rfl) (by kernel_rfl) (by kernel_rfl) (by kernel_rfl) (by kernel_rfl) (by kernel_rfl) (by decide) (fun _ _ _ h=>h) (Or.inl ⟨by rfl,fun W hS=>by have h1:=hS.c3;go_simp⟩) HSD.o ?_;simp only [yq0,yq1,yq2];refine P_takeW 6 15 (.pointer (some ⟨CB,4,none⟩)) #[true,true,true,false,true,true,true,false,false,false,false,false,false,false,false,false,false] rfl rfl (by kernel_rfl) (by kernel_rfl) (by kernel_rfl) (by kernel_rfl) (by decide) (fun _ _ _ h=>h) (Or.inl ⟨by rfl,fun W hS=>by go_simp⟩) HSD.o ?_;simp only [yq0,yq1,yq2];refine P_take 7 16 (.int .i64 (rv:Int)) #[true,true,true,false,true,true,true,true,false,false,false,false,false,false,false,false,false] rfl rfl (by kernel_rfl) (by kernel_rfl) (by kernel_rfl) (by kernel_rfl) (by kernel_rfl) (by kernel_rfl) (by decide) (fun _ _ _ h=>h) (Or.inl ⟨by rfl,fun W hS=>by have h1:=hS.c4;go_simp⟩) HSD.o ?_;simp only [yq0,yq1,yq2];refine P_takeT 8 17 (.slice Ae me ce) #[true,true,true,false,true,true,true,true,true,false,false,false,false,false,false,false,false] [11,10] rfl rfl (by kernel_rfl) (by kernel_rfl) (by kernel_rfl) (by kernel_rfl) (by kernel_rfl) (by kernel_rfl) (by kernel_rfl) (by decide) (fun _ _ _ h=>h) (Or.inl ⟨by rfl,fun W hS=>by have h1:=hS.e0;go_simp⟩) HSD.o ?_;simp only [yq0,yq1,yq2];refine P_takeW 9 18 (.int .i64 (i:Int)) #[true,true,true,false,true,true,true,true,true,true,false,false,false,false,false,false,false] rfl rfl (by kernel_rfl) (by kernel_rfl) (by kernel_rfl) (by kernel_rfl) (by decide) (fun _ _ _ h=>h) (Or.inl ⟨by rfl,fun W hS=>by go_simp⟩) HSD.o ?_;simp only [yq0,yq1,yq2];refine P_takeT 10 19 (.pointer (some (adr Ae i))) #[true,true,true,false,true,true,true,true,true,true,true,false,false,false,false,false,false] [11] rfl rfl (by kernel_rfl) (by kernel_rfl) (by kernel_rfl) (by kernel_rfl) (by kernel_rfl) (by kernel_rfl) (by kernel_rfl) (by decide) (fun _ _ _ h=>h) (Or.inl ⟨by rfl,fun W hS=>by obtain⟨es,h2,-⟩:=hS.r;have h1:=fun W=>Rdv.ix h2 el34 hS.hi .i64 W;go_simp⟩) HSD.o ?_;simp only [yq0,yq1,yq2];refine P_take 11 20 (.int .i64 (e:Int)) #[true,true,true,false,true,true,true,true,true,true,true,true,false,false,false,false,false] rfl rfl (by kernel_rfl) (by kernel_rfl) (by kernel_rfl) (by kernel_rfl) (by kernel_rfl) (by kernel_rfl) (by decide) (fun _ _ _ h=>h) (Or.inl ⟨by rfl,fun W hS=>by have h1:=hS.ce;go_simp⟩) HSD.o ?_;simp only [yq0,yq1,yq2];refine P_oneS 3 #[true,true,true,true,true,true,true,true,true,true,true,true,false,false,false,false,false] rfl (by kernel_rfl) (by kernel_rfl) rfl (fun K hK=>?_);go_simp;refine(tfil_any b i _).mono ?_;rintro en wa ⟨rfl,hBa⟩;have HSa:=aq (ClS.below HSD.o hBa);have HBa:=aq (((Below.refl W.heap.size W).drew).trans hBa);clear hBa;refine hK _ _ HSa.o ?_;clear hK K;refine P_one 12 #[true,true,true,true,true,true,true,true,true,true,true,true,true,false,false,false,false] rfl (by kernel_rfl) (by kernel_rfl) rfl (by kernel_rfl) (fun K hK=>?_);go_simp;refine(HM.o _ HSa.o.x).mono ?_;rintro en wb ⟨hBb,h⟩;have HBb:=aq (HBa.o.trans (hBb.mono HBa.o.size));clear hBb;rcases h with⟨hne,hu0,rfl⟩ | ⟨hor,Am,cm,T,hlen,rfl,hA,hO⟩
 . have HNE:=aq hne
   have HU0:=aq hu0;clear hne hu0;refine hK _ _ ?_;clear hK K;refine P_takeX 13 22 (.slice none 0 0) #[true,true,true,true,true,true,true,true,true,true,true,true,true,true,false,false,false] rfl rfl (by kernel_rfl) (by kernel_rfl) (by kernel_rfl) (by kernel_rfl) (by decide) (fun _ _ _ h=>h) (Or.inl ⟨by rfl,fun W hS=>by go_simp⟩) rfl ?_;simp only [yq0,yq1,yq2];refine P_takeX 14 23 (.int .i64 10) #[true,true,true,true,true,true,true,true,true,true,true,true,true,true,true,false,false] rfl rfl (by kernel_rfl) (by kernel_rfl) (by kernel_rfl) (by kernel_rfl) (by decide) (fun _ _ _ h=>h) (Or.inl ⟨by rfl,fun W hS=>by go_simp⟩) rfl ?_;simp only [yq0,yq1,yq2];refine P_one 15 #[true,true,true,true,true,true,true,true,true,true,true,true,true,true,true,true,false] rfl (by kernel_rfl) (by kernel_rfl) rfl (by kernel_rfl) (fun K hK=>?_);go_simp;refine hK _ _ ?_;clear hK K;refine P_one 16 #[true,true,true,true,true,true,true,true,true,true,true,true,true,true,true,true,true] rfl (by kernel_rfl) (by kernel_rfl) rfl (by kernel_rfl) (fun K hK=>?_);go_simp;refine hK _ _ ?_;clear hK K;refine P_done (by kernel_rfl) ?_ _;go_wp2;go_ret2;exact⟨HBb.o,.inl ⟨HNE.o,HU0.o,rfl⟩⟩
 . have HOR:=aq hor
   have HLN:=aq hlen;have HO:=aq hO;clear hor hlen hO;refine hK _ _ ?_;clear hK K;refine P_takeX 13 22 (.slice Am e cm) #[true,true,true,true,true,true,true,true,true,true,true,true,true,true,false,false,false] rfl rfl (by kernel_rfl) (by kernel_rfl) (by kernel_rfl) (by kernel_rfl) (by decide) (fun _ _ _ h=>h) (Or.inl ⟨by rfl,fun W hS=>by go_simp⟩) rfl ?_;simp only [yq0,yq1,yq2];refine P_takeX 14 23 (.int .i64 0) #[true,true,true,true,true,true,true,true,true,true,true,true,true,true,true,false,false] rfl rfl (by kernel_rfl) (by kernel_rfl) (by kernel_rfl) (by kernel_rfl) (by decide) (fun _ _ _ h=>h) (Or.inl ⟨by rfl,fun W hS=>by go_simp⟩) rfl ?_;simp only [yq0,yq1,yq2];refine P_one 15 #[true,true,true,true,true,true,true,true,true,true,true,true,true,true,true,true,false] rfl (by kernel_rfl) (by kernel_rfl) rfl (by kernel_rfl) (fun K hK=>?_);go_simp;refine hK _ _ ?_;clear hK K;refine P_one 16 #[true,true,true,true,true,true,true,true,true,true,true,true,true,true,true,true,true] rfl (by kernel_rfl) (by kernel_rfl) rfl (by kernel_rfl) (fun K hK=>?_);go_simp;refine hK _ _ ?_;clear hK K;refine P_done (by kernel_rfl) ?_ _;go_wp2;go_ret2;exact⟨HBb.o,.inr ⟨HOR.o,Am,cm,T,HLN.o,rfl,hA,Ownv.mono HO.o HBa.o.size⟩⟩
end Go.Proofs.YthmhogdceolkdaaGreat.Cr