/- Bundle. Conditions: none. -/
import Derived.Test.YtkdfefpnhaebfaaGreatBwobi
set_option linter.unusedVariables false
set_option linter.unusedSimpArgs false
namespace Go.Proofs.YtkdfefpnhaebfaaGreat.Cr
open Go.RowKit Go.Shelf
attribute [local go_sem] Oper.semAt_some
set_option maxRecDepth 100000
set_option maxHeartbeats 4000000
section
variable {P : Program} {w : World} {n : Nat} {e : TypeId}
theorem callR{l n g:Nat}{args:Array Value}{W:World}{Q:Ending→World→Prop}(h:Calls P g args W Q):Fence.wide.fn g∧CallsIn (Fence.wide.inRound l) n P g args W Q:=⟨trivial,CallsIn.inRound l (callsIn_wide.2 h)⟩
theorem listAp{P:Program}{Q:Exit→Act→World→Prop}{n l:Nat}{ops:Array Oper}{rest:List Oper}{a:Act}{w:World}{d:Option Tmp}{aa:Array Operand}{ts:Array TypeId}{t:TypeId}{ps:String}{af:Array Edge}(hL:¬ LetsOut Q)
 (h:∀ K:Act→World→Prop,(∀ a w,wpListIn (Fence.wide.inRound l) n P ops Q rest a w→K a w)→({dst:=d,op:=.call {callee:=.builtin .append,args:=aa,argTypes:=ts},type:=t,pos:=ps,after:=af,guard:=none}:Oper).wp P a w K Q) :
 wpListIn (Fence.wide.inRound l) n P ops Q ({dst:=d,op:=.call {callee:=.builtin .append,args:=aa,argTypes:=ts},type:=t,pos:=ps,after:=af,guard:=none} :: rest) a w:=listRn_of rfl nofun hL h
theorem wp_mk0{o:Oper}{a:Act}{K:Act→World→Prop}{Q:Exit→Act→World→Prop}(l r:Operand)(t:TypeId)
 (ho:o.op= .makeSlice t l r) {z:Value} {bytes:Nat} (hE:El P t e z bytes) {kl kr:IntKind} (hs:a.eval l= .int kl 0) (hx:a.eval r= .int kr (n:Int))
 (hby:bytes*n≤281474976710656) (hm:n≤maxLen)
 (h:∀ A w',Ownv e w' w.heap.size A 0 n []→Below w.heap.size w w'→K (a.put o.dst (.slice A 0 n)) w'):o.wp P a w K Q:=by
 obtain⟨i,hi,hz0,hz1,hz2⟩:=info_parts hE.i
 have hb':((bytes:Nat):Int)*(n:Int)≤281474976710656:=by
  have h':((bytes*n:Nat):Int)≤281474976710656:=by omega
  rwa [Int.natCast_mul]at h'
 have hr:=run_make (P:=P) w t e i z hE.u hi hz0 kl kr 0 n (by omega) (by omega) (by rw [hz2];exact hb') (by unfold maxLen at hm;omega)
 simp only [Int.toNat_natCast,Int.toNat_zero]at hr
 unfold Oper.wp
 simp only [execOp,ho,Sem.run_bind,Sem.run_pure,Result.andThen_ok,hs,hx,hr]
 have h2:=World.ownsRow_lit (e:=e) (size:=1) w (madeCells z.cells (n*i.size)) n (Nat.le_refl _) hm (by rw [size_madeCells,hz1])
 rw [hz1,hE.z1,Nat.mul_one]at h2 ⊢
 refine h _ _ ?_ ((Below.refl _ _).alloc (Nat.le_refl _) _)
 have h3:Ownv e (w.alloc (.cells (madeCells #[z] n) e)) w.heap.size (some ⟨w.heap.size,0,none⟩) n n (madeCells #[z] n).toList:=⟨h2⟩
 exact h3.upto (Nat.zero_le _)
end
theorem Rdv.keepN{B OB:Nat}{W W':World}{A:Option Addr}{n c:Nat}{vs:List Value}(h:Rdv W A n c vs)(hk:KpN B OB W W')(hA:A≠none→blk A≠OB∧blk A<B):Rdv W' A n c vs:=by
 by_cases hc:0<c
 · obtain⟨b,o,rfl,hb⟩:=h.ptr hc
   have h1:=hA (by simp)
   refine⟨h.len,h.le,h.cm,h.nil,h.spot,fun _ a ha=>Nat.lt_of_lt_of_le (h.lt hc a ha) hk.1,fun j v hj=>?_⟩
   rw [← h.at_ j v hj]
   exact World.cell?_of_block (hk.2 b h1.2 h1.1)
 · have h1:=h.le
   have h2:=h.len
   obtain rfl:vs=[]:=List.eq_nil_of_length_eq_zero (by omega)
   exact⟨h.len,h.le,h.cm,h.nil,fun h9=>absurd h9 hc,fun h9=>absurd h9 hc,by simp⟩
def ArKp(BB:Nat)(A:Option Addr)(N c:Nat)(B:List Int)(X Y:World):Prop:=(Blk X BB 39 [.slice A N c]→Blk Y BB 39 [.slice A N c])∧(Rd .i64 X A N c B→Rd .i64 Y A N c B)
theorem ArKp.rfl'{BB:Nat}{A:Option Addr}{N c:Nat}{B:List Int}{X:World}:ArKp BB A N c B X X:=⟨id,id⟩
theorem ArKp.trans{BB:Nat}{A:Option Addr}{N c:Nat}{B:List Int}{X Y Z:World}(h:ArKp BB A N c B X Y)(k:ArKp BB A N c B Y Z):ArKp BB A N c B X Z:=⟨fun x=>k.1 (h.1 x),fun x=>k.2 (h.2 x)⟩
theorem ArKp.put{BB:Nat}{A:Option Addr}{N c:Nat}{B:List Int}{W:World}{D l:Nat}(o':Obj)(hB:BB<D)(hA:A≠none→blk A<D)(hl:D≤l):ArKp BB A N c B W (W.putObj l o') :=
 ⟨fun h=>(World.putObj_heap_other (by omega)).trans h,fun h=>Rdv.grown0 h (grownBy_putObj' W l o') (fun hc e=>by
   obtain⟨b,o,rfl,hb⟩:=h.ptr hc
   have h2:=hA (by simp)
   rw [Option.some.injEq]at e
   omega)⟩
theorem ar_seq(B:List Int)(st N:Nat)(A:Option Addr)(c FB BB T:Nat)(hN1:1≤N)(hN:N≤100000)(hst:st<N)(w:World)
 (hF:Blk w FB 3 [.int .i64 st]) (hB:Blk w BB 39 [.slice A N c]) (hR:Rd .i64 w A N c B) :
 SeqF 2 164 #[.pointer (some ⟨FB,0,none⟩),.pointer (some ⟨BB,0,none⟩)] encI (ArKp BB A N c B) (fun _=>False) (fun _=>True) (fun pre x=>x=rgV B st N pre.length) T w :=
 fun l J Jx W hb hJ hJx hY hT h0=>ar_in l B st N A c FB BB T hN1 hN hst (ArKp BB A N c B) W (hF.below hb) (hB.below hb) (Rdv.below hR hb)
  (fun X Y hk hbx hrx=>⟨hk.1 hbx,hk.2 hrx⟩) J Jx hJ hJx hY hT h0
structure PsK (w:World) (Bz:Nat) (B:List Int) (st N OB EB e:Nat) (t:Nat) (W:World):Prop where
 o:∃ A c,Blk W OB 39 [.slice A (selL B st N t).length c]∧Own .i64 3 W Bz A (selL B st N t).length c (selL B st N t)
 eb:Blk W EB 3 [.int .i64 e]
 bl:Below w.heap.size w W
 hs:Bz≤W.heap.size
theorem PsK.clB{w:World}{Bz:Nat}{B:List Int}{st N OB EB e:Nat}{W W':World}{t:Nat}(h:PsK w Bz B st N OB EB e t W)(hb:Below W.heap.size W W'):PsK w Bz B st N OB EB e t W':=by
 obtain⟨A,c,h1,h2⟩:=h.o
 exact⟨⟨A,c,h1.below hb,Ownv.below h2 hb⟩,h.eb.below hb,h.bl.trans (hb.mono h.bl.size),Nat.le_trans h.hs hb.size⟩
theorem PsK.clP{w:World}{Bz Bq:Nat}{B:List Int}{st N OB EB e:Nat}{W:World}{t l:Nat}{o:Obj}(h:PsK w Bz B st N OB EB e t W)(o':Obj)(hw:w.heap.size≤Bq)(hl:Bq≤l)(hk:W.heap[l]?=some o)(ho:o.isCells=false):PsK w Bz B st N OB EB e t (W.putObj l o'):=by
 obtain⟨A,c,h1,h2⟩:=h.o
 have hg:=grownBy_putObj' W l o'
 exact⟨⟨A,c,h1.put o' hk ho,Ownv.put h2 o' hk ho⟩,h.eb.put o' hk ho,h.bl.grown hg h.bl.size (fun k e=>by cases e;omega),Nat.le_trans h.hs hg.size⟩
theorem PsK.next{w W W2:World}{Bz:Nat}{B:List Int}{st N OB EB e t:Nat}(h:PsK w Bz B st N OB EB e t W){A A2:Option Addr}{c c2:Nat}{x:Int}(hw:w.heap.size≤Bz)(hwO:w.heap.size≤OB)(hEO:EB≠OB)(hEB:EB<Bz)(hx:x=rgV B st N t)(hx0:0≤x)
 (hX:Blk W OB 39 [.slice A (selL B st N t).length c]) (hO:Own .i64 3 W Bz A (selL B st N t).length c (selL B st N t))
 (hO2:Ownv 3 W2 Bz A2 ((selL B st N t).length+1) c2 ((selL B st N t).map (Value.int .i64) ++ [.int .i64 x])) (hg:W.grownBy W2 ((Value.slice A (selL B st N t).length c).ownBlock)) :
 KeepsOthers W (W2.setCell ⟨OB,0,none⟩ (.slice A2 ((selL B st N t).length+1) c2))∧(∀ BB AA N' c',BB≠OB→(AA≠none→blk AA≠OB∧blk AA<Bz)→ArKp BB AA N' c' B W (W2.setCell ⟨OB,0,none⟩ (.slice A2 ((selL B st N t).length+1) c2)))∧PsK w Bz B st N OB EB e (t+1) (W2.setCell ⟨OB,0,none⟩ (.slice A2 ((selL B st N t).length+1) c2)):=by
 have hob:∀ k,(Value.slice A (selL B st N t).length c).ownBlock=some k→Bz≤k:=fun k hk=>Ownv.ob' hO hk
 have hx2:Blk W2 OB 39 [.slice A (selL B st N t).length c]:=hX.grown hg (blk_ne_row hX hO (by decide))
 have hg2:=grownBy_set W2 OB 0 (.slice A2 ((selL B st N t).length+1) c2)
 have hs1:selL B st N (t+1)=selL B st N t ++ [x]:=by rw [hx]at hx0 ⊢;exact selL_step hx0
 have hl1:(selL B st N (t+1)).length=(selL B st N t).length+1:=by rw [hs1,List.length_append];rfl
 have hO2':Own .i64 3 W2 Bz A2 (selL B st N (t+1)).length c2 (selL B st N (t+1)):=by
  rw [hl1,hs1];unfold Own;simpa using hO2
 have hbd:=h.bl
 have hs:=h.hs
 refine⟨KeepsOthers.trans (KeepsOthers.of_grownBy hg (fun j o hj=>row_cells hO j o hj)) (KeepsOthers.setCell _ _ _),?_,⟨⟨A2,c2,by rw [hl1];exact hx2.set 0 _,own_set_blk hx2 hO2' (by decide) 0 _⟩,?_,?_,?_⟩⟩
 · intro BB AA N' c' hBO hAO
   have hk:=KpN.trans (KpN.grown hg (fun r hr=>.inr (hob r hr)) hs) (KpN.grown hg2 (fun r hr=>.inl (Option.some.inj hr).symm) (Nat.le_trans hs hg.size))
   exact⟨fun hB=>(hB.grown hg (blk_ne_row hB hO (by decide))).other (fun e=>hBO e.symm) 0 _,fun hR=>Rdv.keepN hR hk hAO⟩
 · exact(h.eb.grown hg (fun e=>by have:=hob _ e.symm;omega)).other (fun e=>hEO e.symm) 0 _
 · exact(hbd.grown hg hbd.size (fun k hk=>Nat.le_trans hw (hob k hk))).grown hg2 (Nat.le_trans hbd.size hg.size) (fun k hk=>by cases hk;exact hwO)
 · exact Nat.le_trans hs (Nat.le_trans hg.size hg2.size)
theorem PsK.skip{w W:World}{Bz:Nat}{B:List Int}{st N OB EB e t:Nat}(h:PsK w Bz B st N OB EB e t W)(hx:rgV B st N t<0):PsK w Bz B st N OB EB e (t+1) W:=by
 obtain⟨h1,h2,h3,h4⟩:=h
 exact⟨by rw [selL_skip hx];exact h1,h2,h3,h4⟩
def PoPost(B:List Int)(st N e:Nat)(w:World)(en:Ending)(w':World):Prop :=
 Below w.heap.size w w'∧((e≠0∧usC B=0∧en= .returned (.tuple #[.slice none 0 0,.int .i64 10])) ∨
  ((e=0∨usC B≠0)∧∃ A c T,(selL B st N T).length=e∧en= .returned (.tuple #[.slice A e c,.int .i64 0])∧Own .i64 3 w' w.heap.size A e c (selL B st N T)))
theorem positions_any(k f rv e:Nat)(lim:Int)(w:World)(h1:40≤k)(h2:k≤6144)(hf:f<k)(hl:1≤lim)(hrv:rv≤3)(he:e≤131072) :
 Calls Tryz.prog 60 #[.int .i64 k,.int .i64 f,.int .i64 lim,.int .i64 rv,.int .i64 e] w (PoPost ((bufL k f).take (szB k lim)) (stS k (szB k lim) rv) (szB k lim) e w):=by
 have HOF:=Lib.hid (fun W=>rof_ok k f lim W h1 h2 hf hl)
 have hzb:=szB_bd k hl
 have hN:=nB_le h2
 have HBF:=Lib.hid (fun W=>buf0_ok k f (szB k lim) W h1 h2 hzb.2)
 have hZ1:=hzb.1
 have hZ2:szB k lim≤20000:=by omega
 have HST:=Lib.hid (fun W=>start_any k f (szB k lim) rv W h2 hZ1 hZ2 hrv)
 have hst:stS k (szB k lim) rv<szB k lim:=Nat.mod_lt _ (by omega)
 have hBl:((bufL k f).take (szB k lim)).length=szB k lim:=by rw [List.length_take,show(bufL k f).length=3*nB k from by unfold bufL;exact bufT_len _ _ _];omega
 clear h1 h2 hf hl
 generalize (bufL k f).take (szB k lim)=B at *
 generalize stS k (szB k lim) rv=st at *
 generalize szB k lim=Z at *
 generalize nB k=M at *
 generalize rwS (k+4)=R at *
 refine(callsIn_wide (n:=3)).1 ?_
 refine callsIn_of_wp_marks Tryz.func60 rfl trivial ?_
 simp only [Tryz.ntmps60,List.size_toArray,List.length_cons,List.length_nil,Nat.reduceAdd,Nat.reduceSub,Array.replicate_succ,Array.replicate_zero,List.push_toArray,List.append_toArray,List.nil_append,List.cons_append]
 refine wpIn_wide.2 ?_
 have HE0:=Lib.hid (Blk.new w [.int .i64 e] 3 rfl)
 have HB0:=Lib.hid (bal (Below.refl _ w) (.cells [Value.int .i64 e].toArray 3))
 go_wp2_with fail
 refine wp_scope_straight ?_
 go_wp2_with fail
 refine(HOF.out _).mono ?_
 rintro en w1 ⟨rfl,hB1⟩
 have HE1:=Lib.hid ((HE0.out.below hB1).alloc (.cells #[.int .i64 k,.int .i64 f,.int .i64 R,.int .i64 Z] 174))
 have HW1:=Lib.hid (Blk.new w1 [.int .i64 k,.int .i64 f,.int .i64 R,.int .i64 Z] 174 rfl)
 have HB1:=Lib.hid (bal (HB0.out.trans (hB1.mono HB0.out.size)) (.cells #[.int .i64 k,.int .i64 f,.int .i64 R,.int .i64 Z] 174))
 have HEW:Hid (w.heap.size<w1.heap.size):=Lib.hid ((HE0.out.below hB1).lt)
 have hW1:=HW1.out
 have cE:=HE1.out.cell (j:=0) (v:=.int .i64 e) rfl
 clear hB1 HE0 HB0
 have q1:decide ((rv:Int)<0)=false:=by first | (simp;done) | (simp;omega)
 have q2:decide ((rv:Int) > 3)=false:=by simp;omega
 have q3:decide ((e:Int)<0)=false:=by first | (simp;done) | (simp;omega)
 have q4:decide ((e:Int) > 131072)=false:=by simp;omega
 go_wp2_with (refine ldrow (cs:=[.int .i64 k,.int .i64 f,.int .i64 R,.int .i64 Z]) rfl 174 (.tmp 12) rfl rfl hW1 _ Tryz.underlying174 rfl info122 ?_)
 refine(HBF.out _).mono ?_
 rintro en w2 ⟨Ab,rfl,hR,hB2⟩
 have HR2:=Lib.hid hR
 have HE2:=Lib.hid (HE1.out.below hB2)
 have HW2:=Lib.hid (HW1.out.below hB2)
 have HB2:=Lib.hid (HB1.out.trans (hB2.mono HB1.out.size))
 have HWZ:Hid (w1.heap.size<w2.heap.size):=Lib.hid HW2.out.lt
 have cE2:=HE2.out.cell (j:=0) (v:=.int .i64 e) rfl
 clear hR hB2 hW1 cE HE1 HW1 HB1
 by_cases he0:e=0
 · subst he0
   go_wp2_with fail
   exact⟨_,results_tmp2 rfl _ _ _,HB2.out,.inr ⟨.inl rfl,none,0,0,rfl,rfl,Own.nilv _ _ _ _⟩⟩
 · have q5:((e:Int) == 0)=false:=beq_f (by omega)
   have HNE:=Lib.hid he0
   have HCF:=Lib.hid (cfu_any Ab Z (3*M) B w2 HR2.out (by omega))
   by_cases hu:usC B=0
   · rw [decide_eq_false (by simpa using hu)]at HCF
     have HU:=Lib.hid hu
     clear hu he0
     go_wp2_with fail
     refine HCF.out.mono ?_
     rintro en w3 ⟨rfl,rfl⟩
     go_wp2_with fail
     exact⟨_,results_tmp2 rfl _ _ _,HB2.out,.inl ⟨HNE.out,HU.out,rfl⟩⟩
   · rw [decide_eq_true hu]at HCF
     have HU:=Lib.hid hu
     obtain⟨jj,hjj,hju⟩:=usC_ne.1 hu
     have HJ:=Lib.hid (show jj<Z∧0≤gi B jj from⟨by omega,hju⟩)
     clear hu he0 hjj hju
     go_wp2_with fail
     refine HCF.out.mono ?_
     rintro en w3 ⟨rfl,rfl⟩
     have hW2:=HW2.out
     go_wp2_with (first
      | (at_make;refine list_of rfl fun K hK=>wp_mk0 (n:=e) (kl:=.i64) (kr:=.i64) _ _ 39 rfl el34 rfl rfl (by omega) (by unfold maxLen;omega) ?_;intro A4 w4 hO4 hB4;have HO4:=Lib.hid hO4;have hW4:=(hW2.below hB4).alloc (.cells #[.slice A4 0 e] 39);have HE4:=Lib.hid ((HE2.out.below hB4).alloc (.cells #[.slice A4 0 e] 39));have HB4:=Lib.hid hB4;clear hO4 hB4;refine hK _ _ ?_;clear hK K)
      | go_step3
      | (refine ldrow (cs:=[.int .i64 k,.int .i64 f,.int .i64 R,.int .i64 Z]) rfl 174 (.tmp 12) rfl rfl hW4 _ Tryz.underlying174 rfl info122 ?_))
     have HBA:Hid (Ab≠none→blk Ab<w2.heap.size):=Lib.hid (fun hA=>by
      obtain⟨p,hp⟩:=Option.ne_none_iff_exists'.1 hA
      rw [hp];exact HR2.out.lt (by omega) p hp)
     refine(HST.out _).mono ?_
     rintro en w5 ⟨rfl,hB5⟩
     have HO5:=Lib.hid (Ownv.below (Ownv.alloc HO4.out (.cells #[.slice A4 0 e] 39)) hB5)
     have HX5:=Lib.hid ((Blk.new w4 [.slice A4 0 e] 39 rfl).below hB5)
     have HE5:=Lib.hid (HE4.out.below hB5)
     have HA5:=Lib.hid (Below.trans (bal HB4.out (.cells #[.slice A4 0 e] 39)) (hB5.mono (bal HB4.out (.cells #[.slice A4 0 e] 39)).size))
     have HS4:=Lib.hid HB4.out.size
     have HS5:=Lib.hid HX5.out.lt
     clear hB5
     go_wp2_with fail
     refine(around_any _ _ _ _ _).mono ?_
     rintro en w6 ⟨rfl,hb6,hf6,hB6⟩
     have HO6:=Lib.hid (Ownv.below HO5.out hB6)
     have HX6:=Lib.hid (HX5.out.below hB6)
     have HE6:=Lib.hid (HE5.out.below hB6)
     have HA6:=Lib.hid (HA5.out.trans (hB6.mono HA5.out.size))
     have HBB:=Lib.hid hb6
     have HR6:=Lib.hid (Rdv.below HR2.out HA6.out)
     have HSL:=Lib.hid hf6.lt
     have HFB:=Lib.hid hf6
     clear hB6 hb6 hf6
     have HSEQ:=Lib.hid (ar_seq B st Z Ab (3*M) (w5.heap.size+1) w5.heap.size (e*Z) (by omega) (by omega) hst w6 HFB.out HBB.out HR6.out)
     have HK:Hid (PsK w w2.heap.size B st Z w4.heap.size w.heap.size e 0 w6):=Lib.hid ⟨⟨A4,e,HX6.out,HO6.out⟩,HE6.out,HB2.out.trans (HA6.out.mono HB2.out.size),HA6.out.size⟩
     have HIT:Hid (∀ t,(selL B st Z t).length<e→t<e*Z):=Lib.hid (fun t ht=>selL_lt HJ.out.1 HJ.out.2 ht)
     have HST:=HWZ.out
     have HS4':=HS4.out
     have HS5':=HS5.out
     have HSL':=HSL.out
     have HEW':=HEW.out
     clear HO4 HO5 HX5 HE5 HA5 HO6 HX6 HE6 HR6 HBB HFB cE2 hW4 HE4 HCF HJ
     go_wp2_with fail
     refine(wpIn_wide (n:=3)).1 ?_
     refine' rangeF (w0:=w6) (gf:=164) (lb:=#[.pointer (some ⟨w5.heap.size+1,0,none⟩),.pointer (some ⟨w5.heap.size,0,none⟩)]) (T:=e*Z) rfl (enters_of Tryz.func164 (by kernel_rfl) rfl) HSEQ.out ArKp.trans
      (fun W l o o' hl h1 h2=>ArKp.put o' (by omega) (fun hA=>by have:=HBA.out hA;omega) hl) (Below.refl _ _) (fun _=>rfl)
      (fun pre W=>PsK w w2.heap.size B st Z w4.heap.size w.heap.size e pre.length W∧(selL B st Z pre.length).length<e)
      (fun c pre W=>c= .exit 1∧PsK w w2.heap.size B st Z w4.heap.size w.heap.size e pre.length W∧(selL B st Z pre.length).length=e)
      (fun s X Y h hb=>⟨h.1.clB hb,h.2⟩) (fun c s X Y h hb=>⟨h.1,h.2.1.clB hb,h.2.2⟩)
      (fun s X l o o' h hl hk ho=>⟨h.1.clP o' (by omega) hl hk ho,h.2⟩) (fun c s X l o o' h hl hk ho=>⟨h.1,h.2.1.clP o' (by omega) hl hk ho,h.2.2⟩)
      (fun pre W h=>HIT.out _ h.2) ⟨HK.out,Nat.pos_of_ne_zero HNE.out⟩ _ ?assign ?body ?done ?stop
     case assign =>
      intro l x W K hK
      unfold encI
      gi_wp2
      exact hK
     case done =>
      rintro D xs W hD h
      exact h.elim
     case stop =>
      rintro D c pre W hD _ ⟨rfl,hI,hlen⟩ hK
      obtain⟨A,c,hx,hO⟩:=hI.o
      have cO:=hx.cell (j:=0) (v:=.slice A (selL B st Z pre.length).length c) rfl
      have HO9:=Lib.hid (Ownv.mono (Ownv.put hO (.deferred none) hK rfl) (show w.heap.size≤w2.heap.size by omega))
      have HB9:=Lib.hid (hI.bl.grown (grownBy_putObj' W D (.deferred none)) hI.bl.size (fun k e=>by cases e;omega))
      have HLE:=Lib.hid hlen
      rw [hlen]at cO
      clear hO hx hI
      refine wpIn_exit ?_
      go_wp2
      refine⟨by simp,.inl ⟨_,_,rfl,run_takeDeferred hK,?_⟩⟩
      refine⟨_,results_tmp2 rfl _ _ _,HB9.out,.inr ⟨.inr HU.out,A,c,pre.length,HLE.out,rfl,?_⟩⟩
      have:=HO9.out
      rw [HLE.out]at this
      exact this
     case body =>
      rintro l pre x W ⟨hI,hlt⟩ rfl
      have hpl:∀ x:Int,(pre ++ [x]).length=pre.length+1:=fun x=>by simp
      have HUS:=Lib.hid (usable_any (rgV B st Z pre.length) W)
      by_cases h0:0≤rgV B st Z pre.length
      · obtain⟨A,c,hx,hO⟩:=hI.o
        rw [decide_eq_true h0]at HUS
        obtain⟨x,hxe⟩:∃ x,x=rgV B st Z pre.length:=⟨_,rfl⟩
        have HI:=Lib.hid hI
        have HXE:=Lib.hid hxe
        have HXP:=Lib.hid (show 0≤x by rw [hxe];exact h0)
        have cO:=hx.cell (j:=0) (v:=.slice A (selL B st Z pre.length).length c) rfl
        have hne:=blk_ne_row hx hO (by decide)
        have HX:=Lib.hid hx
        have HO:=Lib.hid hO
        rw [← hxe]at HUS ⊢
        have hsz:=hI.hs
        have HPL:=Lib.hid hpl
        have HML:=Lib.hid (show(selL B st Z (pre.length+1)).length=(selL B st Z pre.length).length+1 by rw [selL_step h0,List.length_append];rfl)
        clear hI hx hO h0 hxe hpl
        gi_wp2_with (first
         | ((with_reducible refine callR ?_);refine HUS.out.mono ?_;rintro en W1 ⟨rfl,rfl⟩)
         | ((with_reducible refine listAp ?hL ?hh);(case hL=>exact fun⟨_,_,h⟩=>h);intro K hK;refine wp_app1 (w:=W) (base:=w2.heap.size) _ _ 39 rfl el34 rfl (.int .i64 x) rfl rfl HO.out (by omega) (by omega) hsz ?_;intro A2 c2 W2 hO2 hg2;have HN:=Lib.hid (PsK.next HI.out (by omega) (by omega) (by omega) (by omega) HXE.out HXP.out HX.out HO.out hO2 hg2);have hx2:=HX.out.grown hg2 hne;have c2':=hx2.cell (j:=0) (v:=.slice A (selL B st Z pre.length).length c) rfl;have f2':=hx2.frozen 0;have cE3:=HN.out.2.2.eb.cell (j:=0) (v:=.int .i64 e) rfl;clear hO2 hg2;refine hK _ _ ?_;clear hK K))
        all_goals (rename_i hq)
        all_goals (first
         | (refine⟨HN.out.1,HN.out.2.1 _ _ _ _ (by omega) (fun hA=>⟨by have:=HBA.out hA;omega,HBA.out hA⟩),?_⟩
            show PsK _ _ _ _ _ _ _ _ (pre ++ [_]).length _∧(selL B st Z (pre ++ [_]).length).length<e
            rw [HPL.out]
            exact⟨HN.out.2.2,by rw [HML.out];have h9:=beq_eq_false_iff_ne.1 hq;omega⟩)
         | (refine⟨HN.out.1,rfl,?_⟩
            show PsK _ _ _ _ _ _ _ _ (pre ++ [_]).length _∧(selL B st Z (pre ++ [_]).length).length=e
            rw [HPL.out]
            exact⟨HN.out.2.2,by rw [HML.out];have h9:=eq_of_beq hq;omega⟩))
      · rw [decide_eq_false h0]at HUS
        have HI:=Lib.hid hI
        have HLT:=Lib.hid hlt
        have H0:Hid (rgV B st Z pre.length<0):=Lib.hid (by omega)
        have HPL:=Lib.hid hpl
        clear hI h0 hlt hpl
        generalize hgx:rgV B st Z pre.length=x at *
        gi_wp2_with ((with_reducible refine callR ?_);refine HUS.out.mono ?_;rintro en W1 ⟨rfl,rfl⟩)
        refine⟨KeepsOthers.refl _,ArKp.rfl',?_⟩
        show PsK _ _ _ _ _ _ _ _ (pre ++ [_]).length _∧_
        rw [HPL.out,selL_skip (by rw [hgx];exact H0.out)]
        exact⟨PsK.skip HI.out (by rw [hgx];exact H0.out),HLT.out⟩
theorem inv4_any(b:Int)(w:World):Calls Tryz.prog 62 #[.int .u8 b] w fun e w'=>e= .returned (.bool (decide (1<b)))∧w=w':=by
 go_enter Tryz.func62,Tryz.ntmps62
 go_wp2
 go_wp2
 go_ret
 exact⟨rfl,rfl⟩
theorem idx4_any(A:Option Addr)(n c:Nat)(xs:List Int)(w:World)(h:Rd .u8 w A n c xs) :
 Calls Tryz.prog 113 #[.slice A n c,.func (.func 62) #[] #[]] w (IdxPost xs w):=by
 have hbd:=h.bd.1
 go_enter Tryz.func113,Tryz.ntmps113
 go_wp2
 go_loop [8] (fun i=>IdxInv n xs i) (fun i=>n - (intOf i).toNat)
 case atStart=>exact⟨0,by omega,rfl,by intro q hq;omega⟩
 case round =>
  obtain⟨j,hj,rfl,hv⟩:=hrel
  by_cases hlt:j<n
  · have hc:=Rd.cell h hlt
    have hix:=fun W=>Rdv.ix h el53 hlt .i64 W
    have HV:=Lib.hid hv;clear hv
    by_cases h1:gi xs j≤1
    · have h1':decide (1<gi xs j)=false:=by simp;omega
      go_wp2_with (go_at_call 62;refine(inv4_any _ _).mono ?_;rintro e w' ⟨rfl,rfl⟩)
      go_round
      case rel=>exact⟨j+1,by omega,by go_num,fun q hq=>lt_succ_cases HV.out h1 q hq⟩
      case measure=>simp [intOf];omega
    · have h1':decide (1<gi xs j)=true:=by simp;omega
      have hf:=Lib.hid (validB_f (by rw [h.len];exact hlt) (by omega:1<gi xs j))
      go_wp2_with (go_at_call 62;refine(inv4_any _ _).mono ?_;rintro e w' ⟨rfl,rfl⟩)
      go_ret
      exact⟨_,rfl,by rw [hf.out];simp,rfl⟩
  · have hf:=Lib.hid (validB_t (xs:=xs) (by rw [h.len];intro q hq;exact hv q (by omega)))
    go_wp2
    go_ret
    exact⟨_,rfl,by rw [hf.out];simp,rfl⟩
theorem contains4_any(A:Option Addr)(n c:Nat)(xs:List Int)(w:World)(h:Rd .u8 w A n c xs) :
 Calls Tryz.prog 61 #[.slice A n c,.func (.func 62) #[] #[]] w fun e w'=>e= .returned (.bool (!ValidB xs))∧w=w':=by
 go_enter Tryz.func61,Tryz.ntmps61
 go_wp2_with (go_at_call 113;refine(idx4_any A n c xs w h).mono ?_;rintro e w' ⟨r,rfl,hr,rfl⟩)
 go_ret
 refine⟨ret_bool ?_,rfl⟩
 cases hv:ValidB xs<;>simp_all
def MtPost(xs B:List Int)(st N e:Nat)(w:World)(en:Ending)(w':World):Prop :=
 Below w.heap.size w w'∧((e≠0∧usC B=0∧en= .returned (.tuple #[.slice none 0 0,.int .i64 10])) ∨
  ((e=0∨usC B≠0)∧∃ A c T,(selL B st N T).length=e∧en= .returned (.tuple #[.slice A e c,.int .i64 0])∧A≠none∧Own .u8 5 w' w.heap.size A e c ((selL B st N T).map fun p=>gi xs p.toNat)))
def MtI(xs L:List Int)(e:Nat)(Am:Option Addr)(w:World)(i:Value)(wr:World):Prop:=∃ (j:Nat) (cur:List Int),j≤e∧i= .int .i64 (j:Int)∧Own .u8 5 wr w.heap.size Am e e cur∧(∀ q,q<j→gi cur q=gi xs (gi L q).toNat)∧Below w.heap.size w wr
theorem match_any(A:Option Addr)(n c:Nat)(xs:List Int)(k f rv e:Nat)(lim:Int)(w:World)(hx:Rd .u8 w A n c xs)(hv:ValidB xs=true)(hn:n=3*(k+4))(h1:40≤k)(h2:k≤6144)(hf:f<k)(hl:1≤lim)(hrv:rv≤3)(he:e≤131072)
 (hBn:∀ x,x ∈ (bufL k f).take (szB k lim)→x<(n:Int)) (hZ0:0<szB k lim) (hZl:szB k lim≤((bufL k f).take (szB k lim)).length) :
 Calls Tryz.prog 32 #[.slice A n c,.int .i64 f,.int .i64 lim,.int .i64 rv,.int .i64 e] w (MtPost xs ((bufL k f).take (szB k lim)) (stS k (szB k lim) rv) (szB k lim) e w):=by
 have HPO:=Lib.hid (fun W=>positions_any k f rv e lim W h1 h2 hf hl hrv he)
 have HCO:=Lib.hid (fun W (h:Rd .u8 W A n c xs)=>contains4_any A n c xs W h)
 rw [hv]at HCO
 have HSM:=Lib.hid (fun T x=>selL_mem (B:=(bufL k f).take (szB k lim)) (st:=stS k (szB k lim) rv) (N:=szB k lim) hZ0 hZl T x)
 generalize (bufL k f).take (szB k lim)=B at *
 generalize stS k (szB k lim) rv=st at *
 generalize szB k lim=Z at *
 have a1:(n:Int).tdiv 3=((k+4:Nat):Int):=by rw [Int.tdiv_eq_ediv_of_nonneg (by omega),hn];omega
 have a2:(n:Int) / 3=((k+4:Nat):Int):=by omega
 have a3:(n:Int).tmod 3=0:=by rw [Int.tmod_eq_emod_of_nonneg (by omega)];omega
 have a4:(n:Int) % 3=0:=by omega
 have a5:IntKind.i64.wrap (((k+4:Nat):Int) - 4)=(k:Int):=by rw [IntKind.wrap_i64];omega
 have a6:IntKind.i64.wrap ((k+4:Nat):Int)=((k+4:Nat):Int):=by rw [IntKind.wrap_i64];omega
 have HX:=Lib.hid hx
 have HBN:=Lib.hid hBn
 have HN:=Lib.hid hn
 obtain⟨k4,hk4⟩:∃ k4,k4=k+4:=⟨_,rfl⟩
 rw [← hk4]at a1 a2 a5 a6
 clear hx hBn hn h1 h2 hf hl hv hk4 hZ0 hZl
 go_enter Tryz.func32,Tryz.ntmps32
 go_wp2_with fail
 refine(HPO.out _).mono ?_
 rintro en w1 ⟨hB1,h⟩
 have HB1:=Lib.hid hB1
 have HX1:=Lib.hid (Rdv.below HX.out hB1)
 clear hB1
 rcases h with⟨hne,hu0,rfl⟩ | ⟨hor,Ap,cp,T,hlen,rfl,hO⟩
 · have HNE:=Lib.hid hne
   have HU0:=Lib.hid hu0
   clear hne hu0
   go_wp2_with (go_at_call 61;refine(HCO.out _ HX1.out).mono ?_;rintro en w2 ⟨rfl,rfl⟩)
   go_ret2
   exact⟨HB1.out,.inl ⟨HNE.out,HU0.out,rfl⟩⟩
 · have HLN:=Lib.hid hlen
   have HOR:=Lib.hid hor
   have HLL:Hid (∀ q,q<e→0≤gi (selL B st Z T) q∧gi (selL B st Z T) q<(n:Int)):=Lib.hid (fun q hq=>by
    have h9:=HSM.out T _ (gi_mem (selL B st Z T) q (by omega))
    exact⟨h9.1,HBN.out _ h9.2⟩)
   have HTL:=Lib.hid hlen
   obtain⟨L,hL⟩:∃ L,selL B st Z T=L:=⟨_,rfl⟩
   have HTE:=Lib.hid hL
   rw [hL]at HLN HLL hO
   clear hL
   have HRP:=Lib.hid (Own.rd hO)
   clear hlen hor hO
   go_wp2_with (first
    | (go_at_call 61;refine(HCO.out _ HX1.out).mono ?_;rintro en w2 ⟨rfl,rfl⟩)
    | (at_make;refine list_of rfl fun K hK=>wp_mk (n:=e) _ _ 28 rfl el53 rfl rfl (by omega) (by unfold maxLen;omega) ?_
       intro Am w3 hO3 hB3 hA
       have HO3:=Lib.hid hO3
       have HA:=Lib.hid hA
       have HB3:=Lib.hid hB3
       clear hO3 hB3 hA
       refine hK _ _ ?_
       clear hK K))
   go_loopw [52] (fun i wr=>MtI xs L e Am w1 i wr) (fun i _=>e - (intOf i).toNat)
   case atStart=>exact⟨0,List.replicate e 0,Nat.zero_le _,rfl,by have:=HO3.out;unfold Own;simpa using this,fun q hq=>by omega,HB3.out⟩
   case round =>
    obtain⟨j,cur,hj,rfl,hO,hsame,hB⟩:=hrel
    have HB:=Lib.hid hB
    have HS:=Lib.hid hsame
    by_cases hlt:j<e
    · have hlj:=HLL.out j hlt
      have hrp:=Rdv.below HRP.out HB.out
      have hrx:=Rdv.below HX1.out HB.out
      have cp1:=Rd.cell hrp hlt
      have ip1:=fun W=>Rdv.ix hrp el34 hlt .i64 W
      obtain⟨p,hp⟩:∃ p:Nat,gi L j=(p:Int):=⟨(gi L j).toNat,by omega⟩
      have HP:=Lib.hid hp
      rw [hp]at cp1 hlj
      have hpn:p<n:=by omega
      have cx1:=Rd.cell hrx hpn
      have ix1:=fun W=>Rdv.ix hrx el53 hpn .i64 W
      have hcu:=Rd.cell (Own.rd hO) hlt
      have hfu:=Ownv.frozen hO (by omega) j
      have hiu:=fun W=>Rdv.ix (Own.rd hO) el53 hlt .i64 W
      obtain⟨x,hxe⟩:∃ x,gi xs p=x:=⟨_,rfl⟩
      have HXE:=Lib.hid hxe
      rw [hxe]at cx1
      have HST:=Lib.hid (Own.set_ hO hlt x)
      have hbA:=(Ownv.blk_ge hO (by omega)).1
      have HB2:=Lib.hid (hB.grown (Own.set_ hO hlt x).2 hB.size (fun k e=>by cases e;exact hbA))
      have hcl:=(Own.rd hO).len
      clear hO hB hsame hp hxe hlj
      go_wp2
      go_roundw
      case rel=>exact⟨j+1,cur.set j x,by omega,by go_num,HST.out.1,lt_succ_cases (fun q hq=>by rw [gi_set _ _ _ _ (by omega),if_neg (by omega)];exact HS.out q hq) (by rw [gi_set _ _ _ _ (by omega),if_pos rfl,HP.out,← HXE.out];rfl),HB2.out⟩
      case measure=>simp [intOf];omega
    · obtain rfl:j=e:=by omega
      have hle:=(Own.rd hO).len
      have HLE:=Lib.hid (show cur=L.map fun p=>gi xs p.toNat from by
       have hL:=HLN.out
       have hml:(L.map fun p=>gi xs p.toNat).length=L.length:=List.length_map ..
       refine ext_gi (by omega) fun q hq=>?_
       rw [hsame q (by omega),gi_eq (L.map fun p=>gi xs p.toNat) q (by omega),List.getElem_map,gi_eq L q (by omega)])
      have HO9:=Lib.hid (Ownv.mono hO (show w.heap.size≤w1.heap.size from HB1.out.size))
      clear hO hB hsame hle
      go_wp2
      go_ret2
      refine⟨HB1.out.trans (HB.out.mono HB1.out.size),.inr ⟨HOR.out,Am,j,T,HTL.out,rfl,HA.out,?_⟩⟩
      have h9:=HO9.out
      rw [HLE.out]at h9
      rw [HTE.out]
      exact h9
end Go.Proofs.YtkdfefpnhaebfaaGreat.Cr
namespace Go.Proofs.YtkdfefpnhaebfaaGreat.Cr
open Go.RowKit Go.Shelf
theorem sxN_le2(N x:Nat):sxN N x≤2:=by
 unfold sxN
 split<;>omega
theorem vX_bd(k f x:Nat):vX k f x<((3*(k+4):Nat):Int):=by
 unfold vX
 have h1:=(ordV_bd (d:=k+4) (s:=sxN (nB k) x) (k:=jxN (nB k) x) (by omega)).2
 have h2:=Nat.mul_le_mul_right (k+4) (sxN_le2 (nB k) x)
 generalize ordV (k+4) (sxN (nB k) x) (jxN (nB k) x)=v at *
 generalize sxN (nB k) x=s at *
 unfold elV
 generalize s*(k+4)=m at *
 split<;>omega
theorem bufL_bd(k f Z:Nat):∀ x,x ∈ (bufL k f).take Z→x<((3*(k+4):Nat):Int):=by
 intro x hx
 have h:=List.mem_of_mem_take hx
 unfold bufL bufT at h
 obtain⟨j,-,rfl⟩:=List.mem_map.1 h
 exact vX_bd k f j
theorem match_ok(A:Option Addr)(c:Nat)(xs:List Int)(k f rv e:Nat)(lim:Int)(w:World)(hx:Rd .u8 w A (3*(k+4)) c xs)(hv:ValidB xs=true)(h1:40≤k)(h2:k≤6144)(hf:f<k)(hl:1≤lim)(hrv:rv≤3)(he:e≤131072) :
 Calls Tryz.prog 32 #[.slice A (3*(k+4)) c,.int .i64 f,.int .i64 lim,.int .i64 rv,.int .i64 e] w (MtPost xs ((bufL k f).take (szB k lim)) (stS k (szB k lim) rv) (szB k lim) e w):=by
 have hzb:=szB_bd k hl
 refine match_any A _ c xs k f rv e lim w hx hv rfl h1 h2 hf hl hrv he (bufL_bd k f _) hzb.1 ?_
 rw [List.length_take,show(bufL k f).length=3*nB k from by unfold bufL;exact bufT_len _ _ _]
 omega
attribute [local go_sem] Oper.semAt_some
set_option maxRecDepth 100000
set_option maxHeartbeats 4000000
structure ClS (LB CB EB b:Nat) (lim:Int) (rv:Nat) (A:Option Addr) (n c:Nat) (xs:List Int) (Ae:Option Addr) (me ce i e:Nat) (W:World):Prop where
 l:Blk W LB 31 (ints8 (LY b))
 c3:W.cell? ⟨CB,3,none⟩=some (.int .i64 lim)
 c4:W.cell? ⟨CB,4,none⟩=some (.int .i64 (rv:Int))
 e0:W.cell? ⟨EB,0,none⟩=some (.slice Ae me ce)
 r:∃ es:List Int,Rd .i64 W Ae me ce es∧gi es i=(e:Int)
 x:Rd .u8 W A n c xs
 hi:i<me
theorem ClS.below{LB CB EB b:Nat}{lim:Int}{rv:Nat}{A:Option Addr}{n c:Nat}{xs:List Int}{Ae:Option Addr}{me ce i e:Nat}{W W':World}(h:ClS LB CB EB b lim rv A n c xs Ae me ce i e W)(hb:Below W.heap.size W W'):ClS LB CB EB b lim rv A n c xs Ae me ce i e W':=by
 obtain⟨es,h1,h2⟩:=h.r
 exact⟨h.l.below hb,cell_below h.c3 hb,cell_below h.c4 hb,cell_below h.e0 hb,⟨es,Rdv.below h1 hb,h2⟩,Rdv.below h.x hb,h.hi⟩
theorem ClS.ce{LB CB EB b:Nat}{lim:Int}{rv:Nat}{A:Option Addr}{n c:Nat}{xs:List Int}{Ae:Option Addr}{me ce i e:Nat}{W:World}(h:ClS LB CB EB b lim rv A n c xs Ae me ce i e W):W.cell? (adr Ae i)=some (.int .i64 (e:Int)):=by
 obtain⟨es,h1,h2⟩:=h.r
 rw [← h2];exact Rd.cell h1 h.hi
theorem cl28_any(LB CB EB b i e rv k:Nat)(lim:Int)(A Ae:Option Addr)(n c me ce:Nat)(xs B:List Int)(st Z:Nat)(W:World)(hS:ClS LB CB EB b lim rv A n c xs Ae me ce i e W)
 (hM:∀ w,Rd .u8 w A n c xs→Calls Tryz.prog 32 #[.slice A n c,.int .i64 (fl b i:Int),.int .i64 lim,.int .i64 rv,.int .i64 e] w (MtPost xs B st Z e w)) :
 Calls Tryz.prog 31 #[.int .i64 i,.slice A n c,.pointer (some ⟨LB,0,none⟩),.pointer (some ⟨CB,0,none⟩),.pointer (some ⟨EB,0,none⟩)] W (MtPost xs B st Z e W):=by
 have HM:=Lib.hid hM
 have HS4:=Lib.hid hS
 have HSD:=Lib.hid (ClS.below HS4.out ((Below.refl W.heap.size W).drew))
 clear hM hS
 go_enter Tryz.func31,Tryz.ntmps31
 go_wp2_with fail
 refine P_start (ClS LB CB EB b lim rv A n c xs Ae me ce i e) 12 17 #[false,false,false,false,false,false,false,false,false,false,false,false,false,false,false,false,false] (by kernel_rfl) (by kernel_rfl) (by kernel_rfl) ?_
 refine P_takeW 0 9 (.slice A n c) #[true,false,false,false,false,false,false,false,false,false,false,false,false,false,false,false,false] rfl rfl (by kernel_rfl) (by kernel_rfl) (by kernel_rfl) (by kernel_rfl) (by decide) (fun _ _ _ h=>h) (Or.inl ⟨by rfl,fun W hS=>by go_simp⟩) HSD.out ?_
 simp only [yq0,yq1,yq2]
 refine P_takeT 1 10 (.agg (ints8 (LY b)).toArray) #[true,true,false,false,false,false,false,false,false,false,false,false,false,false,false,false,false] [3] rfl rfl (by kernel_rfl) (by kernel_rfl) (by kernel_rfl) (by kernel_rfl) (by kernel_rfl) (by kernel_rfl) (by kernel_rfl) (by decide) (fun _ _ _ h=>h) (yieldsIf_load_mid rfl 31 (.tmp 2) rfl LB (0) rfl (ints8 (LY b)) _ (fun W hS=>fun q v hv=>hS.l.cell (by rw [Nat.zero_add];exact hv)) Tryz.underlying31 rfl (by rw [info23];rfl)) HSD.out ?_
 simp only [yq0,yq1,yq2]
 refine P_takeW 2 11 (.int .i64 (i:Int)) #[true,true,true,false,false,false,false,false,false,false,false,false,false,false,false,false,false] rfl rfl (by kernel_rfl) (by kernel_rfl) (by kernel_rfl) (by kernel_rfl) (by decide) (fun _ _ _ h=>h) (Or.inl ⟨by rfl,fun W hS=>by go_simp⟩) HSD.out ?_
 simp only [yq0,yq1,yq2]
 refine P_takeW 4 13 (.pointer (some ⟨CB,3,none⟩)) #[true,true,true,false,true,false,false,false,false,false,false,false,false,false,false,false,false] rfl rfl (by kernel_rfl) (by kernel_rfl) (by kernel_rfl) (by kernel_rfl) (by decide) (fun _ _ _ h=>h) (Or.inl ⟨by rfl,fun W hS=>by go_simp⟩) HSD.out ?_
 simp only [yq0,yq1,yq2]
 refine P_take 5 14 (.int .i64 lim) #[true,true,true,false,true,true,false,false,false,false,false,false,false,false,false,false,false] rfl rfl (by kernel_rfl) (by kernel_rfl) (by kernel_rfl) (by kernel_rfl) (by kernel_rfl) (by kernel_rfl) (by decide) (fun _ _ _ h=>h) (Or.inl ⟨by rfl,fun W hS=>by have h1:=hS.c3;go_simp⟩) HSD.out ?_
 simp only [yq0,yq1,yq2]
 refine P_takeW 6 15 (.pointer (some ⟨CB,4,none⟩)) #[true,true,true,false,true,true,true,false,false,false,false,false,false,false,false,false,false] rfl rfl (by kernel_rfl) (by kernel_rfl) (by kernel_rfl) (by kernel_rfl) (by decide) (fun _ _ _ h=>h) (Or.inl ⟨by rfl,fun W hS=>by go_simp⟩) HSD.out ?_
 simp only [yq0,yq1,yq2]
 refine P_take 7 16 (.int .i64 (rv:Int)) #[true,true,true,false,true,true,true,true,false,false,false,false,false,false,false,false,false] rfl rfl (by kernel_rfl) (by kernel_rfl) (by kernel_rfl) (by kernel_rfl) (by kernel_rfl) (by kernel_rfl) (by decide) (fun _ _ _ h=>h) (Or.inl ⟨by rfl,fun W hS=>by have h1:=hS.c4;go_simp⟩) HSD.out ?_
 simp only [yq0,yq1,yq2]
 refine P_takeT 8 17 (.slice Ae me ce) #[true,true,true,false,true,true,true,true,true,false,false,false,false,false,false,false,false] [11,10] rfl rfl (by kernel_rfl) (by kernel_rfl) (by kernel_rfl) (by kernel_rfl) (by kernel_rfl) (by kernel_rfl) (by kernel_rfl) (by decide) (fun _ _ _ h=>h) (Or.inl ⟨by rfl,fun W hS=>by have h1:=hS.e0;go_simp⟩) HSD.out ?_
 simp only [yq0,yq1,yq2]
 refine P_takeW 9 18 (.int .i64 (i:Int)) #[true,true,true,false,true,true,true,true,true,true,false,false,false,false,false,false,false] rfl rfl (by kernel_rfl) (by kernel_rfl) (by kernel_rfl) (by kernel_rfl) (by decide) (fun _ _ _ h=>h) (Or.inl ⟨by rfl,fun W hS=>by go_simp⟩) HSD.out ?_
 simp only [yq0,yq1,yq2]
 refine P_takeT 10 19 (.pointer (some (adr Ae i))) #[true,true,true,false,true,true,true,true,true,true,true,false,false,false,false,false,false] [11] rfl rfl (by kernel_rfl) (by kernel_rfl) (by kernel_rfl) (by kernel_rfl) (by kernel_rfl) (by kernel_rfl) (by kernel_rfl) (by decide) (fun _ _ _ h=>h) (Or.inl ⟨by rfl,fun W hS=>by obtain⟨es,h2,-⟩:=hS.r;have h1:=fun W=>Rdv.ix h2 el34 hS.hi .i64 W;go_simp⟩) HSD.out ?_
 simp only [yq0,yq1,yq2]
 refine P_take 11 20 (.int .i64 (e:Int)) #[true,true,true,false,true,true,true,true,true,true,true,true,false,false,false,false,false] rfl rfl (by kernel_rfl) (by kernel_rfl) (by kernel_rfl) (by kernel_rfl) (by kernel_rfl) (by kernel_rfl) (by decide) (fun _ _ _ h=>h) (Or.inl ⟨by rfl,fun W hS=>by have h1:=hS.ce;go_simp⟩) HSD.out ?_
 simp only [yq0,yq1,yq2]
 refine P_oneS 3 #[true,true,true,true,true,true,true,true,true,true,true,true,false,false,false,false,false] rfl (by kernel_rfl) (by kernel_rfl) rfl (fun K hK=>?_)
 go_simp
 refine(tfil_any b i _).mono ?_
 rintro en wa ⟨rfl,hBa⟩
 have HSa:=Lib.hid (ClS.below HSD.out hBa)
 have HBa:=Lib.hid (((Below.refl W.heap.size W).drew).trans hBa)
 clear hBa
 refine hK _ _ HSa.out ?_
 clear hK K
 refine P_one 12 #[true,true,true,true,true,true,true,true,true,true,true,true,true,false,false,false,false] rfl (by kernel_rfl) (by kernel_rfl) rfl (by kernel_rfl) (fun K hK=>?_)
 go_simp
 refine(HM.out _ HSa.out.x).mono ?_
 rintro en wb ⟨hBb,h⟩
 have HBb:=Lib.hid (HBa.out.trans (hBb.mono HBa.out.size))
 clear hBb
 rcases h with⟨hne,hu0,rfl⟩ | ⟨hor,Am,cm,T,hlen,rfl,hA,hO⟩
 · have HNE:=Lib.hid hne
   have HU0:=Lib.hid hu0
   clear hne hu0
   refine hK _ _ ?_
   clear hK K
   refine P_takeX 13 22 (.slice none 0 0) #[true,true,true,true,true,true,true,true,true,true,true,true,true,true,false,false,false] rfl rfl (by kernel_rfl) (by kernel_rfl) (by kernel_rfl) (by kernel_rfl) (by decide) (fun _ _ _ h=>h) (Or.inl ⟨by rfl,fun W hS=>by go_simp⟩) rfl ?_
   simp only [yq0,yq1,yq2]
   refine P_takeX 14 23 (.int .i64 10) #[true,true,true,true,true,true,true,true,true,true,true,true,true,true,true,false,false] rfl rfl (by kernel_rfl) (by kernel_rfl) (by kernel_rfl) (by kernel_rfl) (by decide) (fun _ _ _ h=>h) (Or.inl ⟨by rfl,fun W hS=>by go_simp⟩) rfl ?_
   simp only [yq0,yq1,yq2]
   refine P_one 15 #[true,true,true,true,true,true,true,true,true,true,true,true,true,true,true,true,false] rfl (by kernel_rfl) (by kernel_rfl) rfl (by kernel_rfl) (fun K hK=>?_)
   go_simp
   refine hK _ _ ?_
   clear hK K
   refine P_one 16 #[true,true,true,true,true,true,true,true,true,true,true,true,true,true,true,true,true] rfl (by kernel_rfl) (by kernel_rfl) rfl (by kernel_rfl) (fun K hK=>?_)
   go_simp
   refine hK _ _ ?_
   clear hK K
   refine P_done (by kernel_rfl) ?_ _
   go_wp2
   go_ret2
   exact⟨HBb.out,.inl ⟨HNE.out,HU0.out,rfl⟩⟩
 · have HOR:=Lib.hid hor
   have HLN:=Lib.hid hlen
   have HO:=Lib.hid hO
   clear hor hlen hO
   refine hK _ _ ?_
   clear hK K
   refine P_takeX 13 22 (.slice Am e cm) #[true,true,true,true,true,true,true,true,true,true,true,true,true,true,false,false,false] rfl rfl (by kernel_rfl) (by kernel_rfl) (by kernel_rfl) (by kernel_rfl) (by decide) (fun _ _ _ h=>h) (Or.inl ⟨by rfl,fun W hS=>by go_simp⟩) rfl ?_
   simp only [yq0,yq1,yq2]
   refine P_takeX 14 23 (.int .i64 0) #[true,true,true,true,true,true,true,true,true,true,true,true,true,true,true,false,false] rfl rfl (by kernel_rfl) (by kernel_rfl) (by kernel_rfl) (by kernel_rfl) (by decide) (fun _ _ _ h=>h) (Or.inl ⟨by rfl,fun W hS=>by go_simp⟩) rfl ?_
   simp only [yq0,yq1,yq2]
   refine P_one 15 #[true,true,true,true,true,true,true,true,true,true,true,true,true,true,true,true,false] rfl (by kernel_rfl) (by kernel_rfl) rfl (by kernel_rfl) (fun K hK=>?_)
   go_simp
   refine hK _ _ ?_
   clear hK K
   refine P_one 16 #[true,true,true,true,true,true,true,true,true,true,true,true,true,true,true,true,true] rfl (by kernel_rfl) (by kernel_rfl) rfl (by kernel_rfl) (fun K hK=>?_)
   go_simp
   refine hK _ _ ?_
   clear hK K
   refine P_done (by kernel_rfl) ?_ _
   go_wp2
   go_ret2
   exact⟨HBb.out,.inr ⟨HOR.out,Am,cm,T,HLN.out,rfl,hA,Ownv.mono HO.out HBa.out.size⟩⟩
end Go.Proofs.YtkdfefpnhaebfaaGreat.Cr
