/- Bundle. Conditions: none. -/
import Derived.Test.YtkdfefpnhaebfaaGreatBwoay
set_option linter.unusedVariables false
set_option linter.unusedSimpArgs false
namespace Go.Proofs.YtkdfefpnhaebfaaGreat.Cr
open Go.RowKit Go.Shelf
attribute [local go_sem] Oper.semAt_some
set_option maxRecDepth 100000
set_option maxHeartbeats 4000000
def ShV(W:World)(R s:Nat)(sv:Value)(SB:Nat):Prop:=(s≠2∧sv= .func (.func 255) #[] #[])∨(s=2∧sv= .func (.func 256) #[] #[.pointer (some ⟨SB,0,none⟩)]∧∃ v,Blk W SB 296 [.int .i64 R,v])
theorem ShV.below{W W':World}{R s SB:Nat}{sv:Value}(h:ShV W R s sv SB)(hB:Below W.heap.size W W'):ShV W' R s sv SB:=h.imp id fun⟨h1,h2,v,h3⟩=>⟨h1,h2,v,h3.below hB⟩
theorem ShV.kp{W W':World}{R s SB:Nat}{sv:Value}{bs:List Nat}(h:ShV W R s sv SB)(hk:KpB bs W W')(hb:SB ∉ bs):ShV W' R s sv SB:=h.imp id fun⟨h1,h2,v,h3⟩=>⟨h1,h2,v,h3.kp hk hb⟩
theorem info138:(Tryz.prog.info? 296).map (·.size)=some 2:=by kernel_rfl
theorem res138{W:World}{b:Nat}{x y:Value}(h:Blk W b 296 [x,y]):(loadVar 296 ⟨b,0,none⟩).run Tryz.prog W= .ok (.agg #[x,y]) W :=
 run_loadVar_row (P:=Tryz.prog) W b 296 296 _ (0,0) _ h Tryz.underlying296 rfl (by rw [info138];rfl)
def OfPost(d s:Nat)(w:World)(e:Ending)(w':World):Prop:=∃ sv SB,e= .returned (.tuple #[.agg #[.int .i64 (rwS d),sv],.int .i64 0])∧ShV w' (rwS d) s sv SB∧w.heap.size≤SB∧SB<w'.heap.size∧sv.oneCell'=true∧Below w.heap.size w w'
theorem of_ok(d s:Nat)(w:World)(h1:1≤d)(h2:d≤6148)(hs:s≤2):Calls Tryz.prog 237 #[.int .i64 d,.int .i64 s] w (OfPost d s w):=by
 have hmf:∀ (fn:Fn) (first cap:Array Value) (w:World),(Instr.makeFunc fn first cap).run Tryz.prog w= .ok (.func fn first cap) w:=fun _ _ _ _=>rfl
 have HR:=Lib.hid (fun W=>crows_any d W h1 h2)
 have hR1:=rwS_pos h1
 unfold OfPost
 generalize rwS d=R at *
 have q1:((R:Int) == 0)=false:=beq_f (by omega)
 have q2:decide ((s:Int)<0)=false:=by simp
 have q3:decide ((2:Int)<(s:Int))=false:=by simp;omega
 have hr0:Blk ((w.alloc (.cells #[.int .i64 0,.nilFunc] 296)).alloc (.cells #[.int .i64 0,.nilFunc] 296)) w.heap.size 296 [.int .i64 0,.nilFunc]:=(Blk.new w [.int .i64 0,.nilFunc] 296 rfl).alloc _
 have hs0:Blk ((w.alloc (.cells #[.int .i64 0,.nilFunc] 296)).alloc (.cells #[.int .i64 0,.nilFunc] 296)) (w.heap.size+1) 296 [.int .i64 0,.nilFunc]:=Blk.new (w.alloc _) [.int .i64 0,.nilFunc] 296 (by simp)
 have hb0:Below w.heap.size w ((w.alloc (.cells #[.int .i64 0,.nilFunc] 296)).alloc (.cells #[.int .i64 0,.nilFunc] 296)):=((Below.refl _ w).alloc (Nat.le_refl _) _).alloc (by simp) _
 have HR0:=Lib.hid hr0
 have HB0:=Lib.hid hb0
 have hzz:((w.alloc (.cells #[.int .i64 0,.nilFunc] 296)).alloc (.cells #[.int .i64 0,.nilFunc] 296)).heap.size=w.heap.size+2:=by simp
 have HZZ:=Lib.hid hzz
 clear hr0 hb0 hzz
 by_cases h22:s=2
 · subst h22
   have hst:=fun W m=>run_store Tryz.prog W ⟨w.heap.size+1,1,none⟩ (.func (.func 256) #[] #[.pointer (some ⟨w.heap.size+1,0,none⟩)]) m rfl
   go_enter Tryz.func237,Tryz.ntmps237
   go_wp2_with (first
    | (go_at_call 161;refine(HR.out _).mono ?_;rintro e w1 ⟨rfl,rfl⟩)
    | (refine strow (cs:=[.int .i64 R,.func (.func 255) #[] #[]]) rfl 296 (.tmp 6) (.tmp 9) rfl rfl rfl hs0 rfl info138 (by simp [Value.oneCell']) ?_
       intro W2 g1 g2
       have HS2:=Lib.hid g1
       have HR2:=Lib.hid (HR0.out.grown g2 (by simp))
       have HB2:=Lib.hid (HB0.out.grown g2 HB0.out.size (fun k hk=>by cases hk;omega))
       have HZ2:Hid (w.heap.size+2≤W2.heap.size):=Lib.hid (by have:=g2.size;have:=HZZ.out;omega)
       have c0:=g1.cell (j:=0) (v:=.int .i64 R) rfl
       have c1:=g1.cell (j:=1) (v:=.func (.func 255) #[] #[]) rfl
       have f1:=g1.frozen 1
       have hs3:Blk (W2.setCell ⟨w.heap.size+1,1,none⟩ (.func (.func 256) #[] #[.pointer (some ⟨w.heap.size+1,0,none⟩)])) (w.heap.size+1) 296 [.int .i64 R,.func (.func 256) #[] #[.pointer (some ⟨w.heap.size+1,0,none⟩)]]:=g1.set 1 _
       have hr3:Blk (W2.setCell ⟨w.heap.size+1,1,none⟩ (.func (.func 256) #[] #[.pointer (some ⟨w.heap.size+1,0,none⟩)])) w.heap.size 296 [.int .i64 0,.nilFunc]:=HR2.out.other (by omega) _ _
       have HS3:=Lib.hid hs3
       clear g1 g2 hs0)
    | (refine ldrow (cs:=[.int .i64 R,.func (.func 256) #[] #[.pointer (some ⟨w.heap.size+1,0,none⟩)]]) rfl 296 (.tmp 6) rfl rfl hs3 _ Tryz.underlying296 rfl info138 ?_)
    | (refine strow (cs:=[.int .i64 R,.func (.func 256) #[] #[.pointer (some ⟨w.heap.size+1,0,none⟩)]]) rfl 296 (.tmp 4) (.tmp 26) rfl rfl rfl hr3 rfl info138 (by simp [Value.oneCell']) ?_
       intro W4 g1 g2
       have HR4:=Lib.hid g1
       have HS4:=Lib.hid (HS3.out.grown g2 (by simp))
       have hq4:=HB2.out.setCell (p:=⟨w.heap.size+1,1,none⟩) (Nat.le_succ _) (.func (.func 256) #[] #[.pointer (some ⟨w.heap.size+1,0,none⟩)])
       have HB4:=Lib.hid (hq4.grown g2 hq4.size (fun k hk=>by cases hk;exact Nat.le_refl _))
       clear g1 g2 hs3 hr3 c0 c1 f1 hq4))
   refine bodyPost_ret (v:=.tuple #[.agg #[.int .i64 R,.func (.func 256) #[] #[.pointer (some ⟨w.heap.size+1,0,none⟩)]],.int .i64 0]) ?_ rfl ⟨_,w.heap.size+1,rfl,.inr ⟨rfl,rfl,_,HS4.out⟩,Nat.le_succ _,HS4.out.lt,rfl,HB4.out⟩
   have l1:=res138 HR4.out
   rw [results_ct rfl]
   simp [Act.put,asAddr,l1,Sem.run_pure,Result.andThen]
 · have q4:((s:Int) == 2)=false:=beq_f (by omega)
   go_enter Tryz.func237,Tryz.ntmps237
   go_wp2_with (first
    | (go_at_call 161;refine(HR.out _).mono ?_;rintro e w1 ⟨rfl,rfl⟩)
    | (refine strow (cs:=[.int .i64 R,.func (.func 255) #[] #[]]) rfl 296 (.tmp 6) (.tmp 9) rfl rfl rfl hs0 rfl info138 (by simp [Value.oneCell']) ?_
       intro W2 g1 g2
       have hs2:=g1
       have hr2:=HR0.out.grown g2 (by simp)
       have HB2:=Lib.hid (HB0.out.grown g2 HB0.out.size (fun k hk=>by cases hk;omega))
       have HZ2:Hid (w.heap.size+2≤W2.heap.size):=Lib.hid (by have:=g2.size;have:=HZZ.out;omega)
       have c0:=g1.cell (j:=0) (v:=.int .i64 R) rfl
       clear g1 g2 hs0)
    | (refine ldrow (cs:=[.int .i64 R,.func (.func 255) #[] #[]]) rfl 296 (.tmp 6) rfl rfl hs2 _ Tryz.underlying296 rfl info138 ?_)
    | (refine strow (cs:=[.int .i64 R,.func (.func 255) #[] #[]]) rfl 296 (.tmp 4) (.tmp 26) rfl rfl rfl hr2 rfl info138 (by simp [Value.oneCell']) ?_
       intro W4 g1 g2
       have HR4:=Lib.hid g1
       have HB4:=Lib.hid (HB2.out.grown g2 HB2.out.size (fun k hk=>by cases hk;omega))
       have HZ4:Hid (w.heap.size+2≤W4.heap.size):=Lib.hid (by have:=g2.size;have:=HZ2.out;omega)
       clear g1 g2 hs2 hr2 c0))
   refine bodyPost_ret (v:=.tuple #[.agg #[.int .i64 R,.func (.func 255) #[] #[]],.int .i64 0]) ?_ rfl ⟨_,w.heap.size+1,rfl,.inl ⟨h22,rfl⟩,Nat.le_succ _,by have:=HZ4.out;omega,rfl,HB4.out⟩
   have l1:=res138 HR4.out
   rw [results_ct rfl]
   simp [asAddr,l1,Sem.run_pure,Result.andThen]
theorem shift0_any(m:Nat)(w:World):Calls Tryz.prog 255 #[.int .i64 m] w fun e w'=>e= .returned (.int .i64 m)∧w=w':=by
 go_enter Tryz.func255,Tryz.ntmps255
 go_wp2
 go_ret
 exact⟨rfl,by trivial⟩
theorem shift2_any(m R SB:Nat)(v:Value)(w:World)(h:Blk w SB 296 [.int .i64 R,v])(hm:m≤7000)(hR:1≤R)(hR2:R≤193):Calls Tryz.prog 256 #[.int .i64 m,.pointer (some ⟨SB,0,none⟩)] w fun e w'=>e= .returned (.int .i64 (((m+1) % (32*R):Nat):Int))∧w=w':=by
 have c0:=h.cell (j:=0) (v:=.int .i64 R) rfl
 go_enter Tryz.func256,Tryz.ntmps256
 go_wp2
 go_ret
 refine⟨ret_int ?_,by trivial⟩
 push_cast
 try rfl
theorem ind_any(R:Nat)(sv:Value)(w:World)(h1:sv.oneCell'=true):Calls Tryz.prog 238 #[.agg #[.int .i64 R,sv]] w fun e w'=>e= .returned (.func (.func 257) #[] #[.pointer (some ⟨w.heap.size,0,none⟩)])∧Blk w' w.heap.size 296 [.int .i64 R,sv]∧Below w.heap.size w w':=by
 have hmf:∀ (fn:Fn) (first cap:Array Value) (w:World),(Instr.makeFunc fn first cap).run Tryz.prog w= .ok (.func fn first cap) w:=fun _ _ _ _=>rfl
 go_enter Tryz.func238,Tryz.ntmps238
 go_wp2
 go_ret
 exact⟨rfl,Blk.new w [.int .i64 R,sv] 296 rfl,bal (Below.refl _ _) _⟩
def psO(d s:Nat):List (Int × Int):=(List.range (32*rwS d)).map fun(k:Nat)=>((k:Int),((mx0 d s (k / rwS d) (k % rwS d):Nat):Int))
theorem psO_len(d s:Nat):(psO d s).length=32*rwS d:=by simp [psO]
theorem psO_get(d s k:Nat)(h:k<(psO d s).length):(psO d s)[k]=((k:Int),((mx0 d s (k / rwS d) (k % rwS d):Nat):Int)):=by simp [psO]
def OkP(PS:List (Int × Int))(pre:List (Int × Int))(x:Int × Int):Prop:=∃ h:pre.length<PS.length,x=PS[pre.length]
def W124(IB CB R c:Nat)(sv:Value)(cp:Nat)(W:World):Prop:=W.cell? ⟨IB,0,none⟩=some (.int .i64 R)∧W.cell? ⟨IB,1,none⟩=some sv∧W.cell? ⟨CB,c,none⟩=some (.int .i64 cp)
def IjI(PS:List (Int × Int))(R s:Nat)(J:List (Int × Int)→World→Prop)(W0:World)(IB CB SB:Nat)(sv:Value)(i:Value)(wr:World):Prop :=
 ∃ k:Nat,k≤32*R∧i= .int .i64 k∧J (PS.take k) wr∧Blk wr IB 296 [.int .i64 R,sv]∧ShV wr R s sv SB∧Blk wr CB 316 (ints8 cpI)∧W0.heap.size≤wr.heap.size
def IdQ(PS:List (Int × Int))(J Jx:List (Int × Int)→World→Prop)(e:Ending)(W':World):Prop :=
 (∃ v,e= .returned v)∧((∃ ys,ys=PS∧J ys W')∨(∃ pre,(∃ k,k≤PS.length∧pre=PS.take k)∧Jx pre W'))
theorem ind_in(l d s IB SB:Nat)(sv:Value)(h1:1≤d)(h2:d≤6148)(hs:s≤2)(bs:List Nat)(W:World)(hI:Blk W IB 296 [.int .i64 (rwS d),sv])(hV:ShV W (rwS d) s sv SB)(ha:IB ∉ bs)(hb:SB ∉ bs)(hbs:∀ b ∈ bs,b<W.heap.size)
 (J Jx:List (Int × Int)→World→Prop) (hJ:Cl W.heap.size J) (hJx:Cl W.heap.size Jx)
 (hY:∀ pre x W1,J pre W1→OkP (psO d s) pre x→YieldAt Fence.wide 1 Tryz.prog l (encP x) W1 fun e W' =>
   (e= .returned (.bool true)∧J (pre ++ [x]) W'∧KpB bs W1 W')∨(e= .returned (.bool false)∧Jx (pre ++ [x]) W'))
 (h0:J [] W) :
 CallsIn Fence.wide 2 Tryz.prog 257 #[.func (.yield l) #[] #[],.pointer (some ⟨IB,0,none⟩)] W (IdQ (psO d s) J Jx):=by
 have hR:=rwS_le h2
 have hR1:=rwS_pos h1
 obtain⟨PS,hPS⟩:∃ PS,PS=psO d s:=⟨_,rfl⟩
 have HPL:=Lib.hid (show PS.length=32*rwS d by rw [hPS];exact psO_len d s)
 have HPG:=Lib.hid (show ∀ k (h:k<PS.length),PS[k]=((k:Int),((mx0 d s (k / rwS d) (k % rwS d):Nat):Int)) from fun k h=>by subst hPS;exact psO_get d s k h)
 have HX2:=Lib.hid (fun c r=>show mx0 d s c r=if s=2 then(32*r+cpN c+1) % (32*rwS d) else 32*r+cpN c from rfl)
 rw [← hPS]at hY ⊢
 clear hPS
 generalize rwS d=R at *
 have HI:=Lib.hid hI
 have HV:=Lib.hid hV
 have HA:=Lib.hid ha
 have HB:=Lib.hid hb
 have HBS:=Lib.hid hbs
 clear hI hV ha hb hbs
 refine callsIn_of_wp Tryz.func257 rfl trivial ?_ rfl
 simp only [Tryz.ntmps257,List.size_toArray,List.length_cons,List.length_nil,Nat.reduceAdd,Nat.reduceSub,Array.replicate_succ,Array.replicate_zero,List.push_toArray,List.append_toArray,List.nil_append,List.cons_append]
 gi_wp2_with fail
 refine⟨by simp [Fence.wide],?_⟩
 refine CallsIn.mono (callsIn_wide.2 (cols_any W)) ?_
 rintro e w1 ⟨rfl,hB1⟩
 have HI1:=Lib.hid (HI.out.below hB1)
 have HV1:=Lib.hid (HV.out.below hB1)
 have HJ1:=Lib.hid (hJ.call h0 hB1)
 have HZ1:=Lib.hid hB1.size
 clear hB1
 have hc0:Blk (w1.alloc (.cells (ints8 (List.replicate 32 0)).toArray 316)) w1.heap.size 316 (ints8 (List.replicate 32 0)):=Blk.new w1 _ 316 rfl
 gi_wp2_with (refine listIn_of rfl nofun fun K hK=>wp_strow (cs:=ints8 cpI) 316 (.tmp 3) (.tmp 5) rfl rfl rfl hc0 rfl info143 (ints8_one _) ?_
              intro W2 g1 g2
              refine hK _ _ ?_
              clear hK K
              have HC2:=Lib.hid g1
              have H2:=Lib.hid g2
              have c0:=((HI1.out.alloc (.cells (ints8 (List.replicate 32 0)).toArray 316)).grown g2 (by have:=HI1.out.lt;intro e;injection e with e;omega)).cell (j:=0) (v:=.int .i64 R) rfl
              clear g1 g2 hc0)
 have hq2:Below w1.heap.size w1 W2:=((Below.refl _ w1).alloc (Nat.le_refl _) _).grown H2.out (by simp) (fun k hk=>by cases hk;exact Nat.le_refl _)
 have HI2:=Lib.hid (HI1.out.below hq2)
 have HV2:=Lib.hid (HV1.out.below hq2)
 have HZ2:=Lib.hid (Nat.le_trans HZ1.out hq2.size)
 have HJ2:=Lib.hid (hJ.set (hJ.alloc (.cells (ints8 (List.replicate 32 0)).toArray 316) HJ1.out) H2.out HZ1.out)
 have HCB:Hid (w1.heap.size ∉ bs):=Lib.hid (fun hm=>by have:=HBS.out _ hm;have:=HZ1.out;omega)
 clear hq2 HI1 HV1 HZ1 HJ1 H2 HI HV
 generalize w1.heap.size=CB at *
 gi_loopw [9] (fun i wr=>IjI PS R s J W IB CB SB sv i wr) (fun i _=>32*R - (intOf i).toNat)
 case atStart=>exact⟨0,Nat.zero_le _,rfl,HJ2.out,HI2.out,HV2.out,HC2.out,HZ2.out⟩
 case round =>
  obtain⟨k,hk,rfl,hJs,hI,hV,hC,hz⟩:=hrel
  clear HI2 HV2 HC2 HZ2 HJ2 c0
  by_cases hlt:k<32*R
  · obtain⟨c,hc⟩:∃ c,c=k / R:=⟨_,rfl⟩
    obtain⟨r,hr⟩:∃ r,r=k % R:=⟨_,rfl⟩
    have hc32:c<32:=by rw [hc];exact Nat.div_lt_of_lt_mul (by rw [Nat.mul_comm];exact hlt)
    have hrR:r<R:=by rw [hr];exact Nat.mod_lt _ (by omega)
    have hcI:(k:Int) / (R:Int)=(c:Int):=by rw [hc];rfl
    have hrI:(k:Int) % (R:Int)=(r:Int):=by rw [hr];rfl
    have hRne:¬ R=0:=by omega
    have hwc:IntKind.i64.wrap (c:Int)=(c:Int):=by rw [IntKind.wrap_i64];omega
    have htm:(k:Int).tmod (R:Int)=(r:Int):=by rw [Int.tmod_eq_emod_of_nonneg (by omega)];exact hrI
    have hw3:IntKind.i64.wrap (32*(r:Int))=32*(r:Int):=by rw [IntKind.wrap_i64];omega
    have hlk:k<PS.length:=by rw [HPL.out];exact hlt
    have hpk:=HPG.out k hlk
    rw [← hc,← hr,HX2.out c r]at hpk
    have HPT:=Lib.hid (takeP_succ PS k hlk)
    have HOK:=Lib.hid (show ∀ x,x=PS[k]→OkP PS (PS.take k) x from fun x hx=>⟨by rw [List.length_take];omega,by rw [hx];congr 1;rw [List.length_take];omega⟩)
    clear hc hr
    have hcc:wr.cell? ⟨CB,c,none⟩=some (.int .i64 (cpN c:Int)):=by
     have h9:=Blk.icell hC (j:=c) hc32
     rw [h9]
     congr 2
     unfold gi cpI cpN
     rw [List.getD_eq_getElem?_getD,List.getD_eq_getElem?_getD,List.getElem?_map]
     cases cpL[c]?<;>rfl
    have hcp:=cpN_lt c
    have HW:Hid (W124 IB CB R c sv (cpN c) wr.drew):=Lib.hid ⟨hI.cell (j:=0) rfl,hI.cell (j:=1) rfl,hcc⟩
    have hix:=fun W=>ix143 CB hc32 .i64 W
    have HJs:=Lib.hid hJs
    have HIs:=Lib.hid hI
    have HVs:=Lib.hid hV
    have HCs:=Lib.hid hC
    have HZs:=Lib.hid hz
    clear hJs hI hC hz hcc
    generalize cpN c=cp at *
    rcases hV with⟨hs2,rfl⟩ | ⟨rfl,rfl,vv,hS⟩
    · rw [if_neg hs2]at hpk
      obtain⟨m,hm⟩:∃ m,m=cp+32*r:=⟨_,rfl⟩
      rw [show 32*r+cp=m by omega]at hpk
      have hws:IntKind.i64.wrap ((cp:Int)+32*(r:Int))=(m:Int):=by rw [IntKind.wrap_i64];omega
      have hm7:m≤7000:=by omega
      have hk7:IntKind.i64.wrap ((k:Int)+1)=(k:Int)+1:=by rw [IntKind.wrap_i64];omega
      clear hm
      gi_wp2_with fail
      refine wpIn_nopanic ?_
      refine PI_start (W124 IB CB R c (.func (.func 255) #[] #[]) cp) 16 19 #[false,false,false,false,false,false,false,false,false,false,false,false,false,false,false,false,false,false,false] (by kernel_rfl) (by kernel_rfl) (by kernel_rfl) ?_
      refine PI_takeW 0 12 (.func (.yield l) #[] #[]) #[true,false,false,false,false,false,false,false,false,false,false,false,false,false,false,false,false,false,false] rfl rfl rfl (by kernel_rfl) (by kernel_rfl) (by kernel_rfl) (by kernel_rfl) (by decide) (fun _ _ _ h=>h) ⟨Or.inl ⟨by rfl,fun W hS=>by go_simp⟩,fun _=>rfl⟩ HW.out ?_
      simp only [yq0,yq1,yq2]
      refine PI_takeW 1 13 (.int .i64 (k:Int)) #[true,true,false,false,false,false,false,false,false,false,false,false,false,false,false,false,false,false,false] rfl rfl rfl (by kernel_rfl) (by kernel_rfl) (by kernel_rfl) (by kernel_rfl) (by decide) (fun _ _ _ h=>h) ⟨Or.inl ⟨by rfl,fun W hS=>by go_simp⟩,fun _=>rfl⟩ HW.out ?_
      simp only [yq0,yq1,yq2]
      refine PI_takeW 2 14 (.pointer (some ⟨IB,1,none⟩)) #[true,true,true,false,false,false,false,false,false,false,false,false,false,false,false,false,false,false,false] rfl rfl rfl (by kernel_rfl) (by kernel_rfl) (by kernel_rfl) (by kernel_rfl) (by decide) (fun _ _ _ h=>h) ⟨Or.inl ⟨by rfl,fun W hS=>by go_simp⟩,fun _=>rfl⟩ HW.out ?_
      simp only [yq0,yq1,yq2]
      refine PI_takeT 3 15 (.func (.func 255) #[] #[]) #[true,true,true,true,false,false,false,false,false,false,false,false,false,false,false,false,false,false,false] [] rfl rfl rfl (by kernel_rfl) (by kernel_rfl) (by kernel_rfl) (by kernel_rfl) (by kernel_rfl) (by kernel_rfl) (by kernel_rfl) (by decide) (fun _ _ _ h=>h) ⟨Or.inl ⟨by rfl,fun W hS=>by obtain⟨s0,s1,s2⟩:=hS;go_simp⟩,fun _=>rfl⟩ HW.out ?_
      simp only [yq0,yq1,yq2]
      refine PI_takeW 4 16 (.int .i64 (k:Int)) #[true,true,true,true,true,false,false,false,false,false,false,false,false,false,false,false,false,false,false] rfl rfl rfl (by kernel_rfl) (by kernel_rfl) (by kernel_rfl) (by kernel_rfl) (by decide) (fun _ _ _ h=>h) ⟨Or.inl ⟨by rfl,fun W hS=>by go_simp⟩,fun _=>rfl⟩ HW.out ?_
      simp only [yq0,yq1,yq2]
      refine PI_takeW 5 17 (.pointer (some ⟨IB,0,none⟩)) #[true,true,true,true,true,true,false,false,false,false,false,false,false,false,false,false,false,false,false] rfl rfl rfl (by kernel_rfl) (by kernel_rfl) (by kernel_rfl) (by kernel_rfl) (by decide) (fun _ _ _ h=>h) ⟨Or.inl ⟨by rfl,fun W hS=>by go_simp⟩,fun _=>rfl⟩ HW.out ?_
      simp only [yq0,yq1,yq2]
      refine PI_takeT 6 18 (.int .i64 (R:Int)) #[true,true,true,true,true,true,true,false,false,false,false,false,false,false,false,false,false,false,false] [15,9,8,7] rfl rfl rfl (by kernel_rfl) (by kernel_rfl) (by kernel_rfl) (by kernel_rfl) (by kernel_rfl) (by kernel_rfl) (by kernel_rfl) (by decide) (fun _ _ _ h=>h) ⟨Or.inl ⟨by rfl,fun W hS=>by obtain⟨s0,s1,s2⟩:=hS;go_simp⟩,fun _=>rfl⟩ HW.out ?_
      simp only [yq0,yq1,yq2]
      refine PI_takeW 7 19 (.int .i64 (c:Int)) #[true,true,true,true,true,true,true,true,false,false,false,false,false,false,false,false,false,false,false] rfl rfl rfl (by kernel_rfl) (by kernel_rfl) (by kernel_rfl) (by kernel_rfl) (by decide) (fun _ _ _ h=>h) ⟨Or.inl ⟨by rfl,fun W hS=>by go_simp⟩,fun _=>rfl⟩ HW.out ?_
      simp only [yq0,yq1,yq2]
      refine PI_takeW 8 20 (.pointer (some ⟨CB,c,none⟩)) #[true,true,true,true,true,true,true,true,true,false,false,false,false,false,false,false,false,false,false] rfl rfl rfl (by kernel_rfl) (by kernel_rfl) (by kernel_rfl) (by kernel_rfl) (by decide) (fun _ _ _ h=>h) ⟨Or.inl ⟨by rfl,fun W hS=>by go_simp⟩,fun _=>rfl⟩ HW.out ?_
      simp only [yq0,yq1,yq2]
      refine PI_takeT 9 21 (.int .i64 (cp:Int)) #[true,true,true,true,true,true,true,true,true,true,false,false,false,false,false,false,false,false,false] [15] rfl rfl rfl (by kernel_rfl) (by kernel_rfl) (by kernel_rfl) (by kernel_rfl) (by kernel_rfl) (by kernel_rfl) (by kernel_rfl) (by decide) (fun _ _ _ h=>h) ⟨Or.inl ⟨by rfl,fun W hS=>by obtain⟨s0,s1,s2⟩:=hS;go_simp⟩,fun _=>rfl⟩ HW.out ?_
      simp only [yq0,yq1,yq2]
      refine PI_takeW 10 22 (.int .i64 (k:Int)) #[true,true,true,true,true,true,true,true,true,true,true,false,false,false,false,false,false,false,false] rfl rfl rfl (by kernel_rfl) (by kernel_rfl) (by kernel_rfl) (by kernel_rfl) (by decide) (fun _ _ _ h=>h) ⟨Or.inl ⟨by rfl,fun W hS=>by go_simp⟩,fun _=>rfl⟩ HW.out ?_
      simp only [yq0,yq1,yq2]
      refine PI_takeW 11 23 (.pointer (some ⟨IB,0,none⟩)) #[true,true,true,true,true,true,true,true,true,true,true,true,false,false,false,false,false,false,false] rfl rfl rfl (by kernel_rfl) (by kernel_rfl) (by kernel_rfl) (by kernel_rfl) (by decide) (fun _ _ _ h=>h) ⟨Or.inl ⟨by rfl,fun W hS=>by go_simp⟩,fun _=>rfl⟩ HW.out ?_
      simp only [yq0,yq1,yq2]
      refine PI_takeT 12 24 (.int .i64 (R:Int)) #[true,true,true,true,true,true,true,true,true,true,true,true,true,false,false,false,false,false,false] [15,14,13] rfl rfl rfl (by kernel_rfl) (by kernel_rfl) (by kernel_rfl) (by kernel_rfl) (by kernel_rfl) (by kernel_rfl) (by kernel_rfl) (by decide) (fun _ _ _ h=>h) ⟨Or.inl ⟨by rfl,fun W hS=>by obtain⟨s0,s1,s2⟩:=hS;go_simp⟩,fun _=>rfl⟩ HW.out ?_
      simp only [yq0,yq1,yq2]
      refine PI_takeW 13 25 (.int .i64 (r:Int)) #[true,true,true,true,true,true,true,true,true,true,true,true,true,true,false,false,false,false,false] rfl rfl rfl (by kernel_rfl) (by kernel_rfl) (by kernel_rfl) (by kernel_rfl) (by decide) (fun _ _ _ h=>h) ⟨Or.inl ⟨by rfl,fun W hS=>by go_simp⟩,fun _=>rfl⟩ HW.out ?_
      simp only [yq0,yq1,yq2]
      refine PI_takeW 14 26 (.int .i64 (32*(r:Int))) #[true,true,true,true,true,true,true,true,true,true,true,true,true,true,true,false,false,false,false] rfl rfl rfl (by kernel_rfl) (by kernel_rfl) (by kernel_rfl) (by kernel_rfl) (by decide) (fun _ _ _ h=>h) ⟨Or.inl ⟨by rfl,fun W hS=>by go_simp⟩,fun _=>rfl⟩ HW.out ?_
      simp only [yq0,yq1,yq2]
      refine PI_takeW 15 27 (.int .i64 (m:Int)) #[true,true,true,true,true,true,true,true,true,true,true,true,true,true,true,true,false,false,false] rfl rfl rfl (by kernel_rfl) (by kernel_rfl) (by kernel_rfl) (by kernel_rfl) (by decide) (fun _ _ _ h=>h) ⟨Or.inl ⟨by rfl,fun W hS=>by go_simp⟩,fun _=>rfl⟩ HW.out ?_
      simp only [yq0,yq1,yq2]
      refine PI_one 16 #[true,true,true,true,true,true,true,true,true,true,true,true,true,true,true,true,true,false,false] rfl (by kernel_rfl) (by kernel_rfl) rfl (by kernel_rfl) (fun K hK=>?_)
      refine operIn_w nofun ?_
      go_simp
      refine(shift0_any m _).mono ?_
      rintro e w' ⟨rfl,rfl⟩
      refine hK _ _ ?_
      clear hK K
      refine PI_one 17 #[true,true,true,true,true,true,true,true,true,true,true,true,true,true,true,true,true,true,false] rfl (by kernel_rfl) (by kernel_rfl) rfl (by kernel_rfl) (fun K hK=>?_)
      obtain⟨fn,tmps,assign,body,hy,hRD⟩:=hY _ ((k:Int),(m:Int)) wr.drew (hJ.call HJs.out ((Below.refl _ wr).drew)) (HOK.out _ hpk.symm)
      unfold encP at hy
      have HRD:=Lib.hid hRD
      have HPK:=Lib.hid hpk
      clear hRD hpk
      go_simp
      refine HRD.out.mono ?_
      rintro e W7 (⟨rfl,hJ7,hk7⟩ | ⟨rfl,hJx7⟩)
      · refine hK _ _ ?_
        clear hK K
        refine PI_one 18 #[true,true,true,true,true,true,true,true,true,true,true,true,true,true,true,true,true,true,true] rfl (by kernel_rfl) (by kernel_rfl) rfl (by kernel_rfl) (fun K hK=>?_)
        refine operIn_w nofun ?_
        go_simp
        refine hK _ _ ?_
        clear hK K
        refine PI_done (by kernel_rfl) ?_ _
        refine noPanic_normal ?_
        gi_wp2
        go_roundw
        case rel=>exact⟨k+1,by omega,by go_num,by rw [HPT.out,HPK.out];exact hJ7,(HIs.out.drew).kp hk7 HA.out,ShV.kp (HVs.out.below ((Below.refl _ wr).drew)) hk7 HB.out,(HCs.out.drew).kp hk7 HCB.out,Nat.le_trans HZs.out hk7.1⟩
        case measure=>simp [intOf];omega
      · refine hK _ _ ?_
        clear hK K
        refine PI_one 18 #[true,true,true,true,true,true,true,true,true,true,true,true,true,true,true,true,true,true,true] rfl (by kernel_rfl) (by kernel_rfl) rfl (by kernel_rfl) (fun K hK=>?_)
        refine operIn_w nofun ?_
        go_simp
        refine hK _ _ ?_
        clear hK K
        refine PI_done (by kernel_rfl) ?_ _
        refine noPanic_normal ?_
        gi_wp2
        go_end0
        exact⟨⟨_,rfl⟩,.inr ⟨_,⟨k+1,by have:=HPL.out;omega,by rw [HPT.out,HPK.out]⟩,hJx7⟩⟩
    · rw [if_pos rfl]at hpk
      obtain⟨m0,hm0⟩:∃ m,m=cp+32*r:=⟨_,rfl⟩
      obtain⟨m,hm⟩:∃ m,m=(m0+1) % (32*R):=⟨_,rfl⟩
      rw [show 32*r+cp+1=m0+1 by omega,← hm]at hpk
      have HMM:=Lib.hid (show(m:Int)=(((m0+1) % (32*R):Nat):Int) by rw [hm])
      have HSB:=Lib.hid (hS.drew)
      have hws:IntKind.i64.wrap ((cp:Int)+32*(r:Int))=(m0:Int):=by rw [IntKind.wrap_i64];omega
      have hm7:m0≤7000:=by omega
      have hk7:IntKind.i64.wrap ((k:Int)+1)=(k:Int)+1:=by rw [IntKind.wrap_i64];omega
      clear hm hm0 hS
      gi_wp2_with fail
      refine wpIn_nopanic ?_
      refine PI_start (W124 IB CB R c (.func (.func 256) #[] #[.pointer (some ⟨SB,0,none⟩)]) cp) 16 19 #[false,false,false,false,false,false,false,false,false,false,false,false,false,false,false,false,false,false,false] (by kernel_rfl) (by kernel_rfl) (by kernel_rfl) ?_
      refine PI_takeW 0 12 (.func (.yield l) #[] #[]) #[true,false,false,false,false,false,false,false,false,false,false,false,false,false,false,false,false,false,false] rfl rfl rfl (by kernel_rfl) (by kernel_rfl) (by kernel_rfl) (by kernel_rfl) (by decide) (fun _ _ _ h=>h) ⟨Or.inl ⟨by rfl,fun W hS=>by go_simp⟩,fun _=>rfl⟩ HW.out ?_
      simp only [yq0,yq1,yq2]
      refine PI_takeW 1 13 (.int .i64 (k:Int)) #[true,true,false,false,false,false,false,false,false,false,false,false,false,false,false,false,false,false,false] rfl rfl rfl (by kernel_rfl) (by kernel_rfl) (by kernel_rfl) (by kernel_rfl) (by decide) (fun _ _ _ h=>h) ⟨Or.inl ⟨by rfl,fun W hS=>by go_simp⟩,fun _=>rfl⟩ HW.out ?_
      simp only [yq0,yq1,yq2]
      refine PI_takeW 2 14 (.pointer (some ⟨IB,1,none⟩)) #[true,true,true,false,false,false,false,false,false,false,false,false,false,false,false,false,false,false,false] rfl rfl rfl (by kernel_rfl) (by kernel_rfl) (by kernel_rfl) (by kernel_rfl) (by decide) (fun _ _ _ h=>h) ⟨Or.inl ⟨by rfl,fun W hS=>by go_simp⟩,fun _=>rfl⟩ HW.out ?_
      simp only [yq0,yq1,yq2]
      refine PI_takeT 3 15 (.func (.func 256) #[] #[.pointer (some ⟨SB,0,none⟩)]) #[true,true,true,true,false,false,false,false,false,false,false,false,false,false,false,false,false,false,false] [] rfl rfl rfl (by kernel_rfl) (by kernel_rfl) (by kernel_rfl) (by kernel_rfl) (by kernel_rfl) (by kernel_rfl) (by kernel_rfl) (by decide) (fun _ _ _ h=>h) ⟨Or.inl ⟨by rfl,fun W hS=>by obtain⟨s0,s1,s2⟩:=hS;go_simp⟩,fun _=>rfl⟩ HW.out ?_
      simp only [yq0,yq1,yq2]
      refine PI_takeW 4 16 (.int .i64 (k:Int)) #[true,true,true,true,true,false,false,false,false,false,false,false,false,false,false,false,false,false,false] rfl rfl rfl (by kernel_rfl) (by kernel_rfl) (by kernel_rfl) (by kernel_rfl) (by decide) (fun _ _ _ h=>h) ⟨Or.inl ⟨by rfl,fun W hS=>by go_simp⟩,fun _=>rfl⟩ HW.out ?_
      simp only [yq0,yq1,yq2]
      refine PI_takeW 5 17 (.pointer (some ⟨IB,0,none⟩)) #[true,true,true,true,true,true,false,false,false,false,false,false,false,false,false,false,false,false,false] rfl rfl rfl (by kernel_rfl) (by kernel_rfl) (by kernel_rfl) (by kernel_rfl) (by decide) (fun _ _ _ h=>h) ⟨Or.inl ⟨by rfl,fun W hS=>by go_simp⟩,fun _=>rfl⟩ HW.out ?_
      simp only [yq0,yq1,yq2]
      refine PI_takeT 6 18 (.int .i64 (R:Int)) #[true,true,true,true,true,true,true,false,false,false,false,false,false,false,false,false,false,false,false] [15,9,8,7] rfl rfl rfl (by kernel_rfl) (by kernel_rfl) (by kernel_rfl) (by kernel_rfl) (by kernel_rfl) (by kernel_rfl) (by kernel_rfl) (by decide) (fun _ _ _ h=>h) ⟨Or.inl ⟨by rfl,fun W hS=>by obtain⟨s0,s1,s2⟩:=hS;go_simp⟩,fun _=>rfl⟩ HW.out ?_
      simp only [yq0,yq1,yq2]
      refine PI_takeW 7 19 (.int .i64 (c:Int)) #[true,true,true,true,true,true,true,true,false,false,false,false,false,false,false,false,false,false,false] rfl rfl rfl (by kernel_rfl) (by kernel_rfl) (by kernel_rfl) (by kernel_rfl) (by decide) (fun _ _ _ h=>h) ⟨Or.inl ⟨by rfl,fun W hS=>by go_simp⟩,fun _=>rfl⟩ HW.out ?_
      simp only [yq0,yq1,yq2]
      refine PI_takeW 8 20 (.pointer (some ⟨CB,c,none⟩)) #[true,true,true,true,true,true,true,true,true,false,false,false,false,false,false,false,false,false,false] rfl rfl rfl (by kernel_rfl) (by kernel_rfl) (by kernel_rfl) (by kernel_rfl) (by decide) (fun _ _ _ h=>h) ⟨Or.inl ⟨by rfl,fun W hS=>by go_simp⟩,fun _=>rfl⟩ HW.out ?_
      simp only [yq0,yq1,yq2]
      refine PI_takeT 9 21 (.int .i64 (cp:Int)) #[true,true,true,true,true,true,true,true,true,true,false,false,false,false,false,false,false,false,false] [15] rfl rfl rfl (by kernel_rfl) (by kernel_rfl) (by kernel_rfl) (by kernel_rfl) (by kernel_rfl) (by kernel_rfl) (by kernel_rfl) (by decide) (fun _ _ _ h=>h) ⟨Or.inl ⟨by rfl,fun W hS=>by obtain⟨s0,s1,s2⟩:=hS;go_simp⟩,fun _=>rfl⟩ HW.out ?_
      simp only [yq0,yq1,yq2]
      refine PI_takeW 10 22 (.int .i64 (k:Int)) #[true,true,true,true,true,true,true,true,true,true,true,false,false,false,false,false,false,false,false] rfl rfl rfl (by kernel_rfl) (by kernel_rfl) (by kernel_rfl) (by kernel_rfl) (by decide) (fun _ _ _ h=>h) ⟨Or.inl ⟨by rfl,fun W hS=>by go_simp⟩,fun _=>rfl⟩ HW.out ?_
      simp only [yq0,yq1,yq2]
      refine PI_takeW 11 23 (.pointer (some ⟨IB,0,none⟩)) #[true,true,true,true,true,true,true,true,true,true,true,true,false,false,false,false,false,false,false] rfl rfl rfl (by kernel_rfl) (by kernel_rfl) (by kernel_rfl) (by kernel_rfl) (by decide) (fun _ _ _ h=>h) ⟨Or.inl ⟨by rfl,fun W hS=>by go_simp⟩,fun _=>rfl⟩ HW.out ?_
      simp only [yq0,yq1,yq2]
      refine PI_takeT 12 24 (.int .i64 (R:Int)) #[true,true,true,true,true,true,true,true,true,true,true,true,true,false,false,false,false,false,false] [15,14,13] rfl rfl rfl (by kernel_rfl) (by kernel_rfl) (by kernel_rfl) (by kernel_rfl) (by kernel_rfl) (by kernel_rfl) (by kernel_rfl) (by decide) (fun _ _ _ h=>h) ⟨Or.inl ⟨by rfl,fun W hS=>by obtain⟨s0,s1,s2⟩:=hS;go_simp⟩,fun _=>rfl⟩ HW.out ?_
      simp only [yq0,yq1,yq2]
      refine PI_takeW 13 25 (.int .i64 (r:Int)) #[true,true,true,true,true,true,true,true,true,true,true,true,true,true,false,false,false,false,false] rfl rfl rfl (by kernel_rfl) (by kernel_rfl) (by kernel_rfl) (by kernel_rfl) (by decide) (fun _ _ _ h=>h) ⟨Or.inl ⟨by rfl,fun W hS=>by go_simp⟩,fun _=>rfl⟩ HW.out ?_
      simp only [yq0,yq1,yq2]
      refine PI_takeW 14 26 (.int .i64 (32*(r:Int))) #[true,true,true,true,true,true,true,true,true,true,true,true,true,true,true,false,false,false,false] rfl rfl rfl (by kernel_rfl) (by kernel_rfl) (by kernel_rfl) (by kernel_rfl) (by decide) (fun _ _ _ h=>h) ⟨Or.inl ⟨by rfl,fun W hS=>by go_simp⟩,fun _=>rfl⟩ HW.out ?_
      simp only [yq0,yq1,yq2]
      refine PI_takeW 15 27 (.int .i64 (m0:Int)) #[true,true,true,true,true,true,true,true,true,true,true,true,true,true,true,true,false,false,false] rfl rfl rfl (by kernel_rfl) (by kernel_rfl) (by kernel_rfl) (by kernel_rfl) (by decide) (fun _ _ _ h=>h) ⟨Or.inl ⟨by rfl,fun W hS=>by go_simp⟩,fun _=>rfl⟩ HW.out ?_
      simp only [yq0,yq1,yq2]
      refine PI_one 16 #[true,true,true,true,true,true,true,true,true,true,true,true,true,true,true,true,true,false,false] rfl (by kernel_rfl) (by kernel_rfl) rfl (by kernel_rfl) (fun K hK=>?_)
      refine operIn_w nofun ?_
      go_simp
      refine(shift2_any m0 R SB vv _ HSB.out hm7 hR1 hR).mono ?_
      rintro e w' ⟨rfl,rfl⟩
      rw [← HMM.out]
      refine hK _ _ ?_
      clear hK K
      refine PI_one 17 #[true,true,true,true,true,true,true,true,true,true,true,true,true,true,true,true,true,true,false] rfl (by kernel_rfl) (by kernel_rfl) rfl (by kernel_rfl) (fun K hK=>?_)
      obtain⟨fn,tmps,assign,body,hy,hRD⟩:=hY _ ((k:Int),(m:Int)) wr.drew (hJ.call HJs.out ((Below.refl _ wr).drew)) (HOK.out _ hpk.symm)
      unfold encP at hy
      have HRD:=Lib.hid hRD
      have HPK:=Lib.hid hpk
      clear hRD hpk
      go_simp
      refine HRD.out.mono ?_
      rintro e W7 (⟨rfl,hJ7,hk7⟩ | ⟨rfl,hJx7⟩)
      · refine hK _ _ ?_
        clear hK K
        refine PI_one 18 #[true,true,true,true,true,true,true,true,true,true,true,true,true,true,true,true,true,true,true] rfl (by kernel_rfl) (by kernel_rfl) rfl (by kernel_rfl) (fun K hK=>?_)
        refine operIn_w nofun ?_
        go_simp
        refine hK _ _ ?_
        clear hK K
        refine PI_done (by kernel_rfl) ?_ _
        refine noPanic_normal ?_
        gi_wp2
        go_roundw
        case rel=>exact⟨k+1,by omega,by go_num,by rw [HPT.out,HPK.out];exact hJ7,(HIs.out.drew).kp hk7 HA.out,ShV.kp (HVs.out.below ((Below.refl _ wr).drew)) hk7 HB.out,(HCs.out.drew).kp hk7 HCB.out,Nat.le_trans HZs.out hk7.1⟩
        case measure=>simp [intOf];omega
      · refine hK _ _ ?_
        clear hK K
        refine PI_one 18 #[true,true,true,true,true,true,true,true,true,true,true,true,true,true,true,true,true,true,true] rfl (by kernel_rfl) (by kernel_rfl) rfl (by kernel_rfl) (fun K hK=>?_)
        refine operIn_w nofun ?_
        go_simp
        refine hK _ _ ?_
        clear hK K
        refine PI_done (by kernel_rfl) ?_ _
        refine noPanic_normal ?_
        gi_wp2
        go_end0
        exact⟨⟨_,rfl⟩,.inr ⟨_,⟨k+1,by have:=HPL.out;omega,by rw [HPT.out,HPK.out]⟩,hJx7⟩⟩
  · obtain rfl:k=32*R:=by omega
    have HJs:=Lib.hid hJs
    clear hJs hI hV hC
    gi_wp2
    go_end0
    exact⟨⟨_,rfl⟩,.inl ⟨_,List.take_of_length_le (Nat.le_of_eq HPL.out),HJs.out⟩⟩
theorem ind_seq(d s IB SB:Nat)(sv:Value)(h1:1≤d)(h2:d≤6148)(hs:s≤2)(bs:List Nat)(w:World)(hI:Blk w IB 296 [.int .i64 (rwS d),sv])(hV:ShV w (rwS d) s sv SB)(ha:IB ∉ bs)(hb:SB ∉ bs)(hbs:∀ b ∈ bs,b<w.heap.size) :
 SeqD 2 257 #[.pointer (some ⟨IB,0,none⟩)] encP (KpB bs) (fun ys=>ys=psO d s) (fun pre=>∃ k,k≤(psO d s).length∧pre=(psO d s).take k) (OkP (psO d s)) w:=fun l J Jx W hB hJ hJx hY h0 =>
 ind_in l d s IB SB sv h1 h2 hs bs W (hI.below hB) (hV.below hB) ha hb (fun b hb=>Nat.lt_of_lt_of_le (hbs b hb) hB.size) J Jx hJ hJx hY h0
end Go.Proofs.YtkdfefpnhaebfaaGreat.Cr
