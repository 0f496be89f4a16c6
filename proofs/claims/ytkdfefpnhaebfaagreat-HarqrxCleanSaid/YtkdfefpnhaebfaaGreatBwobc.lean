/- Bundle. Conditions: none. -/
import Derived.Test.YtkdfefpnhaebfaaGreatBwobb
set_option linter.unusedVariables false
set_option linter.unusedSimpArgs false
namespace Go.Proofs.YtkdfefpnhaebfaaGreat.Cr
open Go.RowKit Go.Shelf
attribute [local go_sem] Oper.semAt_some
set_option maxRecDepth 100000
set_option maxHeartbeats 4000000
def shr(C g m i:Nat):Int:=if i+g % C<C then((g / C*m:Nat):Int) else(((g / C+1)*m:Nat):Int)
def shT(C g m n:Nat):List Int:=(List.range n).map (shr C g m)
theorem shT_len(C g m n:Nat):(shT C g m n).length=n:=by simp [shT]
theorem shT_succ(C g m n:Nat):shT C g m (n+1)=shT C g m n ++ [shr C g m n]:=by simp [shT,List.range_succ]
theorem shT_gi(C g m n i:Nat)(h:i<n):gi (shT C g m n) i=shr C g m i:=by
 rw [gi_eq _ _ (by rw [shT_len];exact h)];simp [shT]
def psS(C g m:Nat):List (Int × Int):=(List.range C).map fun(i:Nat)=>((i:Int),shr C g m i)
theorem psS_len(C g m:Nat):(psS C g m).length=C:=by simp [psS]
theorem psS_get(C g m k:Nat)(h:k<(psS C g m).length):(psS C g m)[k]=((k:Int),shr C g m k):=by simp [psS]
def ScI(PS:List (Int × Int))(C:Nat)(J:List (Int × Int)→World→Prop)(W0:World)(CB KB:Nat)(cf:List Value)(i:Value)(wr:World):Prop :=
 ∃ k:Nat,k≤C∧i= .int .i64 k∧J (PS.take k) wr∧(Blk wr CB 36 cf∧Blk wr KB 3 [.int .i64 C])∧W0.heap.size≤wr.heap.size
theorem shs_in(l C g m CB KB:Nat)(sz lm rv:Int)(hC1:1≤C)(hC:C≤13)(hm1:1≤m)(hm:m≤6)(hg:g≤65536)(Kp:World→World→Prop)(W:World)
 (hCB:Blk W CB 36 [.int .i64 sz,.int .i64 ((m*g:Nat):Int),.int .i64 m,.int .i64 lm,.int .i64 rv]) (hKB:Blk W KB 3 [.int .i64 C])
 (hkp:∀ A B,Kp A B→Blk A CB 36 [.int .i64 sz,.int .i64 ((m*g:Nat):Int),.int .i64 m,.int .i64 lm,.int .i64 rv]→Blk A KB 3 [.int .i64 C]→Blk B CB 36 [.int .i64 sz,.int .i64 ((m*g:Nat):Int),.int .i64 m,.int .i64 lm,.int .i64 rv]∧Blk B KB 3 [.int .i64 C])
 (hks:∀ A B,Kp A B→A.heap.size≤B.heap.size)
 (J Jx:List (Int × Int)→World→Prop) (hJ:ClB J) (hJx:ClB Jx)
 (hY:∀ pre x W1,J pre W1→OkP (psS C g m) pre x→YieldAt Fence.wide 1 Tryz.prog l (encP x) W1 fun e W' =>
   (e= .returned (.bool true)∧J (pre ++ [x]) W'∧Kp W1 W')∨(e= .returned (.bool false)∧Jx (pre ++ [x]) W'))
 (h0:J [] W) :
 CallsIn Fence.wide 2 Tryz.prog 95 #[.func (.yield l) #[] #[],.pointer (some ⟨CB,0,none⟩),.pointer (some ⟨KB,0,none⟩)] W (IdQ (psS C g m) J Jx):=by
 obtain⟨PS,hPS⟩:∃ PS,PS=psS C g m:=⟨_,rfl⟩
 have HPL:=Lib.hid (show PS.length=C by rw [hPS];exact psS_len C g m)
 have HPG:=Lib.hid (show ∀ k (h:k<PS.length),PS[k]=((k:Int),shr C g m k) from fun k h=>by subst hPS;exact psS_get C g m k h)
 have HSH0:=Lib.hid (fun i=>show shr C g m i=if i+g % C<C then((g / C*m:Nat):Int) else(((g / C+1)*m:Nat):Int) from rfl)
 rw [← hPS]at hY ⊢
 obtain⟨bt,hbt⟩:∃ bt,bt=((m*g:Nat):Int):=⟨_,rfl⟩
 rw [← hbt]at hCB hkp
 have hgq:bt / (m:Int)=(g:Int):=by rw [hbt];push_cast;exact Int.mul_ediv_cancel_left _ (by omega)
 have hgt:bt.tdiv (m:Int)=(g:Int):=by rw [Int.tdiv_eq_ediv_of_nonneg (by rw [hbt];omega)];exact hgq
 have hgw:IntKind.i64.wrap (g:Int)=(g:Int):=by rw [IntKind.wrap_i64];omega
 have hmne:¬ m=0:=by omega
 have hCne:¬ C=0:=by omega
 obtain⟨a,ha⟩:∃ a,a=g / C:=⟨_,rfl⟩
 obtain⟨r,hr⟩:∃ r,r=g % C:=⟨_,rfl⟩
 have haq:(g:Int) / (C:Int)=(a:Int):=by rw [ha];rfl
 have hrq:(g:Int) % (C:Int)=(r:Int):=by rw [hr];rfl
 have hat:(g:Int).tdiv (C:Int)=(a:Int):=by rw [Int.tdiv_eq_ediv_of_nonneg (by omega)];exact haq
 have hrt:(g:Int).tmod (C:Int)=(r:Int):=by rw [Int.tmod_eq_emod_of_nonneg (by omega)];exact hrq
 have ha1:a≤65536:=by rw [ha];exact Nat.le_trans (Nat.div_le_self _ _) hg
 have hrC:r<C:=by rw [hr];exact Nat.mod_lt _ (by omega)
 have haw:IntKind.i64.wrap (a:Int)=(a:Int):=by rw [IntKind.wrap_i64];omega
 have hcw:IntKind.i64.wrap ((C:Int) - (r:Int))=(C:Int) - (r:Int):=by rw [IntKind.wrap_i64];omega
 have HSH:Hid (∀ i,shr C g m i=if i+r<C then((a*m:Nat):Int) else(((a+1)*m:Nat):Int)):=Lib.hid (fun i=>by rw [ha,hr];exact HSH0.out i)
 have HKP:=Lib.hid hkp
 have HKS:=Lib.hid hks
 clear hPS hbt ha hr HSH0 hkp hks
 have HQ0:=Lib.hid (And.intro hCB hKB)
 have c1:=hCB.cell (j:=1) (v:=.int .i64 bt) rfl
 have c2:=hCB.cell (j:=2) (v:=.int .i64 m) rfl
 have c3:=hKB.cell (j:=0) (v:=.int .i64 C) rfl
 clear hCB hKB
 refine callsIn_of_wp Tryz.func95 rfl trivial ?_ rfl
 simp only [Tryz.ntmps95,List.size_toArray,List.length_cons,List.length_nil,Nat.reduceAdd,Nat.reduceSub,Array.replicate_succ,Array.replicate_zero,List.push_toArray,List.append_toArray,List.nil_append,List.cons_append]
 refine wpIn_scope_straight rfl ?_
 gi_wp2_with fail
 refine wpIn_label ?_
 rename_i K hK
 refine hK _ _ ?_
 clear hK K
 gi_wp2_with fail
 gi_loopw [13] (fun i wr=>ScI PS C J W CB KB [.int .i64 sz,.int .i64 bt,.int .i64 m,.int .i64 lm,.int .i64 rv] i wr) (fun i _=>C - (intOf i).toNat)
 case atStart=>exact⟨0,Nat.zero_le _,rfl,h0,HQ0.out,Nat.le_refl _⟩
 case round =>
  obtain⟨i,hi,rfl,hJs,hQ,hz⟩:=hrel
  clear c1 c2 c3
  have HJs:=Lib.hid hJs
  have HQs:=Lib.hid hQ
  have HZs:=Lib.hid hz
  clear hJs hQ hz
  by_cases hlt:i<C
  · have hlk:i<PS.length:=by rw [HPL.out];exact hlt
    have hpk:=HPG.out i hlk
    have HPT:=Lib.hid (takeP_succ PS i hlk)
    have HOK:=Lib.hid (show ∀ x,x=PS[i]→OkP PS (PS.take i) x from fun x hx=>⟨by rw [List.length_take];omega,by rw [hx];congr 1;rw [List.length_take];omega⟩)
    have d3:=HQs.out.2.cell (j:=0) (v:=.int .i64 C) rfl
    have HW:Hid (wr.drew.cell? ⟨KB,0,none⟩=some (.int .i64 C)):=Lib.hid d3
    have d2:=(HQs.out.1.drew).cell (j:=2) (v:=.int .i64 m) rfl
    have hil:(i:Int)+1≤14:=by omega
    by_cases hge:i+r<C
    · have HS:=Lib.hid (show shr C g m i=((a*m:Nat):Int) from HSH.out i |>.trans (by rw [if_pos hge]))
      have hd:decide ((C:Int) - (r:Int)≤(i:Int))=false:=by simp;omega
      have hd2:decide ((i:Int) ≥ (C:Int) - (r:Int))=false:=by simp;omega
      have hwm:IntKind.i64.wrap ((a:Int)*(m:Int))=((a*m:Nat):Int):=by
       have hb:a*m≤65537*6:=Nat.mul_le_mul (by omega) (by omega)
       rw [show (a:Int)*(m:Int)=((a*m:Nat):Int) by push_cast;rfl,IntKind.wrap_i64]
       generalize a*m=P at *
       omega
      gi_wp2_with fail
      refine wpIn_nopanic ?_
      refine PI_start (fun W=>W.cell? ⟨KB,0,none⟩=some (.int .i64 C)) 6 7 #[false,false,false,false,false,false,false] (by kernel_rfl) (by kernel_rfl) (by kernel_rfl) ?_
      refine PI_takeW 0 19 (.int .i64 (i:Int)) #[true,false,false,false,false,false,false] rfl rfl rfl (by kernel_rfl) (by kernel_rfl) (by kernel_rfl) (by kernel_rfl) (by decide) (fun _ _ _ h=>h) ⟨Or.inl ⟨by rfl,fun W hS=>by go_simp⟩,fun _=>rfl⟩ HW.out ?_
      simp only [yq0,yq1,yq2]
      refine PI_takeW 2 21 (.int .i64 (g:Int)) #[true,false,true,false,false,false,false] rfl rfl rfl (by kernel_rfl) (by kernel_rfl) (by kernel_rfl) (by kernel_rfl) (by decide) (fun _ _ _ h=>h) ⟨Or.inl ⟨by rfl,fun W hS=>by go_simp⟩,fun _=>rfl⟩ HW.out ?_
      simp only [yq0,yq1,yq2]
      refine PI_takeT 1 20 (.int .i64 (C:Int)) #[true,true,true,false,false,false,false] [5] rfl rfl rfl (by kernel_rfl) (by kernel_rfl) (by kernel_rfl) (by kernel_rfl) (by kernel_rfl) (by kernel_rfl) (by kernel_rfl) (by decide) (fun _ _ _ h=>h) ⟨Or.inl ⟨by rfl,fun W hS=>by have s0:=hS;go_simp⟩,fun _=>rfl⟩ HW.out ?_
      simp only [yq0,yq1,yq2]
      refine PI_takeT 3 22 (.int .i64 (C:Int)) #[true,true,true,true,false,false,false] [5,4] rfl rfl rfl (by kernel_rfl) (by kernel_rfl) (by kernel_rfl) (by kernel_rfl) (by kernel_rfl) (by kernel_rfl) (by kernel_rfl) (by decide) (fun _ _ _ h=>h) ⟨Or.inl ⟨by rfl,fun W hS=>by have s0:=hS;go_simp⟩,fun _=>rfl⟩ HW.out ?_
      simp only [yq0,yq1,yq2]
      refine PI_takeW 4 23 (.int .i64 (r:Int)) #[true,true,true,true,true,false,false] rfl rfl rfl (by kernel_rfl) (by kernel_rfl) (by kernel_rfl) (by kernel_rfl) (by decide) (fun _ _ _ h=>h) ⟨Or.inl ⟨by rfl,fun W hS=>by go_simp⟩,fun _=>rfl⟩ HW.out ?_
      simp only [yq0,yq1,yq2]
      refine PI_takeW 5 24 (.int .i64 ((C:Int) - (r:Int))) #[true,true,true,true,true,true,false] rfl rfl rfl (by kernel_rfl) (by kernel_rfl) (by kernel_rfl) (by kernel_rfl) (by decide) (fun _ _ _ h=>h) ⟨Or.inl ⟨by rfl,fun W hS=>by go_simp⟩,fun _=>rfl⟩ HW.out ?_
      simp only [yq0,yq1,yq2]
      refine PI_one 6 #[true,true,true,true,true,true,true] rfl (by kernel_rfl) (by kernel_rfl) rfl (by kernel_rfl) (fun K hK=>?_)
      refine operIn_w nofun ?_
      go_simp
      refine hK _ _ ?_
      clear hK K
      refine PI_done (by kernel_rfl) ?_ _
      refine noPanic_normal ?_
      obtain⟨fn,tmps,assign,body,hy,hRD⟩:=hY _ ((i:Int),((a*m:Nat):Int)) wr.drew (hJ.call HJs.out ((Below.refl _ wr).drew)) (HOK.out _ (by rw [← HS.out];exact hpk.symm))
      unfold encP at hy
      rw [show ((a*m:Nat):Int)=(a:Int)*(m:Int) by push_cast;rfl]at hy
      have HRD:=Lib.hid hRD
      have HPK:=Lib.hid hpk
      clear hRD hpk hd hd2
      gi_wp2_with fail
      refine HRD.out.mono ?_
      rintro e W7 (⟨rfl,hJ7,hk7⟩ | ⟨rfl,hJx7⟩)
      · gi_wp2
        go_roundw
        case rel=>exact⟨i+1,by omega,by go_num,by rw [HPT.out,HPK.out,HS.out];exact hJ7,HKP.out _ _ hk7 (HQs.out.1.drew) (HQs.out.2.drew),Nat.le_trans HZs.out (HKS.out wr.drew _ hk7)⟩
        case measure=>simp [intOf];omega
      · gi_wp2
        go_end0
        exact⟨⟨_,rfl⟩,.inr ⟨_,⟨i+1,by have:=HPL.out;omega,by rw [HPT.out,HPK.out,HS.out]⟩,hJx7⟩⟩
    · have HS:=Lib.hid (show shr C g m i=(((a+1)*m:Nat):Int) from HSH.out i |>.trans (by rw [if_neg hge]))
      have hd:decide ((C:Int) - (r:Int)≤(i:Int))=true:=by simp;omega
      have hd2:decide ((i:Int) ≥ (C:Int) - (r:Int))=true:=by simp;omega
      have hwm:IntKind.i64.wrap (((a:Int)+1)*(m:Int))=(((a+1)*m:Nat):Int):=by
       have hb:(a+1)*m≤65537*6:=Nat.mul_le_mul (by omega) (by omega)
       rw [show ((a:Int)+1)*(m:Int)=(((a+1)*m:Nat):Int) by push_cast;rfl,IntKind.wrap_i64]
       generalize (a+1)*m=P at *
       omega
      gi_wp2_with fail
      refine wpIn_nopanic ?_
      refine PI_start (fun W=>W.cell? ⟨KB,0,none⟩=some (.int .i64 C)) 6 7 #[false,false,false,false,false,false,false] (by kernel_rfl) (by kernel_rfl) (by kernel_rfl) ?_
      refine PI_takeW 0 19 (.int .i64 (i:Int)) #[true,false,false,false,false,false,false] rfl rfl rfl (by kernel_rfl) (by kernel_rfl) (by kernel_rfl) (by kernel_rfl) (by decide) (fun _ _ _ h=>h) ⟨Or.inl ⟨by rfl,fun W hS=>by go_simp⟩,fun _=>rfl⟩ HW.out ?_
      simp only [yq0,yq1,yq2]
      refine PI_takeW 2 21 (.int .i64 (g:Int)) #[true,false,true,false,false,false,false] rfl rfl rfl (by kernel_rfl) (by kernel_rfl) (by kernel_rfl) (by kernel_rfl) (by decide) (fun _ _ _ h=>h) ⟨Or.inl ⟨by rfl,fun W hS=>by go_simp⟩,fun _=>rfl⟩ HW.out ?_
      simp only [yq0,yq1,yq2]
      refine PI_takeT 1 20 (.int .i64 (C:Int)) #[true,true,true,false,false,false,false] [5] rfl rfl rfl (by kernel_rfl) (by kernel_rfl) (by kernel_rfl) (by kernel_rfl) (by kernel_rfl) (by kernel_rfl) (by kernel_rfl) (by decide) (fun _ _ _ h=>h) ⟨Or.inl ⟨by rfl,fun W hS=>by have s0:=hS;go_simp⟩,fun _=>rfl⟩ HW.out ?_
      simp only [yq0,yq1,yq2]
      refine PI_takeT 3 22 (.int .i64 (C:Int)) #[true,true,true,true,false,false,false] [5,4] rfl rfl rfl (by kernel_rfl) (by kernel_rfl) (by kernel_rfl) (by kernel_rfl) (by kernel_rfl) (by kernel_rfl) (by kernel_rfl) (by decide) (fun _ _ _ h=>h) ⟨Or.inl ⟨by rfl,fun W hS=>by have s0:=hS;go_simp⟩,fun _=>rfl⟩ HW.out ?_
      simp only [yq0,yq1,yq2]
      refine PI_takeW 4 23 (.int .i64 (r:Int)) #[true,true,true,true,true,false,false] rfl rfl rfl (by kernel_rfl) (by kernel_rfl) (by kernel_rfl) (by kernel_rfl) (by decide) (fun _ _ _ h=>h) ⟨Or.inl ⟨by rfl,fun W hS=>by go_simp⟩,fun _=>rfl⟩ HW.out ?_
      simp only [yq0,yq1,yq2]
      refine PI_takeW 5 24 (.int .i64 ((C:Int) - (r:Int))) #[true,true,true,true,true,true,false] rfl rfl rfl (by kernel_rfl) (by kernel_rfl) (by kernel_rfl) (by kernel_rfl) (by decide) (fun _ _ _ h=>h) ⟨Or.inl ⟨by rfl,fun W hS=>by go_simp⟩,fun _=>rfl⟩ HW.out ?_
      simp only [yq0,yq1,yq2]
      refine PI_one 6 #[true,true,true,true,true,true,true] rfl (by kernel_rfl) (by kernel_rfl) rfl (by kernel_rfl) (fun K hK=>?_)
      refine operIn_w nofun ?_
      go_simp
      refine hK _ _ ?_
      clear hK K
      refine PI_done (by kernel_rfl) ?_ _
      refine noPanic_normal ?_
      obtain⟨fn,tmps,assign,body,hy,hRD⟩:=hY _ ((i:Int),(((a+1)*m:Nat):Int)) wr.drew (hJ.call HJs.out ((Below.refl _ wr).drew)) (HOK.out _ (by rw [← HS.out];exact hpk.symm))
      unfold encP at hy
      rw [show (((a+1)*m:Nat):Int)=((a:Int)+1)*(m:Int) by push_cast;rfl]at hy
      have HRD:=Lib.hid hRD
      have HPK:=Lib.hid hpk
      clear hRD hpk hd hd2
      gi_wp2_with fail
      refine HRD.out.mono ?_
      rintro e W7 (⟨rfl,hJ7,hk7⟩ | ⟨rfl,hJx7⟩)
      · gi_wp2
        go_roundw
        case rel=>exact⟨i+1,by omega,by go_num,by rw [HPT.out,HPK.out,HS.out];exact hJ7,HKP.out _ _ hk7 (HQs.out.1.drew) (HQs.out.2.drew),Nat.le_trans HZs.out (HKS.out wr.drew _ hk7)⟩
        case measure=>simp [intOf];omega
      · gi_wp2
        go_end0
        exact⟨⟨_,rfl⟩,.inr ⟨_,⟨i+1,by have:=HPL.out;omega,by rw [HPT.out,HPK.out,HS.out]⟩,hJx7⟩⟩
  · obtain rfl:i=C:=by omega
    gi_wp2
    go_end0
    exact⟨⟨_,rfl⟩,.inl ⟨_,List.take_of_length_le (Nat.le_of_eq HPL.out),HJs.out⟩⟩
theorem listRn_of{P:Program}{Q:Exit→Act→World→Prop}{n l:Nat}{ops:Array Oper}{rest:List Oper}{o:Oper}{a:Act}{w:World}(hgd:o.guard=none)(hd:∀ c,o.op≠.defer c)(hL:¬ LetsOut Q)(h:∀ K:Act→World→Prop,(∀ a w,wpListIn (Fence.wide.inRound l) n P ops Q rest a w→K a w)→o.wp P a w K Q):wpListIn (Fence.wide.inRound l) n P ops Q (o :: rest) a w :=
 wpListIn_plain hgd fun K hK=>operIn_of hd hL (h K hK)
theorem shf_any(sz bt md lm rv:Int)(C:Nat)(w:World):Calls Tryz.prog 55 #[.agg #[.int .i64 sz,.int .i64 bt,.int .i64 md,.int .i64 lm,.int .i64 rv],.int .i64 C] w fun e w'=>e= .returned (.func (.func 95) #[] #[.pointer (some ⟨w.heap.size,0,none⟩),.pointer (some ⟨w.heap.size+1,0,none⟩)])∧Blk w' w.heap.size 36 [.int .i64 sz,.int .i64 bt,.int .i64 md,.int .i64 lm,.int .i64 rv]∧Blk w' (w.heap.size+1) 3 [.int .i64 C]∧Below w.heap.size w w':=by
 have hmf:∀ (fn:Fn) (first cap:Array Value) (w:World),(Instr.makeFunc fn first cap).run Tryz.prog w= .ok (.func fn first cap) w:=fun _ _ _ _=>rfl
 go_enter Tryz.func55,Tryz.ntmps55
 go_wp2
 go_ret
 exact⟨rfl,(Blk.new w [.int .i64 sz,.int .i64 bt,.int .i64 md,.int .i64 lm,.int .i64 rv] 36 rfl).alloc _,Blk.new (w.alloc _) [.int .i64 C] 3 (by simp),((Below.refl _ w).alloc (Nat.le_refl _) _).alloc (by simp) _⟩
def KpN(B OB:Nat)(W W':World):Prop:=W.heap.size≤W'.heap.size∧∀ k,k<B→k≠OB→W'.heap[k]?=W.heap[k]?
theorem KpN.trans{B OB:Nat}{X Y Z:World}(h:KpN B OB X Y)(k:KpN B OB Y Z):KpN B OB X Z:=⟨Nat.le_trans h.1 k.1,fun i hi hn=>(k.2 i hi hn).trans (h.2 i hi hn)⟩
theorem KpN.put{B OB:Nat}{W:World}{l:Nat}(o:Obj)(hl:B≤l):KpN B OB W (W.putObj l o):=⟨(grownBy_putObj' W l o).size,fun k hk _=>World.putObj_heap_other (by omega)⟩
theorem KpN.blk{B OB:Nat}{W W':World}{b:Nat}{t:TypeId}{cs:List Value}(h:KpN B OB W W')(hb:b<B)(hn:b≠OB)(hB:Blk W b t cs):Blk W' b t cs:=(h.2 b hb hn).trans hB
theorem KpN.grown{B OB:Nat}{W W':World}{row:Option Nat}(hg:W.grownBy W' row)(hr:∀ r,row=some r→r=OB∨B≤r)(hB:B≤W.heap.size):KpN B OB W W' :=
 ⟨hg.size,fun k hk hn=>hg.block k (Nat.lt_of_lt_of_le hk hB) (fun e=>by rcases hr k e.symm with h | h<;>omega)⟩
structure ShK (w:World) (B C g m OB:Nat) (n:Nat) (W:World):Prop where
 o:∃ A c,Blk W OB 39 [.slice A n c]∧Own .i64 3 W B A n c (shT C g m n)
 bl:Below w.heap.size w W
 hs:B≤W.heap.size
theorem ShK.clB{w:World}{B C g m OB:Nat}:ClB (fun(pre:List (Int × Int)) W=>ShK w B C g m OB pre.length W):=fun pre W W' h hb=>by
 obtain⟨A,c,h1,h2⟩:=h.o
 exact⟨⟨A,c,h1.below hb,Ownv.below h2 hb⟩,h.bl.trans (hb.mono h.bl.size),Nat.le_trans h.hs hb.size⟩
theorem Ownv.put{e:TypeId}{w:World}{base:Nat}{A:Option Addr}{n c:Nat}{vs:List Value}(h:Ownv e w base A n c vs){l:Nat}{o:Obj}(o':Obj)(hl:w.heap[l]?=some o)(ho:o.isCells=false):Ownv e (w.putObj l o') base A n c vs:=by
 refine h.grown (grownBy_putObj' w l o') (fun hA he=>?_)
 obtain⟨-,h2⟩:=h.cases
 rcases h2 with⟨rfl,-⟩ | ⟨g,cur,rfl,-,hh,-⟩
 · exact hA rfl
 · have e1:g=l:=Option.some.inj he
   subst e1
   rw [hh]at hl
   cases hl
   cases ho
theorem Blk.put{W:World}{b:Nat}{t:TypeId}{cs:List Value}(h:Blk W b t cs){l:Nat}{o:Obj}(o':Obj)(hl:W.heap[l]?=some o)(ho:o.isCells=false):Blk (W.putObj l o') b t cs:=by
 refine h.grown (grownBy_putObj' W l o') (fun he=>?_)
 have e1:b=l:=Option.some.inj he
 subst e1
 have h':W.heap[b]?=some (.cells cs.toArray t (0,0)):=h
 rw [h']at hl
 cases hl
 cases ho
theorem ShK.clP{w:World}{C g m OB B B':Nat}(hB:w.heap.size≤B'):ClP B' (fun(pre:List (Int × Int)) W=>ShK w B C g m OB pre.length W):=fun pre W l o o' h hl hk ho=>by
 obtain⟨A,c,h1,h2⟩:=h.o
 have hg:=grownBy_putObj' W l o'
 exact⟨⟨A,c,h1.put o' hk ho,Ownv.put h2 o' hk ho⟩,h.bl.grown hg h.bl.size (fun k e=>by cases e;omega),Nat.le_trans h.hs hg.size⟩
theorem row_cells{e:TypeId}{w:World}{base:Nat}{A:Option Addr}{n c:Nat}{vs:List Value}(h:Ownv e w base A n c vs):∀ (j:Nat) (o:Obj),(Value.slice A n c).ownBlock=some j→w.heap[j]?=some o→o.isCells=true:=by
 intro j o hj ho
 obtain⟨-,h2⟩:=h.cases
 rcases h2 with⟨rfl,-⟩ | ⟨g,cur,rfl,-,hh,-⟩
 · cases hj
 · have e1:g=j:=by simpa [Value.ownBlock] using hj
   subst e1
   rw [hh]at ho
   cases ho
   rfl
theorem ShK.next{w W W2:World}{B C g m OB n:Nat}{A A2:Option Addr}{c c2:Nat}{u:Int}(hbl:Below w.heap.size w W)(hs:B≤W.heap.size)(hw:w.heap.size≤B)(hwO:w.heap.size≤OB)(hx:Blk W OB 39 [.slice A n c])(hO:Own .i64 3 W B A n c (shT C g m n))(hu:shr C g m n=u)
 (hO2:Ownv 3 W2 B A2 (n+1) c2 ((shT C g m n).map (Value.int .i64) ++ [.int .i64 u])) (hg:W.grownBy W2 ((Value.slice A n c).ownBlock)) :
 KeepsOthers W (W2.setCell ⟨OB,0,none⟩ (.slice A2 (n+1) c2))∧KpN B OB W (W2.setCell ⟨OB,0,none⟩ (.slice A2 (n+1) c2))∧ShK w B C g m OB (n+1) (W2.setCell ⟨OB,0,none⟩ (.slice A2 (n+1) c2)):=by
 have hob:∀ k,(Value.slice A n c).ownBlock=some k→B≤k:=fun k hk=>Ownv.ob' hO hk
 have hx2:Blk W2 OB 39 [.slice A n c]:=hx.grown hg (blk_ne_row hx hO (by decide))
 have hg2:=grownBy_set W2 OB 0 (.slice A2 (n+1) c2)
 have hO2':Own .i64 3 W2 B A2 (n+1) c2 (shT C g m (n+1)):=by
  rw [shT_succ,hu];unfold Own;simpa using hO2
 refine⟨KeepsOthers.trans (KeepsOthers.of_grownBy hg (fun j o hj=>row_cells hO j o hj)) (KeepsOthers.setCell _ _ _),?_,⟨⟨A2,c2,hx2.set 0 _,own_set_blk hx2 hO2' (by decide) 0 _⟩,?_,?_⟩⟩
 · exact KpN.trans (KpN.grown hg (fun r hr=>.inr (hob r hr)) hs) (KpN.grown hg2 (fun r hr=>.inl (Option.some.inj hr).symm) (Nat.le_trans hs hg.size))
 · exact(hbl.grown hg hbl.size (fun k hk=>Nat.le_trans hw (hob k hk))).grown hg2 (Nat.le_trans hbl.size hg.size) (fun k hk=>by cases hk;exact hwO)
 · exact Nat.le_trans hs (Nat.le_trans hg.size hg2.size)
theorem shs_seq(C g m CB KB OB:Nat)(sz lm rv:Int)(hC1:1≤C)(hC:C≤13)(hm1:1≤m)(hm:m≤6)(hg:g≤65536)(w:World)
 (hCB:Blk w CB 36 [.int .i64 sz,.int .i64 ((m*g:Nat):Int),.int .i64 m,.int .i64 lm,.int .i64 rv]) (hKB:Blk w KB 3 [.int .i64 C]) (h1:CB≠OB) (h2:KB≠OB) :
 SeqE 2 95 #[.pointer (some ⟨CB,0,none⟩),.pointer (some ⟨KB,0,none⟩)] encP (KpN w.heap.size OB) (fun ys=>ys=psS C g m) (fun pre=>∃ k,k≤(psS C g m).length∧pre=(psS C g m).take k) (OkP (psS C g m)) w :=
 fun l J Jx W hB hJ hJx hY h0=>shs_in l C g m CB KB sz lm rv hC1 hC hm1 hm hg (KpN w.heap.size OB) W (hCB.below hB) (hKB.below hB) (fun A B hk hc hk'=>⟨hk.blk hCB.lt h1 hc,hk.blk hKB.lt h2 hk'⟩) (fun A B hk=>hk.1) J Jx hJ hJx hY h0
theorem ly15_len(sz:Int):(ly15 sz).1.length=7:=by unfold ly15;split<;>rfl
theorem ly15_err(sz:Int):(ly15 sz).2=0∨(ly15 sz).2=2:=by unfold ly15;split<;>simp
theorem shares_bad(sz bt md lm rv:Int)(w:World)(hV:VC sz bt md lm rv=false):Calls Tryz.prog 28 #[.agg #[.int .i64 sz,.int .i64 bt,.int .i64 md,.int .i64 lm,.int .i64 rv]] w fun e w'=>e= .returned (.tuple #[.slice none 0 0,.int .i64 2])∧Below w.heap.size w w':=by
 have HV:=Lib.hid (fun W=>valc_any sz bt md lm rv W)
 rw [hV]at HV
 have HLY:=Lib.hid (fun W=>lay_any sz W)
 have hl7:=ly15_len sz
 have her:=ly15_err sz
 clear hV
 generalize (ly15 sz).1=ly at *
 generalize (ly15 sz).2=er at *
 have HC0:=Lib.hid (Blk.new w [.int .i64 sz,.int .i64 bt,.int .i64 md,.int .i64 lm,.int .i64 rv] 36 rfl)
 have HB0:=Lib.hid (bal (Below.refl _ w) (.cells [Value.int .i64 sz,.int .i64 bt,.int .i64 md,.int .i64 lm,.int .i64 rv].toArray 36))
 have c0:=HC0.out.cell (j:=0) (v:=.int .i64 sz) rfl
 refine(callsIn_wide (n:=3)).1 ?_
 refine callsIn_of_wp_marks Tryz.func28 rfl trivial ?_
 simp only [Tryz.ntmps28,List.size_toArray,List.length_cons,List.length_nil,Nat.reduceAdd,Nat.reduceSub,Array.replicate_succ,Array.replicate_zero,List.push_toArray,List.append_toArray,List.nil_append,List.cons_append]
 refine wpIn_wide.2 ?_
 go_wp2_with fail
 refine(HLY.out _).mono ?_
 rintro e w1 ⟨rfl,hB1⟩
 have hC1:=HC0.out.below hB1
 have HC1:Hid (w.heap.size<w1.heap.size):=Lib.hid hC1.lt
 have HB1:=Lib.hid (HB0.out.trans (hB1.mono HB0.out.size))
 have hL0:Blk (w1.alloc (.cells (ints8 zero7).toArray 31)) w1.heap.size 31 (ints8 zero7):=Blk.new w1 _ 31 rfl
 have hC2:=hC1.alloc (.cells (ints8 zero7).toArray 31)
 simp only [ints8,zero7,List.map_cons,List.map_nil]at hL0 hC2
 clear hB1 hC1
 rcases her with rfl | rfl
 · go_wp2_with (first
   | (refine strow (cs:=ints8 ly) rfl 31 (.tmp 4) (.tmp 13) rfl rfl rfl hL0 (by simp [ints8,hl7]) (by rw [info23];simp [ints8,hl7]) (ints8_one ly) ?_
      intro W2 g1 g2
      have hC3:=hC2.grown g2 (fun e=>by have h7:=HC1.out;have h8:=Option.some.inj e;omega)
      have hq:=(Below.refl w1.heap.size w1).alloc (Nat.le_refl _) (.cells #[.int .i64 0,.int .i64 0,.int .i64 0,.int .i64 0,.int .i64 0,.int .i64 0,.int .i64 0] 31)
      have HB2:=Lib.hid (hq.grown g2 hq.size (fun k hk=>by cases hk;exact Nat.le_refl _)))
   | (refine list_ofg (by rfl) fun K hK=>wp_ldrow (cs:=[.int .i64 sz,.int .i64 bt,.int .i64 md,.int .i64 lm,.int .i64 rv]) 36 (.tmp 1) rfl rfl hC3 _ Tryz.underlying36 rfl (by kernel_rfl) ?_;refine hK _ _ ?_;clear hK K)
   | (go_at_call 54;refine(HV.out _).mono ?_;rintro e w3 ⟨rfl,hB3⟩))
   have HB4:=Lib.hid ((HB1.out.trans (HB2.out.mono HB1.out.size)).trans (hB3.mono (HB1.out.trans (HB2.out.mono HB1.out.size)).size))
   clear hB3
   exact⟨_,results_tmp2 rfl _ _ _,rfl,HB4.out⟩
 · go_wp2_with (first
   | (refine strow (cs:=ints8 ly) rfl 31 (.tmp 4) (.tmp 13) rfl rfl rfl hL0 (by simp [ints8,hl7]) (by rw [info23];simp [ints8,hl7]) (ints8_one ly) ?_
      intro W2 g1 g2
      have hq:=(Below.refl w1.heap.size w1).alloc (Nat.le_refl _) (.cells #[.int .i64 0,.int .i64 0,.int .i64 0,.int .i64 0,.int .i64 0,.int .i64 0,.int .i64 0] 31)
      have HB2:=Lib.hid (hq.grown g2 hq.size (fun k hk=>by cases hk;exact Nat.le_refl _))))
   have HB4:=Lib.hid (HB1.out.trans (HB2.out.mono HB1.out.size))
   exact⟨_,results_tmp2 rfl _ _ _,rfl,HB4.out⟩
theorem shares_ok(s C g m:Nat)(lm rv:Int)(w:World)(hs1:1≤s)(hs2:s≤79536)(hCe:C=bC (s+24))(hmm:m=2∨m=4∨m=6)(hgm:m*g≤131072)(hlm:1≤lm)(hrv:0≤rv∧rv≤3) :
 Calls Tryz.prog 28 #[.agg #[.int .i64 s,.int .i64 ((m*g:Nat):Int),.int .i64 m,.int .i64 lm,.int .i64 rv]] w fun e w'=>∃ A c,e= .returned (.tuple #[.slice A C c,.int .i64 0])∧Own .i64 3 w' w.heap.size A C c (shT C g m C)∧Below w.heap.size w w':=by
 have hg:g≤65536:=by rcases hmm with rfl | rfl | rfl<;>omega
 have hm1:1≤m∧m≤6:=by omega
 have hC1:1≤C:=by rw [hCe];exact bC_pos
 have hC2:C≤13:=by rw [hCe];exact bC_le (by omega)
 have hV:VC s ((m*g:Nat):Int) m lm rv=true:=by
  unfold VC
  rw [decide_eq_true_iff]
  refine⟨by omega,by omega,by omega,by omega,by omega,?_,hlm,hrv.1,hrv.2⟩
  rw [Int.natCast_mul];exact Int.mul_emod_right _ _
 have HV:=Lib.hid (fun W=>valc_any s ((m*g:Nat):Int) m lm rv W)
 rw [hV]at HV
 have HLY:=Lib.hid (fun W=>lay_any s W)
 have hly:ly15 s=(LY (s+24),0):=by unfold ly15;rw [if_neg (by omega)];rfl
 rw [hly]at HLY
 obtain⟨ly,hly⟩:∃ ly,ly=LY (s+24):=⟨_,rfl⟩
 have hl7:ly.length=7:=by rw [hly];rfl
 have hl1:(ints8 ly)[1]?=some (.int .i64 C):=by rw [hly,hCe];rfl
 have HSQ:=Lib.hid (fun CB KB OB W=>shs_seq C g m CB KB OB s lm rv hC1 hC2 hm1.1 hm1.2 hg W)
 have HPL:=Lib.hid (psS_len C g m)
 have HPG:=Lib.hid (psS_get C g m)
 have HSF:=Lib.hid (fun W=>shf_any s ((m*g:Nat):Int) m lm rv C W)
 rw [← hly]at HLY
 obtain⟨bt,hbt⟩:∃ bt,bt=((m*g:Nat):Int):=⟨_,rfl⟩
 rw [← hbt]at HV HSF HSQ ⊢
 clear hly hbt hV hCe
 have HC0:=Lib.hid (Blk.new w [.int .i64 s,.int .i64 bt,.int .i64 m,.int .i64 lm,.int .i64 rv] 36 rfl)
 have HB0:=Lib.hid (bal (Below.refl _ w) (.cells [Value.int .i64 s,.int .i64 bt,.int .i64 m,.int .i64 lm,.int .i64 rv].toArray 36))
 have c0:=HC0.out.cell (j:=0) (v:=.int .i64 s) rfl
 refine(callsIn_wide (n:=3)).1 ?_
 refine callsIn_of_wp_marks Tryz.func28 rfl trivial ?_
 simp only [Tryz.ntmps28,List.size_toArray,List.length_cons,List.length_nil,Nat.reduceAdd,Nat.reduceSub,Array.replicate_succ,Array.replicate_zero,List.push_toArray,List.append_toArray,List.nil_append,List.cons_append]
 refine wpIn_wide.2 ?_
 go_wp2_with fail
 refine(HLY.out _).mono ?_
 rintro e w1 ⟨rfl,hB1⟩
 have hC1':=HC0.out.below hB1
 have HC1:Hid (w.heap.size<w1.heap.size):=Lib.hid hC1'.lt
 have HB1:=Lib.hid (HB0.out.trans (hB1.mono HB0.out.size))
 have hL0:Blk (w1.alloc (.cells (ints8 zero7).toArray 31)) w1.heap.size 31 (ints8 zero7):=Blk.new w1 _ 31 rfl
 have hC2':=hC1'.alloc (.cells (ints8 zero7).toArray 31)
 simp only [ints8,zero7,List.map_cons,List.map_nil]at hL0 hC2'
 clear hB1 hC1' c0
 go_wp2_with (first
  | (refine strow (cs:=ints8 ly) rfl 31 (.tmp 4) (.tmp 13) rfl rfl rfl hL0 (by simp [ints8,hl7]) (by rw [info23];simp [ints8,hl7]) (ints8_one ly) ?_
     intro W2 g1 g2
     have hC3:=hC2'.grown g2 (fun e=>by have h7:=HC1.out;have h8:=Option.some.inj e;omega)
     have hq:=(Below.refl w1.heap.size w1).alloc (Nat.le_refl _) (.cells #[.int .i64 0,.int .i64 0,.int .i64 0,.int .i64 0,.int .i64 0,.int .i64 0,.int .i64 0] 31)
     have HB2:=Lib.hid (hq.grown g2 hq.size (fun k hk=>by cases hk;exact Nat.le_refl _))
     have HL2:=Lib.hid g1)
  | (refine list_ofg (by rfl) fun K hK=>wp_ldrow (cs:=[.int .i64 s,.int .i64 bt,.int .i64 m,.int .i64 lm,.int .i64 rv]) 36 (.tmp 1) rfl rfl hC3 _ Tryz.underlying36 rfl (by kernel_rfl) ?_;refine hK _ _ ?_;clear hK K)
  | (go_at_call 54;refine(HV.out _).mono ?_;rintro e w3 ⟨rfl,hB3⟩;have hC5:=(hC3.below hB3).alloc (.cells #[.slice none 0 0] 39);have hL5:=(HL2.out.below hB3).alloc (.cells #[.slice none 0 0] 39);have c1:=hL5.cell (j:=1) hl1)
  | (refine ldrow (cs:=[.int .i64 s,.int .i64 bt,.int .i64 m,.int .i64 lm,.int .i64 rv]) rfl 36 (.tmp 1) rfl rfl hC5 _ Tryz.underlying36 rfl (by kernel_rfl) ?_))
 obtain⟨w4,hw4⟩:∃ W,W=w3.alloc (.cells #[.slice none 0 0] 39):=⟨_,rfl⟩
 have HX4:Hid (Blk w4 w3.heap.size 39 [.slice none 0 0]):=Lib.hid (by rw [hw4];exact Blk.new w3 _ 39 rfl)
 have HB4:Hid (Below w.heap.size w w4):=Lib.hid (by
  rw [hw4]
  have b1:=HB1.out.trans (HB2.out.mono HB1.out.size)
  exact bal (b1.trans (hB3.mono b1.size)) _)
 have HWO:Hid (w.heap.size≤w3.heap.size):=Lib.hid (by
  have b1:=HB1.out.trans (HB2.out.mono HB1.out.size)
  exact Nat.le_trans b1.size hB3.size)
 rw [← hw4]
 clear hw4 hC2' hC3 hC5 hL5 c1 hL0 hB3 HL2 HB2 HB1
 generalize w3.heap.size=OB at *
 refine(HSF.out w4).mono ?_
 rintro e w5 ⟨rfl,hcb,hkb,hB5⟩
 have hOl:=HX4.out.lt
 have HSEQ:=Lib.hid (HSQ.out w4.heap.size (w4.heap.size+1) OB w5 hcb hkb (by omega) (by omega))
 have HK:Hid (ShK w w5.heap.size C g m OB 0 w5):=Lib.hid ⟨⟨none,0,HX4.out.below hB5,Own.nilv _ _ _ _⟩,HB4.out.trans (hB5.mono HB4.out.size),Nat.le_refl _⟩
 have HW5:Hid (w.heap.size≤w5.heap.size):=Lib.hid (Nat.le_trans HB4.out.size hB5.size)
 have hw5:=HW5.out
 clear hcb hkb hB5 HX4 HSQ HSF HLY HV HC0 HB0 HC1 HB4
 go_wp2_with fail
 refine(wpIn_wide (n:=3)).1 ?_
 refine' rangeE (w0:=w5) (gf:=95) (lb:=#[.pointer (some ⟨w4.heap.size,0,none⟩),.pointer (some ⟨w4.heap.size+1,0,none⟩)]) rfl (enters_of Tryz.func95 (by kernel_rfl) rfl) HSEQ.out KpN.trans (fun W l o o' hl h1 h2=>KpN.put o' hl) (Below.refl _ _) (fun _=>rfl)
  (fun pre W=>ShK w w5.heap.size C g m OB pre.length W) (fun _ _ _=>False) ShK.clB (fun _ _ _ _ h _=>h) (ShK.clP (by omega)) (fun _ _ _ _ _ _ h _ _ _=>h) HK.out _ ?assign ?body ?done ?stop
 case assign =>
  intro l x W K hK
  unfold encP
  gi_wp2
  exact hK
 case body =>
  rintro l pre x W hI ⟨hlt,rfl⟩
  rw [HPG.out]
  rw [HPL.out]at hlt
  obtain⟨A,c,hx,hO⟩:=hI.o
  have HI:=Lib.hid hI
  have HX:=Lib.hid hx
  have HO:=Lib.hid hO
  have cO:=hx.cell (j:=0) (v:=.slice A pre.length c) rfl
  have hne:=blk_ne_row hx hO (by decide)
  have hsz:w5.heap.size≤W.heap.size:=hI.hs
  have hlen:∀ x:Int × Int,(pre ++ [x]).length=pre.length+1:=fun x=>by simp
  obtain⟨u,hu⟩:∃ u,shr C g m pre.length=u:=⟨_,rfl⟩
  rw [hu]
  have HU:=Lib.hid hu
  clear hI hu hx hO
  gi_wp2_with (refine listRn_of rfl nofun (fun⟨_,_,h⟩=>h) fun K hK=>wp_app1 (w:=W) (base:=w5.heap.size) _ _ 39 rfl el34 rfl (.int .i64 u) rfl rfl HO.out (by omega) (by omega) hsz ?_;intro A2 c2 W2 hO2 hg2;have HO2:=Lib.hid hO2;have HG2:=Lib.hid hg2;have hx2:=HX.out.grown hg2 hne;have c2':=hx2.cell (j:=0) (v:=.slice A pre.length c) rfl;have f2':=hx2.frozen 0;clear hO2 hg2;refine hK _ _ ?_;clear hK K)
  have HN:=Lib.hid (ShK.next HI.out.bl HI.out.hs (by omega) HWO.out HX.out HO.out HU.out HO2.out HG2.out)
  exact⟨HN.out.1,HN.out.2.1,by show ShK _ _ _ _ _ _ (pre ++ [_]).length _;rw [hlen];exact HN.out.2.2⟩
 case done =>
  rintro D ys W hD rfl hI hK
  rw [HPL.out]at hI
  obtain⟨A,c,hx,hO⟩:=hI.o
  have cO:=hx.cell (j:=0) (v:=.slice A C c) rfl
  have HO9:=Lib.hid (Ownv.mono (Ownv.put hO (.deferred none) hK rfl) (show w.heap.size≤w5.heap.size by omega))
  have HB9:=Lib.hid (hI.bl.grown (grownBy_putObj' W D (.deferred none)) hI.bl.size (fun k e=>by cases e;omega))
  clear hO hx
  go_wp2
  refine⟨by simp,.inl ⟨_,_,rfl,run_takeDeferred hK,?_⟩⟩
  exact⟨_,results_tmp2 rfl _ _ _,A,c,rfl,HO9.out,HB9.out⟩
 case stop =>
  rintro D c pre W hD _ hx hK
  exact hx.elim
end Go.Proofs.YtkdfefpnhaebfaaGreat.Cr
