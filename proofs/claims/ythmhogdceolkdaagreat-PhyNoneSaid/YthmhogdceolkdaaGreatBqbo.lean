/- Bundle. Conditions: none. -/
import Derived.Test.YthmhogdceolkdaaGreatBqbn
import Derived.Test.YthmhogdceolkdaaGreatBqan
set_option linter.unusedVariables false
set_option linter.unusedSimpArgs false
namespace Go.Proofs.YthmhogdceolkdaaGreat.Cr
open Tryz
open Go.RowKit
attribute [local go_sem] Oper.semAt_some
set_option maxRecDepth 100000
theorem pmust_ok(e:Int)(w:World):Calls prog 43 #[.bool true,.int .i64 e] w fun en w'=>en= .returned (.tuple #[])/\w'=w:=by
 go_enter func43,ntmps43;go_wp2;go_end0;exact⟨rfl,rfl⟩
theorem pmust_bad(e:Int)(w:World):Calls prog 43 #[.bool false,.int .i64 e] w fun en w'=>en= .panicked (pan e)/\w'=w:=by
 go_enter func43,ntmps43;go_wp2;simp [bodyPost,pan]
theorem pin_any(n a b:Int)(w:World):Calls prog 50 #[.int .i64 n,.int .i64 a,.int .i64 b] w fun e w'=>e= .returned (.bool (decide (a<=n) && decide (n<=b)))/\w'=w:=by
 by_cases h:a<=n
 . rw [decide_eq_true h,Bool.true_and]
   go_enter func50,ntmps50;go_wp2;go_ret;exact⟨rfl,rfl⟩
 . rw [decide_eq_false h,Bool.false_and]
   go_enter func50,ntmps50;go_wp2;go_ret;exact⟨rfl,rfl⟩
theorem gotI_ok{A:Option Addr}{n c:Nat}(w:World):Calls prog 44 #[.slice A n c,.int .i64 0] w fun e w'=>e= .returned (.slice A n c)/\w'=w:=by
 go_enter func44,ntmps44;go_wp2_with fail;refine(pmust_ok 0 _).mono ?_;rintro e w1 ⟨rfl,rfl⟩;dsimp only;go_wp2;go_ret;exact⟨rfl,rfl⟩
theorem gotN_ok{x:Int}(w:World):Calls prog 49 #[.int .i64 x,.int .i64 0] w fun e w'=>e= .returned (.int .i64 x)/\w'=w:=by
 go_enter func49,ntmps49;go_wp2_with fail;refine(pmust_ok 0 _).mono ?_;rintro e w1 ⟨rfl,rfl⟩;dsimp only;go_wp2;go_ret;exact⟨rfl,rfl⟩
theorem gotS_ok{A:Option Addr}{n c:Nat}(w:World):Calls prog 60 #[.slice A n c,.int .i64 0] w fun e w'=>e= .returned (.slice A n c)/\w'=w:=by
 go_enter func60,ntmps60;go_wp2_with fail;refine(pmust_ok 0 _).mono ?_;rintro e w1 ⟨rfl,rfl⟩;dsimp only;go_wp2;go_ret;exact⟨rfl,rfl⟩
theorem gotP_ok{A:Option Addr}{n c:Nat}(w:World):Calls prog 77 #[.slice A n c,.int .i64 0] w fun e w'=>e= .returned (.slice A n c)/\w'=w:=by
 go_enter func77,ntmps77;go_wp2_with fail;refine(pmust_ok 0 _).mono ?_;rintro e w1 ⟨rfl,rfl⟩;dsimp only;go_wp2;go_ret;exact⟨rfl,rfl⟩
theorem gotD_ok{a:Option Addr}(w:World):Calls prog 118 #[.pointer a,.int .i64 0] w fun e w'=>e= .returned (.pointer a)/\w'=w:=by
 go_enter func118,ntmps118;go_wp2_with fail;refine(pmust_ok 0 _).mono ?_;rintro e w1 ⟨rfl,rfl⟩;dsimp only;go_wp2;go_ret;exact⟨rfl,rfl⟩
theorem gotU_ok{x:Int}(w:World):Calls prog 141 #[.int .u32 x,.int .i64 0] w fun e w'=>e= .returned (.int .u32 x)/\w'=w:=by
 go_enter func141,ntmps141;go_wp2_with fail;refine(pmust_ok 0 _).mono ?_;rintro e w1 ⟨rfl,rfl⟩;dsimp only;go_wp2;go_ret;exact⟨rfl,rfl⟩
theorem gotB_ok{A:Option Addr}{n c:Nat}(w:World):Calls prog 147 #[.slice A n c,.int .i64 0] w fun e w'=>e= .returned (.slice A n c)/\w'=w:=by
 go_enter func147,ntmps147;go_wp2_with fail;refine(pmust_ok 0 _).mono ?_;rintro e w1 ⟨rfl,rfl⟩;dsimp only;go_wp2;go_ret;exact⟨rfl,rfl⟩
theorem gotI_bad{A:Option Addr}{n c:Nat}(k:Int)(hk:k≠0)(w:World):Calls prog 44 #[.slice A n c,.int .i64 k] w fun e w'=>e= .panicked (pan k)/\w'=w:=by
 have hk0:(k == 0)=false:=beq_f hk;go_enter func44,ntmps44;go_wp2_with fail;refine(pmust_bad k _).mono ?_;rintro e w1 ⟨rfl,rfl⟩;simp only [bodyPost];exact⟨rfl,rfl,rfl⟩
theorem gotN_bad{x:Int}(k:Int)(hk:k≠0)(w:World):Calls prog 49 #[.int .i64 x,.int .i64 k] w fun e w'=>e= .panicked (pan k)/\w'=w:=by
 have hk0:(k == 0)=false:=beq_f hk;go_enter func49,ntmps49;go_wp2_with fail;refine(pmust_bad k _).mono ?_;rintro e w1 ⟨rfl,rfl⟩;simp only [bodyPost];exact⟨rfl,rfl,rfl⟩
theorem infoT:(prog.info? 36).map (·.size)=some 5:=by kernel_rfl
theorem gotT_ok(x0 x1 x2 x3 x4:Int)(w:World):Calls prog 59 #[.agg #[.int .i64 x0,.int .i64 x1,.int .i64 x2,.int .i64 x3,.int .i64 x4],.int .i64 0] w fun e w'=>e= .returned (.agg #[.int .i64 x0,.int .i64 x1,.int .i64 x2,.int .i64 x3,.int .i64 x4])/\Below w.heap.size w w':=by
 have HC:Hid (Blk ((w.alloc (.cells #[.int .i64 x0,.int .i64 x1,.int .i64 x2,.int .i64 x3,.int .i64 x4] 36)).alloc (.cells #[.int .i64 0,.int .i64 0,.int .i64 0,.int .i64 0,.int .i64 0] 36)) w.heap.size 36 (c5 x0 x1 x2 x3 x4)):=aq ((Blk.new w [.int .i64 x0,.int .i64 x1,.int .i64 x2,.int .i64 x3,.int .i64 x4] 36 rfl).alloc _);have HB:=aq (bal (bal (Below.refl w.heap.size w) (.cells #[.int .i64 x0,.int .i64 x1,.int .i64 x2,.int .i64 x3,.int .i64 x4] 36)) (.cells #[.int .i64 0,.int .i64 0,.int .i64 0,.int .i64 0,.int .i64 0] 36));have HZ:Hid (Blk ((w.alloc (.cells #[.int .i64 x0,.int .i64 x1,.int .i64 x2,.int .i64 x3,.int .i64 x4] 36)).alloc (.cells #[.int .i64 0,.int .i64 0,.int .i64 0,.int .i64 0,.int .i64 0] 36)) (w.heap.size+1) 36 (c5 0 0 0 0 0)):=aq (Blk.new _ [.int .i64 0,.int .i64 0,.int .i64 0,.int .i64 0,.int .i64 0] 36 (by simp));go_enter func59,ntmps59;go_wp2_with fail;refine(pmust_ok 0 _).mono ?_;rintro e w1 ⟨rfl,rfl⟩;dsimp only
 go_wp2_with (first
  | (refine ldrow (cs:=[.int .i64 x0,.int .i64 x1,.int .i64 x2,.int .i64 x3,.int .i64 x4]) rfl 36 (.tmp 2) rfl rfl HC.o _ underlying36 rfl (by rw [infoT];rfl) ?_)
  | (refine strow rfl 36 (.tmp 4) (.tmp 9) rfl rfl rfl HZ.o rfl (by rw [infoT];rfl) (by simp [Value.oneCell']) ?_;intro W2 h1 h2;have H1:=aq h1;have H2:=aq h2;clear h1 h2))
 have l1:(loadVar 36 ⟨w.heap.size+1,0,none⟩).run prog W2= .ok (.agg #[.int .i64 x0,.int .i64 x1,.int .i64 x2,.int .i64 x3,.int .i64 x4]) W2:=run_loadVar_row (P:=prog) _ _ 36 36 _ (0,0) _ H1.o underlying36 rfl (by rw [infoT];rfl);refine bodyPost_ret (v:=.agg #[.int .i64 x0,.int .i64 x1,.int .i64 x2,.int .i64 x3,.int .i64 x4]) ?_ rfl ⟨rfl,HB.o.grown H2.o HB.o.size (fun k hk=>by cases hk;omega)⟩;rw [results_c rfl];simp [asAddr,l1,Sem.run_pure,Act.put]
theorem infoL:(prog.info? 122).map (·.size)=some 7:=by kernel_rfl
theorem gotL_ok(x0 x1 x2 x3 x4 x5 x6:Int)(w:World):Calls prog 62 #[.agg #[.int .i64 x0,.int .i64 x1,.int .i64 x2,.int .i64 x3,.int .i64 x4,.int .i64 x5,.int .i64 x6],.int .i64 0] w fun e w'=>e= .returned (.agg #[.int .i64 x0,.int .i64 x1,.int .i64 x2,.int .i64 x3,.int .i64 x4,.int .i64 x5,.int .i64 x6])/\Below w.heap.size w w':=by
 have HC:Hid (Blk ((w.alloc (.cells #[.int .i64 x0,.int .i64 x1,.int .i64 x2,.int .i64 x3,.int .i64 x4,.int .i64 x5,.int .i64 x6] 122)).alloc (.cells #[.int .i64 0,.int .i64 0,.int .i64 0,.int .i64 0,.int .i64 0,.int .i64 0,.int .i64 0] 122)) w.heap.size 122 [.int .i64 x0,.int .i64 x1,.int .i64 x2,.int .i64 x3,.int .i64 x4,.int .i64 x5,.int .i64 x6]):=aq ((Blk.new w [.int .i64 x0,.int .i64 x1,.int .i64 x2,.int .i64 x3,.int .i64 x4,.int .i64 x5,.int .i64 x6] 122 rfl).alloc _);have HB:=aq (bal (bal (Below.refl w.heap.size w) (.cells #[.int .i64 x0,.int .i64 x1,.int .i64 x2,.int .i64 x3,.int .i64 x4,.int .i64 x5,.int .i64 x6] 122)) (.cells #[.int .i64 0,.int .i64 0,.int .i64 0,.int .i64 0,.int .i64 0,.int .i64 0,.int .i64 0] 122));have HZ:Hid (Blk ((w.alloc (.cells #[.int .i64 x0,.int .i64 x1,.int .i64 x2,.int .i64 x3,.int .i64 x4,.int .i64 x5,.int .i64 x6] 122)).alloc (.cells #[.int .i64 0,.int .i64 0,.int .i64 0,.int .i64 0,.int .i64 0,.int .i64 0,.int .i64 0] 122)) (w.heap.size+1) 122 [.int .i64 0,.int .i64 0,.int .i64 0,.int .i64 0,.int .i64 0,.int .i64 0,.int .i64 0]):=aq (Blk.new _ [.int .i64 0,.int .i64 0,.int .i64 0,.int .i64 0,.int .i64 0,.int .i64 0,.int .i64 0] 122 (by simp));go_enter func62,ntmps62;go_wp2_with fail;refine(pmust_ok 0 _).mono ?_;rintro e w1 ⟨rfl,rfl⟩;dsimp only
 go_wp2_with (first
  | (refine ldrow (cs:=[.int .i64 x0,.int .i64 x1,.int .i64 x2,.int .i64 x3,.int .i64 x4,.int .i64 x5,.int .i64 x6]) rfl 122 (.tmp 2) rfl rfl HC.o _ underlying122 rfl (by rw [infoL];rfl) ?_)
  | (refine strow rfl 122 (.tmp 4) (.tmp 9) rfl rfl rfl HZ.o rfl (by rw [infoL];rfl) (by simp [Value.oneCell']) ?_;intro W2 h1 h2;have H1:=aq h1;have H2:=aq h2;clear h1 h2))
 have l1:(loadVar 122 ⟨w.heap.size+1,0,none⟩).run prog W2= .ok (.agg #[.int .i64 x0,.int .i64 x1,.int .i64 x2,.int .i64 x3,.int .i64 x4,.int .i64 x5,.int .i64 x6]) W2:=run_loadVar_row (P:=prog) _ _ 122 122 _ (0,0) _ H1.o underlying122 rfl (by rw [infoL];rfl);refine bodyPost_ret (v:=.agg #[.int .i64 x0,.int .i64 x1,.int .i64 x2,.int .i64 x3,.int .i64 x4,.int .i64 x5,.int .i64 x6]) ?_ rfl ⟨rfl,HB.o.grown H2.o HB.o.size (fun k hk=>by cases hk;omega)⟩;rw [results_c rfl];simp [asAddr,l1,Sem.run_pure,Act.put]
theorem caught_id(p:Addr)(c:Value)(w:World) :
 CallsD prog 41 #[.pointer (some p),c] .returning w fun e u' w'=>e= .returned (.tuple #[])/\u'= .returning/\w'=w:=by
 refine callsD_of_wpS func41 rfl fun c₀ cs hu=>?_;simp only [ntmps41,List.size_toArray,List.length_cons,List.length_nil,Nat.reduceAdd,Nat.reduceSub,Array.replicate_succ,Array.replicate_zero,List.push_toArray,List.append_toArray,List.nil_append,List.cons_append];apply wpS_seq;apply wpS_region;simp [wpOpsS,go_sem,recoverD,hu,Exit.thenS];refine wpS_of_wp ?_;go_wp2;cases c₀;simp_all [bodyPostS,results,results41]
theorem caught_room(p:Addr)(caps:Array Value)(e:Int)(w:World)(R:World->Prop)(hcl:Calls prog 42 caps w fun en w'=>en= .returned (.tuple #[])/\R w')(hp:∀ W,R W->(∃ x,W.cell? p=some (.int .i64 x))/\W.frozen? p=false) :
 CallsD prog 41 #[.pointer (some p),.func (.func 42) #[] caps] (.panicking (pan e)) w fun en u' w'=>en= .returned (.tuple #[])/\u'= .panicking [{v:=.iface 30 (.int .i64 e),recovered:=true}]/\∃ W,R W/\w'=W.setCell p (.int .i64 e):=by
 have hta:∀ W:World,(Instr.typeAssert (.iface 30 (.int .i64 e)) 20 30 true).run prog W= .ok (.tuple #[.int .i64 e,.bool true]) W:=fun W=>by kernel_rfl
 have HC:=aq hcl;have HP:=aq hp;clear hcl hp;refine callsD_of_wpS func41 rfl fun c₀ cs hu=>?_;simp only [ntmps41,List.size_toArray,List.length_cons,List.length_nil,Nat.reduceAdd,Nat.reduceSub,Array.replicate_succ,Array.replicate_zero,List.push_toArray,List.append_toArray,List.nil_append,List.cons_append];apply wpS_seq;apply wpS_region;simp [wpOpsS,go_sem,recoverD,hu,pan,Exit.thenS];refine wpS_of_wp ?_;go_wp2_with (go_at_call 42;refine HC.o.mono ?_;rintro en W ⟨rfl,hRW⟩;obtain⟨⟨x,hpc⟩,hpf⟩:=HP.o W hRW);cases c₀;have HRW:=aq hRW;have he:∃ W',R W'/\W.setCell p (.int .i64 e)=W'.setCell p (.int .i64 e):=⟨W,HRW.o,rfl⟩
 have HE:=aq he;clear HP HC hRW he hpc hpf;simp only [bodyPostS];simp_all [results,results41];exact HE.o
theorem room1_any(NB:Nat)(x:Value)(w:World)(h:Blk w NB 3 [x]):Calls prog 42 #[.pointer (some ⟨NB,0,none⟩)] w fun e w'=>e= .returned (.tuple #[])/\(Blk w' NB 3 [.int .i64 0]/\w.grownBy w' (some NB)):=by
 have c0:=h.cell (j:=0) (v:=x) rfl;have f0:=h.frozen 0;go_enter func42,ntmps42;go_wp2;go_end0;exact⟨rfl,h.set 0 _,grownBy_set w NB 0 _⟩
def okC(B c k lm hv:Int):Bool:=okG B c k && (decide (1<=lm) && decide (lm<=1048576)) && (decide (1<=hv) && decide (hv<=64))
theorem pcheck_any(B c k lm hv:Int)(w:World):Calls prog 16 #[.agg #[.int .i64 B,.int .i64 c,.int .i64 k,.int .i64 lm,.int .i64 hv]] w fun e w'=>e= .returned (.int .i64 (if okC B c k lm hv then 0 else 2))/\Below w.heap.size w w':=by
 have HC:=aq (Blk.new w [.int .i64 B,.int .i64 c,.int .i64 k,.int .i64 lm,.int .i64 hv] 25 rfl);have HB:=aq (bal (Below.refl w.heap.size w) (.cells #[.int .i64 B,.int .i64 c,.int .i64 k,.int .i64 lm,.int .i64 hv] 25));have HG:=aq (fun W=>gcheck_any B c k W);obtain⟨V,hV⟩:∃ V:Int,V=if okC B c k lm hv then 0 else 2:=⟨_,rfl⟩
 rw [<- hV];have HV:=aq hV;clear hV;obtain⟨u,hu⟩:∃ u,u=okG B c k:=⟨_,rfl⟩
 have HO:Hid (okC B c k lm hv=(u && (decide (1<=lm) && decide (lm<=1048576)) && (decide (1<=hv) && decide (hv<=64)))):=aq (by rw [hu];rfl);have HU:Hid (ckG B c k=if u then 0 else 2):=aq (by rw [hu];rfl);rw [HU.o]at HG;clear hu HU;go_enter func16,ntmps16;go_wp2_with (refine wpList_load_mid rfl 23 (.tmp 3) rfl w.heap.size 0 rfl [.int .i64 B,.int .i64 c,.int .i64 k] _ (ra3 HC.o) underlying23 rfl (by rw [infoGC];rfl) ?_);refine(HG.o _).mono ?_;rintro e w1 ⟨rfl,hB1⟩;have HC1:=aq (HC.o.below hB1);have HB1:=aq (HB.o.trans (hB1.mono HB.o.size));clear hB1 HC HB HG;dsimp only;have c3:=HC1.o.cell (j:=3) (v:=.int .i64 lm) rfl;have c4:=HC1.o.cell (j:=4) (v:=.int .i64 hv) rfl;cases u with
 | false =>
   have HE:Hid (okC B c k lm hv=false):=aq (by rw [HO.o];rfl);go_wp2;go_ret;exact⟨by rw [HV.o,HE.o];rfl,HB1.o⟩
 | true =>
   cases hl:(decide (1<=lm) && decide (lm<=1048576)) with
   | false =>
     have HE:Hid (okC B c k lm hv=false):=aq (by rw [HO.o,hl];rfl);go_wp2_with (go_at_call 50;refine(pin_any _ _ _ _).mono ?_;rintro e wx ⟨rfl,rfl⟩;rw [hl]);go_ret;exact⟨by rw [HV.o,HE.o];rfl,HB1.o⟩
   | true =>
     cases hh:(decide (1<=hv) && decide (hv<=64)) with
     | false =>
       have HE:Hid (okC B c k lm hv=false):=aq (by rw [HO.o,hl,hh];rfl);go_wp2_with (go_at_call 50;refine(pin_any _ _ _ _).mono ?_;rintro e wx ⟨rfl,rfl⟩;first | rw [hl] | rw [hh]);go_ret;exact⟨by rw [HV.o,HE.o];rfl,HB1.o⟩
     | true =>
       have HE:Hid (okC B c k lm hv=true):=aq (by rw [HO.o,hl,hh];rfl);go_wp2_with (go_at_call 50;refine(pin_any _ _ _ _).mono ?_;rintro e wx ⟨rfl,rfl⟩;first | rw [hl] | rw [hh]);go_ret;exact⟨by rw [HV.o,HE.o];rfl,HB1.o⟩
set_option maxHeartbeats 4000000
theorem lvI{W:World}{b:Nat}{x:Int}(h:W.cell? ⟨b,0,none⟩=some (.int .i64 x)):(loadVar 3 ⟨b,0,none⟩).run prog W= .ok (.int .i64 x) W:=by
 simp [go_sem,h]
theorem infoPC:(prog.info? 25).map (·.size)=some 5:=by kernel_rfl
def okR(B c k lm hv f b m:Int):Bool:=okC B c k lm hv && okM m && okD B c k f b
theorem okD_len{B c k f b:Int}(h:okD B c k f b=true):(dtL B c k f b).length<=16800:=by
 have h1:=dtL_le B c k f b;obtain⟨-,-,-,-,h6,-⟩:=okD_iff h;omega
theorem room_any(B c k lm hv f b m:Int)(w:World)(hf:-9223372036854775808<=f/\f<=9223372036854775807):Calls prog 11 #[.agg #[.int .i64 B,.int .i64 c,.int .i64 k,.int .i64 lm,.int .i64 hv],.int .i64 f,.int .i64 b,.int .i64 m] w fun e w'=>e= .returned (.tuple #[.int .i64 (if okR B c k lm hv f b m then m*((dtL B c k f b).length:Int) else 0),.int .i64 (if okR B c k lm hv f b m then 0 else 2)])/\Below w.heap.size w w':=by
 have hmf:∀ (fn:Fn) (first cap:Array Value) (w:World),(Instr.makeFunc fn first cap).run prog w= .ok (.func fn first cap) w:=fun _ _ _ _=>rfl;obtain⟨V,hV⟩:∃ V:Int,V=if okR B c k lm hv f b m then m*((dtL B c k f b).length:Int) else 0:=⟨_,rfl⟩
 obtain⟨Ev,hEv⟩:∃ V:Int,V=if okR B c k lm hv f b m then 0 else 2:=⟨_,rfl⟩
 rw [<- hV,<- hEv];have HV:=aq hV;have HEv:=aq hEv;clear hV hEv;have HCK:=aq (fun W=>pcheck_any B c k lm hv W);have HDA:=aq (fun W=>data_any B c k f b W hf);have HC:Hid (Blk (((w.alloc (.cells #[.int .i64 B,.int .i64 c,.int .i64 k,.int .i64 lm,.int .i64 hv] 25)).alloc (.cells #[.int .i64 0] 3)).alloc (.cells #[.int .i64 0] 30)) w.heap.size 25 (c5 B c k lm hv)):=aq (((Blk.new w [.int .i64 B,.int .i64 c,.int .i64 k,.int .i64 lm,.int .i64 hv] 25 rfl).alloc _).alloc _);have HN:Hid (Blk (((w.alloc (.cells #[.int .i64 B,.int .i64 c,.int .i64 k,.int .i64 lm,.int .i64 hv] 25)).alloc (.cells #[.int .i64 0] 3)).alloc (.cells #[.int .i64 0] 30)) (w.heap.size+1) 3 [.int .i64 0]):=aq ((Blk.new _ [.int .i64 0] 3 (by simp)).alloc _);have HE:Hid (Blk (((w.alloc (.cells #[.int .i64 B,.int .i64 c,.int .i64 k,.int .i64 lm,.int .i64 hv] 25)).alloc (.cells #[.int .i64 0] 3)).alloc (.cells #[.int .i64 0] 30)) (w.heap.size+1+1) 30 [.int .i64 0]):=aq (Blk.new _ [.int .i64 0] 30 (by simp));have HB:=aq (bal (bal (bal (Below.refl w.heap.size w) (.cells #[.int .i64 B,.int .i64 c,.int .i64 k,.int .i64 lm,.int .i64 hv] 25)) (.cells #[.int .i64 0] 3)) (.cells #[.int .i64 0] 30));go_enter_defers func11,ntmps11;go_upto_region 2 with fail
 obtain⟨CB,hCB⟩:∃ x,x=w.heap.size:=⟨_,rfl⟩
 obtain⟨NB,hNB⟩:∃ x,x=w.heap.size+1:=⟨_,rfl⟩
 obtain⟨EB,hEB⟩:∃ x,x=w.heap.size+1+1:=⟨_,rfl⟩
 rw [<- hEB]at HE ⊢;rw [<- hNB]at HN ⊢;have HNE:Hid (NB≠EB/\EB≠NB):=aq (by omega);have HGE:Hid (w.heap.size<=NB/\w.heap.size<=EB):=aq (by omega);rw [<- hCB]at HC ⊢;clear hEB hNB hCB;generalize (((w.alloc (.cells #[.int .i64 B,.int .i64 c,.int .i64 k,.int .i64 lm,.int .i64 hv] 25)).alloc (.cells #[.int .i64 0] 3)).alloc (.cells #[.int .i64 0] 30))=w0 at *;go_cut [] from 11 to 26 (fun wx=>(okC B c k lm hv=true/\okM m=true)/\Below w0.heap.size w0 wx)
 case first =>
  go_wp2_with (refine ldrow (cs:=[.int .i64 B,.int .i64 c,.int .i64 k,.int .i64 lm,.int .i64 hv]) rfl 25 (.tmp 4) rfl rfl HC.o _ underlying25 rfl (by rw [infoPC];rfl) ?_);refine(HCK.o _).mono ?_;rintro e w1 ⟨rfl,hB1⟩;have HN1:=aq (HN.o.below hB1);have HE1:=aq (HE.o.below hB1);have HB1:=aq (HB.o.trans (hB1.mono HB.o.size));have HBx:=aq hB1;clear hB1;cases hc:okC B c k lm hv with
  | false =>
    dsimp only;go_wp2_with fail;refine(pmust_bad 2 _).mono ?_;rintro e wx ⟨rfl,rfl⟩;refine leaves_cons (f:=41) (args:=#[.pointer (some ⟨EB,0,none⟩),.func (.func 42) #[] #[.pointer (some ⟨NB,0,none⟩)]]) (by simp) (by simp [go_sem]) ?_;refine(caught_room ⟨EB,0,none⟩ _ 2 _ (fun W9=>Blk W9 NB 3 [.int .i64 0]/\wx.grownBy W9 (some NB)) (room1_any NB _ wx HN1.o) (fun W9 hW=>?_)).mono ?_
    . have hE2:=HE1.o.grown hW.2 (fun he=>HNE.o.2 (Option.some.inj he))
      exact⟨⟨_,hE2.cell (j:=0) rfl⟩,hE2.frozen 0⟩
    rintro e u' w'' ⟨rfl,rfl,W2,hW2,rfl⟩;have hE2:=HE1.o.grown hW2.2 (fun he=>HNE.o.2 (Option.some.inj he));have l1:=lvI ((hW2.1.other (g:=EB) HNE.o.2 0 (.int .i64 2)).cell (j:=0) (v:=.int .i64 0) rfl);have l2:=lv24 ((hE2.set 0 (.int .i64 2)).cell (j:=0) (v:=.int .i64 2) rfl);have HBE:=aq ((HB1.o.grown hW2.2 HB1.o.size (fun q hk=>by cases hk;exact HGE.o.1)).setCell (p:=⟨EB,0,none⟩) HGE.o.2 (.int .i64 2));have HQ:=aq (show V=0/\Ev=2 by rw [HV.o,HEv.o,show okR B c k lm hv f b m=false from by unfold okR;rw [hc];rfl];exact⟨rfl,rfl⟩);clear hW2 hE2;simp [Leaves,settle,results,results11,asAddr,l1,l2,Sem.run_bind,Result.andThen];exact⟨by rw [HQ.o.1,HQ.o.2];exact⟨rfl,rfl⟩,HBE.o⟩
  | true =>
    dsimp only;by_cases hm:okM m=true
    . have hm':m=2\/m=4\/m=6:=by unfold okM at hm;simpa using hm
      have HM:=aq (show(okC B c k lm hv=true/\okM m=true)/\Below w0.heap.size w0 w1 from⟨⟨hc,hm⟩,HBx.o⟩);clear hm;rcases hm' with rfl | rfl | rfl
      all_goals
       go_wp2_with fail
       refine(pmust_ok 2 _).mono ?_
       rintro e wx ⟨rfl,rfl⟩
       dsimp only
       go_wp2_with fail
       go_meet
       exact HM.o
    . have hmf2:okM m=false:=by simpa using hm
      have hm2:m≠2/\m≠4/\m≠6:=by unfold okM at hm;simp at hm;omega
      have e2:(m == 2)=false:=beq_f hm2.1;have e4:(m == 4)=false:=beq_f hm2.2.1;have e6:(m == 6)=false:=beq_f hm2.2.2;clear hm hm2;go_wp2_with fail;refine(pmust_bad 2 _).mono ?_;rintro e wx ⟨rfl,rfl⟩;refine leaves_cons (f:=41) (args:=#[.pointer (some ⟨EB,0,none⟩),.func (.func 42) #[] #[.pointer (some ⟨NB,0,none⟩)]]) (by simp) (by simp [go_sem]) ?_;refine(caught_room ⟨EB,0,none⟩ _ 2 _ (fun W9=>Blk W9 NB 3 [.int .i64 0]/\wx.grownBy W9 (some NB)) (room1_any NB _ wx HN1.o) (fun W9 hW=>?_)).mono ?_
      . have hE2:=HE1.o.grown hW.2 (fun he=>HNE.o.2 (Option.some.inj he))
        exact⟨⟨_,hE2.cell (j:=0) rfl⟩,hE2.frozen 0⟩
      rintro e u' w'' ⟨rfl,rfl,W2,hW2,rfl⟩;have hE2:=HE1.o.grown hW2.2 (fun he=>HNE.o.2 (Option.some.inj he));have l1:=lvI ((hW2.1.other (g:=EB) HNE.o.2 0 (.int .i64 2)).cell (j:=0) (v:=.int .i64 0) rfl);have l2:=lv24 ((hE2.set 0 (.int .i64 2)).cell (j:=0) (v:=.int .i64 2) rfl);have HBE:=aq ((HB1.o.grown hW2.2 HB1.o.size (fun q hk=>by cases hk;exact HGE.o.1)).setCell (p:=⟨EB,0,none⟩) HGE.o.2 (.int .i64 2));have HQ:=aq (show V=0/\Ev=2 by rw [HV.o,HEv.o,show okR B c k lm hv f b m=false from by unfold okR;rw [hmf2,Bool.and_false];rfl];exact⟨rfl,rfl⟩);clear hW2 hE2;simp [Leaves,settle,results,results11,asAddr,l1,l2,Sem.run_bind,Result.andThen];exact⟨by rw [HQ.o.1,HQ.o.2];exact⟨rfl,rfl⟩,HBE.o⟩
 case rest =>
  obtain⟨⟨hc,hm⟩,hB1⟩:=hcut;have HC1:=aq (HC.o.below hB1);have HN1:=aq (HN.o.below hB1);have HE1:=aq (HE.o.below hB1);have HB1:=aq (HB.o.trans (hB1.mono HB.o.size));clear hB1 HC HN HE HB HCK;have HCM:=aq hc;have HMM:=aq hm;have hm':2<=m/\m<=6:=by unfold okM at hm;simp at hm;omega
  clear hc hm;go_wp2_with (refine wpList_load_mid rfl 23 (.tmp 28) rfl CB 0 rfl [.int .i64 B,.int .i64 c,.int .i64 k] _ (ra3 HC1.o) underlying23 rfl (by rw [infoGC];rfl) ?_);refine(HDA.o _).mono ?_;rintro e w2 ⟨hB2,⟨hd,rfl⟩ | ⟨hd,A',rfl,hrd,-⟩⟩
  . have HN2:=aq (HN1.o.below hB2)
    have HE2:=aq (HE1.o.below hB2);have HB2:=aq (HB1.o.trans (hB2.mono HB1.o.size));clear hB2;dsimp only;go_wp2_with fail;refine(gotI_bad 2 (by decide) _).mono ?_;rintro e wx ⟨rfl,rfl⟩;refine leaves_cons (f:=41) (args:=#[.pointer (some ⟨EB,0,none⟩),.func (.func 42) #[] #[.pointer (some ⟨NB,0,none⟩)]]) (by simp) (by simp [go_sem]) ?_;refine(caught_room ⟨EB,0,none⟩ _ 2 _ (fun W9=>Blk W9 NB 3 [.int .i64 0]/\wx.grownBy W9 (some NB)) (room1_any NB _ wx HN2.o) (fun W9 hW=>?_)).mono ?_
    . have hE2:=HE2.o.grown hW.2 (fun he=>HNE.o.2 (Option.some.inj he))
      exact⟨⟨_,hE2.cell (j:=0) rfl⟩,hE2.frozen 0⟩
    rintro e u' w'' ⟨rfl,rfl,W2,hW2,rfl⟩;have hE2:=HE2.o.grown hW2.2 (fun he=>HNE.o.2 (Option.some.inj he));have l1:=lvI ((hW2.1.other (g:=EB) HNE.o.2 0 (.int .i64 2)).cell (j:=0) (v:=.int .i64 0) rfl);have l2:=lv24 ((hE2.set 0 (.int .i64 2)).cell (j:=0) (v:=.int .i64 2) rfl);have HBE:=aq ((HB2.o.grown hW2.2 HB2.o.size (fun q hk=>by cases hk;exact HGE.o.1)).setCell (p:=⟨EB,0,none⟩) HGE.o.2 (.int .i64 2));have HQ:=aq (show V=0/\Ev=2 by rw [HV.o,HEv.o,show okR B c k lm hv f b m=false from by unfold okR;rw [hd,Bool.and_false]];exact⟨rfl,rfl⟩);clear hW2 hE2;simp [Leaves,settle,results,results11,asAddr,l1,l2,Sem.run_bind,Result.andThen];exact⟨by rw [HQ.o.1,HQ.o.2];exact⟨rfl,rfl⟩,HBE.o⟩
  . have HN2:=aq (HN1.o.below hB2)
    have HE2:=aq (HE1.o.below hB2);have HB2:=aq (HB1.o.trans (hB2.mono HB1.o.size));have hlen:=okD_len hd;have HQ:=aq (show V=m*((dtL B c k f b).length:Int)/\Ev=0 by rw [HV.o,HEv.o,show okR B c k lm hv f b m=true from by unfold okR;rw [HCM.o,HMM.o,hd];rfl];exact⟨rfl,rfl⟩);clear hB2 hrd;obtain⟨L,hL⟩:∃ L,L=(dtL B c k f b).length:=⟨_,rfl⟩
    rw [<- hL]at hlen HQ ⊢;clear hL hd
    have hml:0<=m*(L:Int)/\m*(L:Int)<=100800:=⟨Int.mul_nonneg (by omega) (by omega),by
     have:m*(L:Int)<=6*16800:=Int.mul_le_mul hm'.2 (by omega) (by omega) (by omega)
     omega⟩
    have w9:wrap64 (m*(L:Int))=m*(L:Int):=IntWalk.wrap64_in _ (by omega);have n0:=HN2.o.cell (j:=0) (v:=.int .i64 0) rfl;have nf:=HN2.o.frozen 0;have e0:=HE2.o.cell (j:=0) (v:=.int .i64 0) rfl;have ef:=HE2.o.frozen 0;have hne:=HNE.o.1;have hne':=HNE.o.2;dsimp only;go_wp2_with fail;refine(gotI_ok _).mono ?_;rintro e wx ⟨rfl,rfl⟩;dsimp only;go_wp2;have hNf:Blk ((wx.setCell ⟨NB,0,none⟩ (.int .i64 (m*(L:Int)))).setCell ⟨EB,0,none⟩ (.int .i64 0)) NB 3 [.int .i64 (m*(L:Int))]:=(HN2.o.set 0 _).other hne' _ _;have hEf:Blk ((wx.setCell ⟨NB,0,none⟩ (.int .i64 (m*(L:Int)))).setCell ⟨EB,0,none⟩ (.int .i64 0)) EB 30 [.int .i64 0]:=(HE2.o.other hne _ _).set 0 _;have HBE:=aq ((HB2.o.setCell (p:=⟨NB,0,none⟩) HGE.o.1 (.int .i64 (m*(L:Int)))).setCell (p:=⟨EB,0,none⟩) HGE.o.2 (.int .i64 0));have l1:=lvI (hNf.cell (j:=0) (v:=.int .i64 (m*(L:Int))) rfl);have l2:=lv24 (hEf.cell (j:=0) (v:=.int .i64 0) rfl);clear hNf hEf n0 nf e0 ef hne hne' w9;generalize (wx.setCell ⟨NB,0,none⟩ (.int .i64 (m*(L:Int)))).setCell ⟨EB,0,none⟩ (.int .i64 0)=Wf at *;refine leaves_cons (f:=41) (args:=#[.pointer (some ⟨EB,0,none⟩),.func (.func 42) #[] #[.pointer (some ⟨NB,0,none⟩)]]) (by simp) (by simp [go_sem]) ?_;refine(caught_id ⟨EB,0,none⟩ _ _).mono ?_;rintro e u' w'' ⟨rfl,rfl,rfl⟩;simp [Leaves,settle,results,results11,asAddr,l1,l2,Sem.run_bind,Result.andThen];exact⟨by rw [HQ.o.1,HQ.o.2];exact⟨rfl,rfl⟩,HBE.o⟩
end Go.Proofs.YthmhogdceolkdaaGreat.Cr