/- Bundle. Conditions: none. -/
import Derived.Test.YtkdfefpnhaebfaaGreatBwoax
set_option linter.unusedVariables false
set_option linter.unusedSimpArgs false
namespace Go.Proofs.YtkdfefpnhaebfaaGreat.Cr
open Go.RowKit Go.Shelf
set_option maxRecDepth 100000
set_option maxHeartbeats 2000000
def SeqD{α:Type}(m gf:Nat)(lb:Array Value)(encs:α→Array Value)(Kp:World→World→Prop)(S Sp:List α→Prop)(Ok:List α→α→Prop)(w:World):Prop :=
 ∀ (l:Nat) (J Jx:List α→World→Prop) (W:World),Below w.heap.size w W→Cl W.heap.size J→Cl W.heap.size Jx →
  (∀ pre x W1,J pre W1→Ok pre x→YieldAt Fence.wide (m - 1) Tryz.prog l (encs x) W1 fun e W' =>
    (e= .returned (.bool true)∧J (pre ++ [x]) W'∧Kp W1 W')∨(e= .returned (.bool false)∧Jx (pre ++ [x]) W')) →
  J [] W →
  CallsIn Fence.wide m Tryz.prog gf (#[.func (.yield l) #[] #[]] ++ lb) W fun e W'=>(∃ v,e= .returned v)∧((∃ xs,S xs∧J xs W')∨(∃ pre,Sp pre∧Jx pre W'))
theorem rangeD{α:Type}{g:Operand}{ps:Array Tmp}{assign body:Code}{Q:Exit→Act→World→Prop}{a:Act}{w:World}
 {gf:Nat} {lb:Array Value} (hg:a.eval g= .func (.func gf) #[] lb) (eg:∀ args w,(callFunc gf args).run Tryz.prog w= .ok (.enter gf args) w)
 {encs:α→Array Value} {Kp:World→World→Prop} {S Sp:List α→Prop} {Ok:List α→α→Prop} {w0:World} (hseq:SeqD 2 gf lb encs Kp S Sp Ok w0)
 (hKt:∀ {A B C:World},Kp A B→Kp B C→Kp A C) (hKb:∀ (W:World) (l:Nat) (o o':Obj),w.heap.size≤l→W.heap[l]?=some o→o.isCells=false→Kp W (W.putObj l o')) (hb0:Below w0.heap.size w0 w) (hps:∀ x,(encs x).size=ps.size)
 (I:List α→World→Prop) (Ix:Code→List α→World→Prop) (hI:Cl w.heap.size I) (hIx:∀ c,Cl w.heap.size (Ix c)) (h0:I [] w) (a₁:α→Act)
 (hassign:∀ (l:Nat) (x:α) (W:World) (K:Act→World→Prop),K (a₁ x) W →
   assign.wpIn (Fence.wide.inRound l) 1 Tryz.prog (Exit.then K (fun _ _ _=>False)) {tmps:=(ps.zip (encs x)).foldl (fun t (p,v)=>t.setIfInBounds p v) a.tmps,defers:=[]} W)
 (hbody:∀ (l:Nat) (pre:List α) (x:α) (W:World),I pre W→Ok pre x→body.wpIn (Fence.wide.inRound l) 1 Tryz.prog (ownPostK Kp I Ix (pre ++ [x]) W) (a₁ x) W)
 (hdone:∀ (D:Nat) (xs:List α) (W:World),w.heap.size≤D→S xs→I xs W→W.heap[D]?=some (.deferred (some []))→Q .normal {a with defers:={target:=.collected D,args:=#[]} :: a.defers} W)
 (hstop:∀ (D:Nat) (c:Code) (pre:List α) (W:World),w.heap.size≤D→Sp pre→Ix c pre W→W.heap[D]?=some (.deferred (some []))→c.wpIn Fence.wide 3 Tryz.prog Q {a with defers:={target:=.collected D,args:=#[]} :: a.defers} W) :
 (Code.rangeFunc g ps assign body).wpIn Fence.wide 3 Tryz.prog Q a w:=by
 refine wpIn_rangeFunc fun fn hfn=>?_
 obtain⟨n,hn⟩:∃ n,n=w.heap.size:=⟨_,rfl⟩
 rw [← hn]at hKb hI hIx hdone hstop
 obtain⟨rc,hrc⟩:∃ rc:LoopState→Option Code→Loop,rc=fun st pe=>{state:=st,pending:=pe,fn,tmps:=a.tmps,params:=ps,assign,body,defers:=n}:=⟨_,rfl⟩
 obtain⟨W1,hW1⟩:∃ W1,W1=(w.alloc (.deferred (some []))).alloc (.loop (rc .ready none)):=⟨_,rfl⟩
 have hs1:W1.heap.size=n+2:=by rw [hW1,hn];simp
 have hL1:W1.heap[n+1]?=some (.loop (rc .ready none)):=by
  rw [hW1,hn]
  have h:=World.alloc_heap_new (w.alloc (.deferred (some []))) (.loop (rc .ready none))
  rwa [World.size_alloc]at h
 have hK1:W1.heap[n]?=some (.deferred (some [])):=by
  rw [hW1,hn]
  exact(Below.heap_alloc _ _ _ (by simp)).trans (World.alloc_heap_new w _)
 have hI1:I [] W1:=by rw [hW1];exact hI.alloc _ (hI.alloc _ h0)
 have hb1:Below w0.heap.size w0 W1:=by
  rw [hW1]
  exact hb0.trans ((((Below.refl _ w).alloc (Nat.le_refl _) _).alloc (by simp) _).mono hb0.size)
 -- the loop's two blocks: nothing behind them turns them
 have two:∀ {A B:World} {row:Option Nat} {o p:Obj},A.grownBy B row→(∀ r,row=some r→W1.heap.size≤r)→A.heap[n+1]?=some o∧A.heap[n]?=some p→B.heap[n+1]?=some o∧B.heap[n]?=some p:=fun {A B row o p} hgr hr h =>
  ⟨(hgr.block _ (Array.getElem?_eq_some_iff.1 h.1).1 (fun e=>by have:=hr _ e.symm;omega)).trans h.1,(hgr.block _ (Array.getElem?_eq_some_iff.1 h.2).1 (fun e=>by have:=hr _ e.symm;omega)).trans h.2⟩
 have up:∀ {row:Option Nat},(∀ r,row=some r→W1.heap.size≤r)→∀ r,row=some r→n≤r:=fun hr r e=>by have:=hr r e;omega
 refine⟨n+1,[{target:=.collected n,args:=#[]}],W1,{target:=.fn (.func gf) lb,args:=#[.func (.yield (n+1)) #[] #[]]},W1,gf,#[.func (.yield (n+1)) #[] #[]] ++ lb,W1,?_,?_,?_,?_,fun _=>by omega,?_⟩
 · rw [hW1,hrc,hn]
   exact run_enterLoop_outer _ _ _ _ _
 · simp only [resolve,hg]
   simp [go_sem]
 · intro f hf
   simp [Target.leads]at hf
   subst hf
   trivial
 · simp [invoke,go_sem,eg]
 refine(hseq (n+1)
  (fun pre W=>I pre W∧W.heap[n+1]?=some (.loop (rc .ready none))∧W.heap[n]?=some (.deferred (some [])))
  (fun pre W=>∃ c,Ix c pre W∧W.heap[n+1]?=some (.loop (rc .done (some c)))∧W.heap[n]?=some (.deferred (some [])))
  W1 hb1 (fun s A B row hs hgr hr=>⟨hI s A B row hs.1 hgr (up hr),two hgr hr hs.2⟩)
  (fun s A B row ⟨c,hc,hs⟩ hgr hr=>⟨c,hIx c s A B row hc hgr (up hr),two hgr hr hs⟩) ?_ ⟨hI1,hL1,hK1⟩).mono ?_
 · rintro pre x W ⟨hi,hl,hk⟩ hlen
   have hlt:n+1<W.heap.size:=(Array.getElem?_eq_some_iff.1 hl).1
   obtain⟨Wb,hWb⟩:∃ Wb,Wb=W.putObj (n+1) (.loop {rc .ready none with state:=.busy}):=⟨_,rfl⟩
   have hlb:Wb.heap[n+1]?=some (.loop {rc .ready none with state:=.busy}):=by rw [hWb];exact World.putObj_heap_same hlt
   have hkb:Wb.heap[n]?=some (.deferred (some [])):=by rw [hWb];exact(World.putObj_heap_other (by omega)).trans hk
   have hib:I pre Wb:=by rw [hWb];exact hI.put _ hi (by omega)
   have hpb:Kp W Wb:=by rw [hWb];exact hKb _ _ _ _ (by omega) hl rfl
   have hyl:=run_yield (P:=Tryz.prog) (args:=encs x) hl (by rw [hrc];exact hps x)
   rw [hrc]at hyl
   refine⟨fn,_,assign,body,hyl,roundIn_of_wpIn hfn (hassign _ x W _ ⟨_,run_beginRound hl (by rw [hrc]),?_⟩)⟩
   rw [← hWb]
   refine wpIn_mono (hbody _ pre x _ hib hlen) ?_
   have close:∀ (jump:Option Code) (W3:World),KeepsOthers Wb W3→∃ W4,W4=W3.putObj (n+1) (.loop (rc (if jump.isNone then .ready else .done) jump))∧(Instr.endRound (n+1) jump).run Tryz.prog W3= .ok (.bool jump.isNone) W4 ∧
    (∃ o:Obj,W3.heap[n+1]?=some o∧o.isCells=false)∧W4.heap[n+1]?=some (.loop (rc (if jump.isNone then .ready else .done) jump))∧W4.heap[n]?=some (.deferred (some [])):=fun jump W3 hk3=>by
    have hl3:=hk3.same _ _ hlb rfl
    have hr3:=run_endRound (P:=Tryz.prog) jump hl3
    rw [hrc]at hr3 ⊢
    exact⟨_,rfl,hr3,⟨_,hl3,rfl⟩,World.putObj_heap_same (Array.getElem?_eq_some_iff.1 hl3).1,(World.putObj_heap_other (by omega)).trans (hk3.same _ _ hkb rfl)⟩
   have away:∀ (c:Code) (W3:World),KeepsOthers Wb W3→Ix c (pre ++ [x]) W3→∃ v W4,(Instr.endRound (n+1) (some c)).run Tryz.prog W3= .ok v W4∧v= .bool false∧∃ c',Ix c' (pre ++ [x]) W4∧W4.heap[n+1]?=some (.loop (rc .done (some c')))∧W4.heap[n]?=some (.deferred (some [])):=fun c W3 hk3 hi3=>by
    obtain⟨W4,e4,hr,-,h1,h2⟩:=close (some c) W3 hk3
    exact⟨_,W4,hr,rfl,c,by rw [e4];exact(hIx c).put _ hi3 (by omega),h1,h2⟩
   rintro e a3 W3 hp
   cases e with
   | normal =>
     obtain⟨hk3,hp3,hi3⟩:=hp
     obtain⟨W4,e4,hr,⟨o,ho,hc⟩,h1,h2⟩:=close none W3 hk3
     refine⟨_,W4,hr,.inl ⟨rfl,⟨?_,h1,h2⟩,hKt (hKt hpb hp3) ?_⟩⟩
     · rw [e4];exact hI.put _ hi3 (by omega)
     · rw [e4];exact hKb _ _ _ _ (by omega) ho hc
   | ret =>
     obtain⟨v,W4,hr,hv,h⟩:=away .ret W3 hp.1 hp.2
     exact⟨v,W4,hr,.inr ⟨by rw [hv],h⟩⟩
   | exit id =>
     obtain⟨v,W4,hr,hv,h⟩:=away (.exit id) W3 hp.1 hp.2
     exact⟨v,W4,hr,.inr ⟨by rw [hv],h⟩⟩
   | goto t =>
     obtain⟨v,W4,hr,hv,h⟩:=away (.goto t) W3 hp.1 hp.2
     exact⟨v,W4,hr,.inr ⟨by rw [hv],h⟩⟩
   | panic ch=>exact hp.elim
   | outgrown=>exact hp.elim
 · rintro e W2 ⟨⟨v,rfl⟩,h⟩
   rcases h with⟨xs,hS,hi,hl,hk⟩ | ⟨pre,hSp,c,hi,hl,hk⟩
   · have hr:=run_endLoop (P:=Tryz.prog) hl (by rw [hrc];simp)
     rw [hrc]at hr
     exact⟨none,_,hr,hdone _ xs _ (Nat.le_refl _) hS (hI.put _ hi (by omega)) ((World.putObj_heap_other (by omega)).trans hk)⟩
   · have hr:=run_endLoop (P:=Tryz.prog) hl (by rw [hrc];simp)
     rw [hrc]at hr
     exact⟨some c,_,hr,hstop _ c pre _ (Nat.le_refl _) hSp ((hIx c).put _ hi (by omega)) ((World.putObj_heap_other (by omega)).trans hk)⟩
theorem crows_any(d:Nat)(w:World)(h1:1≤d)(h2:d≤6148):Calls Tryz.prog 161 #[.int .i64 d] w fun e w'=>e= .returned (.int .i64 (rwS d))∧w=w':=by
 have hd:((rwS d:Nat):Int)=((d:Int)+31) / 32:=by unfold rwS;omega
 have q1:decide ((d:Int)<1)=false:=by simp;omega
 have q2:decide ((6148:Int)<(d:Int))=false:=by simp;omega
 go_enter Tryz.func161,Tryz.ntmps161
 go_wp2
 go_ret
 refine⟨ret_int ?_,by trivial⟩
 rw [hd];omega
def prt(k:Nat):Nat→Nat
 | 0=>0
 | t+1=>prt k t+if k.testBit t then 16 / 2 ^ t else 0
theorem prt_all:∀ k:Fin 32,prt k.1 5=cpN k.1:=by decide
theorem prt_lt(k:Nat):∀ t,t≤5→prt k t≤31:=by
 have h:∀ t,t≤5→prt k t≤16*t:=by
  intro t
  induction t with
  | zero=>intro _;exact Nat.le_refl _
  | succ t ih =>
    intro ht
    have:=ih (by omega)
    have h2:(16:Nat) / 2 ^ t≤16:=Nat.div_le_self _ _
    unfold prt
    split<;>omega
 intro t ht
 by_cases h0:t=0
 · subst h0;exact Nat.zero_le _
 rcases (by omega:t=1∨t=2∨t=3∨t=4∨t=5) with rfl | rfl | rfl | rfl | rfl<;>simp [prt]<;>(repeat' split)<;>omega
def colV(k t j:Nat):Int:=if j<k then(cpN j:Int) else if j=k then(prt k t:Int) else 0
def colS(k t:Nat):List Int:=(List.range 32).map (colV k t)
theorem colS_len(k t:Nat):(colS k t).length=32:=by simp [colS]
theorem colS_gi(k t j:Nat)(h:j<32):gi (colS k t) j=colV k t j:=by
 rw [gi_eq _ _ (by rw [colS_len];exact h)];simp [colS]
theorem colS_same{k t:Nat}(h:k.testBit t=false):colS k (t+1)=colS k t:=by
 unfold colS
 refine List.map_congr_left fun j _=>?_
 unfold colV
 rw [show prt k (t+1)=prt k t+if k.testBit t then 16 / 2 ^ t else 0 from rfl,h];rfl
theorem colS_set{k t:Nat}(hk:k<32)(h:k.testBit t=true):(colS k t).set k ((prt k t:Int)+((16 / 2 ^ t:Nat):Int))=colS k (t+1):=by
 refine ext_gi (by simp [colS_len]) fun j hj=>?_
 have hj':j<32:=by simpa [colS_len] using hj
 rw [gi_set _ _ _ _ (by rw [colS_len];exact hk),colS_gi _ _ _ hj',colS_gi _ _ _ hj']
 unfold colV
 by_cases e:k=j
 · subst e
   rw [if_pos rfl,if_neg (by omega),if_pos rfl]
   show _=((prt k t+(if k.testBit t then 16 / 2 ^ t else 0):Nat):Int)
   rw [h,if_pos rfl];push_cast;rfl
 · rw [if_neg e]
   split
   · rfl
   · rw [if_neg (fun h9=>e h9.symm),if_neg (fun h9=>e h9.symm)]
theorem colS_next{k:Nat}(hk:k<32):colS k 5=colS (k+1) 0:=by
 refine ext_gi (by rw [colS_len,colS_len]) fun j hj=>?_
 rw [colS_len]at hj
 rw [colS_gi _ _ _ hj,colS_gi _ _ _ hj]
 unfold colV
 by_cases e:j=k
 · subst e
   rw [if_neg (by omega),if_pos rfl,if_pos (by omega),prt_all ⟨j,hk⟩]
 · by_cases h:j<k
   · rw [if_pos h,if_pos (by omega)]
   · rw [if_neg h,if_neg e,if_neg (by omega)]
     split<;>rfl
def cpI:List Int:=cpL.map fun(x:Nat)=>(x:Int)
theorem colS_all:colS 32 0=cpI:=by decide
theorem band_k:∀ k:Fin 32,∀ t:Fin 5,bits .and .i64 ((k.1:Nat):Int) ((2 ^ t.1:Nat):Int)=if k.1.testBit t.1 then((2 ^ t.1:Nat):Int) else 0:=by decide +kernel
def W8S(B k:Nat)(v:Int)(W:World):Prop:=W.cell? ⟨B,k,none⟩=some (.int .i64 v)
theorem ix143(B:Nat){k:Nat}(hk:k<32)(kd:IntKind)(W:World):(Instr.indexAt 316 (.pointer (some ⟨B,0,none⟩)) (.int kd (k:Int))).run Tryz.prog W= .ok (.pointer (some ⟨B,k,none⟩)) W:=by
 have h1:(0:Int)≤(k:Int)∧(k:Int)<32:=by omega
 have hs:(sizeOf 3).run Tryz.prog W= .ok 1 W:=by kernel_rfl
 have ha:(⟨B,0,none⟩:Addr).add (k*1)=⟨B,k,none⟩:=by rw [add_lit,Nat.zero_add,Nat.mul_one]
 simp [Instr.indexAt,run_underlying Tryz.underlying316,asIntOf,asAddr,hs,h1.2,go_sem,add_lit]
 intro h9;omega
theorem info143:(Tryz.prog.info? 316).map (·.size)=some 32:=by kernel_rfl
theorem res143{W:World}{b:Nat}{m:List Int}(h:Blk W b 316 (ints8 m))(hl:m.length=32):(loadVar 316 ⟨b,0,none⟩).run Tryz.prog W= .ok (.agg (ints8 m).toArray) W :=
 run_loadVar_row (P:=Tryz.prog) W b 316 316 _ (0,0) _ h Tryz.underlying316 rfl (by rw [info143];simp [ints8,hl])
def CoI(w:World)(B:Nat)(i:Value)(wr:World):Prop:=∃ k:Nat,k≤32∧i= .int .i64 k∧Blk wr B 316 (ints8 (colS k 0))∧Below w.heap.size w wr
def CbI(w:World)(B k:Nat)(b:Value)(wr:World):Prop:=∃ t:Nat,t≤5∧b= .int .i64 ((2 ^ t:Nat):Int)∧Blk wr B 316 (ints8 (colS k t))∧Below w.heap.size w wr
theorem pow_t{t:Nat}(h:t≤5):t=0∨t=1∨t=2∨t=3∨t=4∨t=5:=by omega
theorem cols_any(w:World):Calls Tryz.prog 258 #[] w fun e w'=>e= .returned (.agg (ints8 cpI).toArray)∧Below w.heap.size w w':=by
 obtain⟨W0,hW0⟩:∃ W0,W0=w.alloc (.cells (ints8 (colS 0 0)).toArray 316):=⟨_,rfl⟩
 obtain⟨B,hB⟩:∃ B,B=w.heap.size:=⟨_,rfl⟩
 have HW0:=Lib.hid (show w.alloc (.cells #[.int .i64 0,.int .i64 0,.int .i64 0,.int .i64 0,.int .i64 0,.int .i64 0,.int .i64 0,.int .i64 0,.int .i64 0,.int .i64 0,.int .i64 0,.int .i64 0,.int .i64 0,.int .i64 0,.int .i64 0,.int .i64 0,.int .i64 0,.int .i64 0,.int .i64 0,.int .i64 0,.int .i64 0,.int .i64 0,.int .i64 0,.int .i64 0,.int .i64 0,.int .i64 0,.int .i64 0,.int .i64 0,.int .i64 0,.int .i64 0,.int .i64 0,.int .i64 0] 316)=W0 by rw [hW0,show colS 0 0=List.replicate 32 0 by decide];rfl)
 have HK0:=Lib.hid (show Blk W0 B 316 (ints8 (colS 0 0)) by rw [hW0];exact Blk.new w _ 316 hB)
 have HB0:=Lib.hid (show Below w.heap.size w W0 by rw [hW0];exact bal (Below.refl _ w) _)
 have HBS:=Lib.hid (show w.heap.size≤B by rw [hB];exact Nat.le_refl _)
 have HBE:=Lib.hid hB
 clear hW0 hB
 go_enter Tryz.func258,Tryz.ntmps258
 go_wp2
 rw [HW0.out,← HBE.out]
 clear HW0
 go_loopw [3] (fun i wr=>CoI w B i wr) (fun i _=>32 - (intOf i).toNat)
 case atStart=>exact⟨0,by omega,rfl,HK0.out,HB0.out⟩
 case round =>
  obtain⟨k,hk,rfl,hKa,hBa⟩:=hrel
  have HKa:=Lib.hid hKa
  have HBa:=Lib.hid hBa
  clear hKa hBa HK0 HB0
  by_cases hlt:k<32
  · have hdk:decide ((k:Int)<32)=true:=by simp;omega
    go_wp2
    go_loopw [2] (fun b wr=>CbI w B k b wr) (fun b _=>64 - (intOf b).toNat)
    case atStart=>exact⟨0,by omega,rfl,HKa.out,HBa.out⟩
    case round =>
     obtain⟨t,ht,rfl,hKb,hBb⟩:=hrel
     have HKb:=Lib.hid hKb
     have HBb:=Lib.hid hBb
     clear hKb hBb HKa HBa
     rcases pow_t ht with rfl | rfl | rfl | rfl | rfl | rfl
     · rw [show ((2 ^ 0:Nat):Int)=1 from rfl]
       have hband:=band_k ⟨k,hlt⟩ ⟨0,by decide⟩
       simp only [show ((2 ^ 0:Nat):Int)=1 from rfl]at hband
       by_cases htb:k.testBit 0=true
       · rw [if_pos htb]at hband
         have hne:(bits .and .i64 (k:Int) 1 != 0)=true:=by rw [hband];rfl
         have hpl:=prt_lt k 0 (by decide)
         have HST:=Lib.hid (colS_set hlt htb)
         have hcl:=Blk.icell HKb.out (j:=k) (by rw [colS_len];exact hlt)
         rw [colS_gi _ _ _ hlt,show colV k 0 k=((prt k 0:Nat):Int) from by unfold colV;rw [if_neg (by omega),if_pos rfl]]at hcl
         have HKd:=Lib.hid (HKb.out.drew)
         have hpv:0≤((prt k 0:Nat):Int)∧((prt k 0:Nat):Int)≤31:=by omega
         generalize ((prt k 0:Nat):Int)=pv at *
         have HW:Hid (W8S B k pv wr.drew):=Lib.hid hcl
         have hfz:=HKd.out.frozen k
         have hw1:IntKind.i64.wrap 16=16:=by decide
         have hw2:IntKind.i64.wrap (pv+16)=pv+16:=by rw [IntKind.wrap_i64];omega
         have hix:=fun W=>ix143 B hlt .i64 W
         clear hband htb hcl hpl
         go_wp2_with fail
         refine wp_nopanic ?_
         refine P_start (W8S B k pv) 7 8 #[false,false,false,false,false,false,false,false] (by kernel_rfl) (by kernel_rfl) (by kernel_rfl) ?_
         refine P_takeW 0 14 (.int .i64 (k:Int)) #[true,false,false,false,false,false,false,false] rfl rfl (by kernel_rfl) (by kernel_rfl) (by kernel_rfl) (by kernel_rfl) (by decide) (fun _ _ _ h=>h) (Or.inl ⟨by rfl,fun W hS=>by go_simp⟩) HW.out ?_
         simp only [yq0,yq1,yq2]
         refine P_takeW 1 15 (.pointer (some ⟨B,k,none⟩)) #[true,true,false,false,false,false,false,false] rfl rfl (by kernel_rfl) (by kernel_rfl) (by kernel_rfl) (by kernel_rfl) (by decide) (fun _ _ _ h=>h) (Or.inl ⟨by rfl,fun W hS=>by go_simp⟩) HW.out ?_
         simp only [yq0,yq1,yq2]
         refine P_takeW 3 17 (.int .i64 1) #[true,true,false,true,false,false,false,false] rfl rfl (by kernel_rfl) (by kernel_rfl) (by kernel_rfl) (by kernel_rfl) (by decide) (fun _ _ _ h=>h) (Or.inl ⟨by rfl,fun W hS=>by go_simp⟩) HW.out ?_
         simp only [yq0,yq1,yq2]
         refine P_takeW 4 18 (.int .i64 16) #[true,true,false,true,true,false,false,false] rfl rfl (by kernel_rfl) (by kernel_rfl) (by kernel_rfl) (by kernel_rfl) (by decide) (fun _ _ _ h=>h) (Or.inl ⟨by rfl,fun W hS=>by go_simp⟩) HW.out ?_
         simp only [yq0,yq1,yq2]
         refine P_take 2 16 (.int .i64 pv) #[true,true,true,true,true,false,false,false] rfl rfl (by kernel_rfl) (by kernel_rfl) (by kernel_rfl) (by kernel_rfl) (by kernel_rfl) (by kernel_rfl) (by decide) (fun _ _ _ h=>h) (Or.inl ⟨by rfl,fun W hS=>by have s0:=hS;unfold W8S at s0;go_simp⟩) HW.out ?_
         simp only [yq0,yq1,yq2]
         refine P_takeW 5 19 (.int .i64 (pv+16)) #[true,true,true,true,true,true,false,false] rfl rfl (by kernel_rfl) (by kernel_rfl) (by kernel_rfl) (by kernel_rfl) (by decide) (fun _ _ _ h=>h) (Or.inl ⟨by rfl,fun W hS=>by go_simp⟩) HW.out ?_
         simp only [yq0,yq1,yq2]
         refine P_takeW 6 20 (.pointer (some ⟨B,k,none⟩)) #[true,true,true,true,true,true,true,false] rfl rfl (by kernel_rfl) (by kernel_rfl) (by kernel_rfl) (by kernel_rfl) (by decide) (fun _ _ _ h=>h) (Or.inl ⟨by rfl,fun W hS=>by go_simp⟩) HW.out ?_
         simp only [yq0,yq1,yq2]
         refine P_one 7 #[true,true,true,true,true,true,true,true] rfl (by kernel_rfl) (by kernel_rfl) rfl (by kernel_rfl) (fun K hK=>?_)
         have s0:=HW.out
         unfold W8S at s0
         go_simp
         refine hK _ _ ?_
         clear hK K
         refine P_done (by kernel_rfl) ?_ _
         refine noPanic_normal ?_
         go_wp2
         go_roundw
         case rel =>
          have h9:=HKd.out.set k (.int .i64 (pv+16))
          rw [show (ints8 (colS k 0)).set k (.int .i64 (pv+16))=ints8 (colS k (0+1)) from by rw [← HST.out];unfold ints8;rw [List.map_set];rfl]at h9
          exact⟨0+1,by decide,rfl,h9,(HBb.out.drew).setCell HBS.out _⟩
         case measure=>simp [intOf]
       · have htf:k.testBit 0=false:=by simpa using htb
         rw [if_neg htb]at hband
         have hne:(bits .and .i64 (k:Int) 1 != 0)=false:=by rw [hband];rfl
         have HST:=Lib.hid (colS_same htf)
         clear hband htb htf
         go_wp2
         go_roundw
         case rel=>exact⟨0+1,by decide,rfl,by rw [HST.out];exact HKb.out,HBb.out⟩
         case measure=>simp [intOf]
     · rw [show ((2 ^ 1:Nat):Int)=2 from rfl]
       have hband:=band_k ⟨k,hlt⟩ ⟨1,by decide⟩
       simp only [show ((2 ^ 1:Nat):Int)=2 from rfl]at hband
       by_cases htb:k.testBit 1=true
       · rw [if_pos htb]at hband
         have hne:(bits .and .i64 (k:Int) 2 != 0)=true:=by rw [hband];rfl
         have hpl:=prt_lt k 1 (by decide)
         have HST:=Lib.hid (colS_set hlt htb)
         have hcl:=Blk.icell HKb.out (j:=k) (by rw [colS_len];exact hlt)
         rw [colS_gi _ _ _ hlt,show colV k 1 k=((prt k 1:Nat):Int) from by unfold colV;rw [if_neg (by omega),if_pos rfl]]at hcl
         have HKd:=Lib.hid (HKb.out.drew)
         have hpv:0≤((prt k 1:Nat):Int)∧((prt k 1:Nat):Int)≤31:=by omega
         generalize ((prt k 1:Nat):Int)=pv at *
         have HW:Hid (W8S B k pv wr.drew):=Lib.hid hcl
         have hfz:=HKd.out.frozen k
         have hw1:IntKind.i64.wrap 8=8:=by decide
         have hw2:IntKind.i64.wrap (pv+8)=pv+8:=by rw [IntKind.wrap_i64];omega
         have hix:=fun W=>ix143 B hlt .i64 W
         clear hband htb hcl hpl
         go_wp2_with fail
         refine wp_nopanic ?_
         refine P_start (W8S B k pv) 7 8 #[false,false,false,false,false,false,false,false] (by kernel_rfl) (by kernel_rfl) (by kernel_rfl) ?_
         refine P_takeW 0 14 (.int .i64 (k:Int)) #[true,false,false,false,false,false,false,false] rfl rfl (by kernel_rfl) (by kernel_rfl) (by kernel_rfl) (by kernel_rfl) (by decide) (fun _ _ _ h=>h) (Or.inl ⟨by rfl,fun W hS=>by go_simp⟩) HW.out ?_
         simp only [yq0,yq1,yq2]
         refine P_takeW 1 15 (.pointer (some ⟨B,k,none⟩)) #[true,true,false,false,false,false,false,false] rfl rfl (by kernel_rfl) (by kernel_rfl) (by kernel_rfl) (by kernel_rfl) (by decide) (fun _ _ _ h=>h) (Or.inl ⟨by rfl,fun W hS=>by go_simp⟩) HW.out ?_
         simp only [yq0,yq1,yq2]
         refine P_takeW 3 17 (.int .i64 2) #[true,true,false,true,false,false,false,false] rfl rfl (by kernel_rfl) (by kernel_rfl) (by kernel_rfl) (by kernel_rfl) (by decide) (fun _ _ _ h=>h) (Or.inl ⟨by rfl,fun W hS=>by go_simp⟩) HW.out ?_
         simp only [yq0,yq1,yq2]
         refine P_takeW 4 18 (.int .i64 8) #[true,true,false,true,true,false,false,false] rfl rfl (by kernel_rfl) (by kernel_rfl) (by kernel_rfl) (by kernel_rfl) (by decide) (fun _ _ _ h=>h) (Or.inl ⟨by rfl,fun W hS=>by go_simp⟩) HW.out ?_
         simp only [yq0,yq1,yq2]
         refine P_take 2 16 (.int .i64 pv) #[true,true,true,true,true,false,false,false] rfl rfl (by kernel_rfl) (by kernel_rfl) (by kernel_rfl) (by kernel_rfl) (by kernel_rfl) (by kernel_rfl) (by decide) (fun _ _ _ h=>h) (Or.inl ⟨by rfl,fun W hS=>by have s0:=hS;unfold W8S at s0;go_simp⟩) HW.out ?_
         simp only [yq0,yq1,yq2]
         refine P_takeW 5 19 (.int .i64 (pv+8)) #[true,true,true,true,true,true,false,false] rfl rfl (by kernel_rfl) (by kernel_rfl) (by kernel_rfl) (by kernel_rfl) (by decide) (fun _ _ _ h=>h) (Or.inl ⟨by rfl,fun W hS=>by go_simp⟩) HW.out ?_
         simp only [yq0,yq1,yq2]
         refine P_takeW 6 20 (.pointer (some ⟨B,k,none⟩)) #[true,true,true,true,true,true,true,false] rfl rfl (by kernel_rfl) (by kernel_rfl) (by kernel_rfl) (by kernel_rfl) (by decide) (fun _ _ _ h=>h) (Or.inl ⟨by rfl,fun W hS=>by go_simp⟩) HW.out ?_
         simp only [yq0,yq1,yq2]
         refine P_one 7 #[true,true,true,true,true,true,true,true] rfl (by kernel_rfl) (by kernel_rfl) rfl (by kernel_rfl) (fun K hK=>?_)
         have s0:=HW.out
         unfold W8S at s0
         go_simp
         refine hK _ _ ?_
         clear hK K
         refine P_done (by kernel_rfl) ?_ _
         refine noPanic_normal ?_
         go_wp2
         go_roundw
         case rel =>
          have h9:=HKd.out.set k (.int .i64 (pv+8))
          rw [show (ints8 (colS k 1)).set k (.int .i64 (pv+8))=ints8 (colS k (1+1)) from by rw [← HST.out];unfold ints8;rw [List.map_set];rfl]at h9
          exact⟨1+1,by decide,rfl,h9,(HBb.out.drew).setCell HBS.out _⟩
         case measure=>simp [intOf]
       · have htf:k.testBit 1=false:=by simpa using htb
         rw [if_neg htb]at hband
         have hne:(bits .and .i64 (k:Int) 2 != 0)=false:=by rw [hband];rfl
         have HST:=Lib.hid (colS_same htf)
         clear hband htb htf
         go_wp2
         go_roundw
         case rel=>exact⟨1+1,by decide,rfl,by rw [HST.out];exact HKb.out,HBb.out⟩
         case measure=>simp [intOf]
     · rw [show ((2 ^ 2:Nat):Int)=4 from rfl]
       have hband:=band_k ⟨k,hlt⟩ ⟨2,by decide⟩
       simp only [show ((2 ^ 2:Nat):Int)=4 from rfl]at hband
       by_cases htb:k.testBit 2=true
       · rw [if_pos htb]at hband
         have hne:(bits .and .i64 (k:Int) 4 != 0)=true:=by rw [hband];rfl
         have hpl:=prt_lt k 2 (by decide)
         have HST:=Lib.hid (colS_set hlt htb)
         have hcl:=Blk.icell HKb.out (j:=k) (by rw [colS_len];exact hlt)
         rw [colS_gi _ _ _ hlt,show colV k 2 k=((prt k 2:Nat):Int) from by unfold colV;rw [if_neg (by omega),if_pos rfl]]at hcl
         have HKd:=Lib.hid (HKb.out.drew)
         have hpv:0≤((prt k 2:Nat):Int)∧((prt k 2:Nat):Int)≤31:=by omega
         generalize ((prt k 2:Nat):Int)=pv at *
         have HW:Hid (W8S B k pv wr.drew):=Lib.hid hcl
         have hfz:=HKd.out.frozen k
         have hw1:IntKind.i64.wrap 4=4:=by decide
         have hw2:IntKind.i64.wrap (pv+4)=pv+4:=by rw [IntKind.wrap_i64];omega
         have hix:=fun W=>ix143 B hlt .i64 W
         clear hband htb hcl hpl
         go_wp2_with fail
         refine wp_nopanic ?_
         refine P_start (W8S B k pv) 7 8 #[false,false,false,false,false,false,false,false] (by kernel_rfl) (by kernel_rfl) (by kernel_rfl) ?_
         refine P_takeW 0 14 (.int .i64 (k:Int)) #[true,false,false,false,false,false,false,false] rfl rfl (by kernel_rfl) (by kernel_rfl) (by kernel_rfl) (by kernel_rfl) (by decide) (fun _ _ _ h=>h) (Or.inl ⟨by rfl,fun W hS=>by go_simp⟩) HW.out ?_
         simp only [yq0,yq1,yq2]
         refine P_takeW 1 15 (.pointer (some ⟨B,k,none⟩)) #[true,true,false,false,false,false,false,false] rfl rfl (by kernel_rfl) (by kernel_rfl) (by kernel_rfl) (by kernel_rfl) (by decide) (fun _ _ _ h=>h) (Or.inl ⟨by rfl,fun W hS=>by go_simp⟩) HW.out ?_
         simp only [yq0,yq1,yq2]
         refine P_takeW 3 17 (.int .i64 4) #[true,true,false,true,false,false,false,false] rfl rfl (by kernel_rfl) (by kernel_rfl) (by kernel_rfl) (by kernel_rfl) (by decide) (fun _ _ _ h=>h) (Or.inl ⟨by rfl,fun W hS=>by go_simp⟩) HW.out ?_
         simp only [yq0,yq1,yq2]
         refine P_takeW 4 18 (.int .i64 4) #[true,true,false,true,true,false,false,false] rfl rfl (by kernel_rfl) (by kernel_rfl) (by kernel_rfl) (by kernel_rfl) (by decide) (fun _ _ _ h=>h) (Or.inl ⟨by rfl,fun W hS=>by go_simp⟩) HW.out ?_
         simp only [yq0,yq1,yq2]
         refine P_take 2 16 (.int .i64 pv) #[true,true,true,true,true,false,false,false] rfl rfl (by kernel_rfl) (by kernel_rfl) (by kernel_rfl) (by kernel_rfl) (by kernel_rfl) (by kernel_rfl) (by decide) (fun _ _ _ h=>h) (Or.inl ⟨by rfl,fun W hS=>by have s0:=hS;unfold W8S at s0;go_simp⟩) HW.out ?_
         simp only [yq0,yq1,yq2]
         refine P_takeW 5 19 (.int .i64 (pv+4)) #[true,true,true,true,true,true,false,false] rfl rfl (by kernel_rfl) (by kernel_rfl) (by kernel_rfl) (by kernel_rfl) (by decide) (fun _ _ _ h=>h) (Or.inl ⟨by rfl,fun W hS=>by go_simp⟩) HW.out ?_
         simp only [yq0,yq1,yq2]
         refine P_takeW 6 20 (.pointer (some ⟨B,k,none⟩)) #[true,true,true,true,true,true,true,false] rfl rfl (by kernel_rfl) (by kernel_rfl) (by kernel_rfl) (by kernel_rfl) (by decide) (fun _ _ _ h=>h) (Or.inl ⟨by rfl,fun W hS=>by go_simp⟩) HW.out ?_
         simp only [yq0,yq1,yq2]
         refine P_one 7 #[true,true,true,true,true,true,true,true] rfl (by kernel_rfl) (by kernel_rfl) rfl (by kernel_rfl) (fun K hK=>?_)
         have s0:=HW.out
         unfold W8S at s0
         go_simp
         refine hK _ _ ?_
         clear hK K
         refine P_done (by kernel_rfl) ?_ _
         refine noPanic_normal ?_
         go_wp2
         go_roundw
         case rel =>
          have h9:=HKd.out.set k (.int .i64 (pv+4))
          rw [show (ints8 (colS k 2)).set k (.int .i64 (pv+4))=ints8 (colS k (2+1)) from by rw [← HST.out];unfold ints8;rw [List.map_set];rfl]at h9
          exact⟨2+1,by decide,rfl,h9,(HBb.out.drew).setCell HBS.out _⟩
         case measure=>simp [intOf]
       · have htf:k.testBit 2=false:=by simpa using htb
         rw [if_neg htb]at hband
         have hne:(bits .and .i64 (k:Int) 4 != 0)=false:=by rw [hband];rfl
         have HST:=Lib.hid (colS_same htf)
         clear hband htb htf
         go_wp2
         go_roundw
         case rel=>exact⟨2+1,by decide,rfl,by rw [HST.out];exact HKb.out,HBb.out⟩
         case measure=>simp [intOf]
     · rw [show ((2 ^ 3:Nat):Int)=8 from rfl]
       have hband:=band_k ⟨k,hlt⟩ ⟨3,by decide⟩
       simp only [show ((2 ^ 3:Nat):Int)=8 from rfl]at hband
       by_cases htb:k.testBit 3=true
       · rw [if_pos htb]at hband
         have hne:(bits .and .i64 (k:Int) 8 != 0)=true:=by rw [hband];rfl
         have hpl:=prt_lt k 3 (by decide)
         have HST:=Lib.hid (colS_set hlt htb)
         have hcl:=Blk.icell HKb.out (j:=k) (by rw [colS_len];exact hlt)
         rw [colS_gi _ _ _ hlt,show colV k 3 k=((prt k 3:Nat):Int) from by unfold colV;rw [if_neg (by omega),if_pos rfl]]at hcl
         have HKd:=Lib.hid (HKb.out.drew)
         have hpv:0≤((prt k 3:Nat):Int)∧((prt k 3:Nat):Int)≤31:=by omega
         generalize ((prt k 3:Nat):Int)=pv at *
         have HW:Hid (W8S B k pv wr.drew):=Lib.hid hcl
         have hfz:=HKd.out.frozen k
         have hw1:IntKind.i64.wrap 2=2:=by decide
         have hw2:IntKind.i64.wrap (pv+2)=pv+2:=by rw [IntKind.wrap_i64];omega
         have hix:=fun W=>ix143 B hlt .i64 W
         clear hband htb hcl hpl
         go_wp2_with fail
         refine wp_nopanic ?_
         refine P_start (W8S B k pv) 7 8 #[false,false,false,false,false,false,false,false] (by kernel_rfl) (by kernel_rfl) (by kernel_rfl) ?_
         refine P_takeW 0 14 (.int .i64 (k:Int)) #[true,false,false,false,false,false,false,false] rfl rfl (by kernel_rfl) (by kernel_rfl) (by kernel_rfl) (by kernel_rfl) (by decide) (fun _ _ _ h=>h) (Or.inl ⟨by rfl,fun W hS=>by go_simp⟩) HW.out ?_
         simp only [yq0,yq1,yq2]
         refine P_takeW 1 15 (.pointer (some ⟨B,k,none⟩)) #[true,true,false,false,false,false,false,false] rfl rfl (by kernel_rfl) (by kernel_rfl) (by kernel_rfl) (by kernel_rfl) (by decide) (fun _ _ _ h=>h) (Or.inl ⟨by rfl,fun W hS=>by go_simp⟩) HW.out ?_
         simp only [yq0,yq1,yq2]
         refine P_takeW 3 17 (.int .i64 8) #[true,true,false,true,false,false,false,false] rfl rfl (by kernel_rfl) (by kernel_rfl) (by kernel_rfl) (by kernel_rfl) (by decide) (fun _ _ _ h=>h) (Or.inl ⟨by rfl,fun W hS=>by go_simp⟩) HW.out ?_
         simp only [yq0,yq1,yq2]
         refine P_takeW 4 18 (.int .i64 2) #[true,true,false,true,true,false,false,false] rfl rfl (by kernel_rfl) (by kernel_rfl) (by kernel_rfl) (by kernel_rfl) (by decide) (fun _ _ _ h=>h) (Or.inl ⟨by rfl,fun W hS=>by go_simp⟩) HW.out ?_
         simp only [yq0,yq1,yq2]
         refine P_take 2 16 (.int .i64 pv) #[true,true,true,true,true,false,false,false] rfl rfl (by kernel_rfl) (by kernel_rfl) (by kernel_rfl) (by kernel_rfl) (by kernel_rfl) (by kernel_rfl) (by decide) (fun _ _ _ h=>h) (Or.inl ⟨by rfl,fun W hS=>by have s0:=hS;unfold W8S at s0;go_simp⟩) HW.out ?_
         simp only [yq0,yq1,yq2]
         refine P_takeW 5 19 (.int .i64 (pv+2)) #[true,true,true,true,true,true,false,false] rfl rfl (by kernel_rfl) (by kernel_rfl) (by kernel_rfl) (by kernel_rfl) (by decide) (fun _ _ _ h=>h) (Or.inl ⟨by rfl,fun W hS=>by go_simp⟩) HW.out ?_
         simp only [yq0,yq1,yq2]
         refine P_takeW 6 20 (.pointer (some ⟨B,k,none⟩)) #[true,true,true,true,true,true,true,false] rfl rfl (by kernel_rfl) (by kernel_rfl) (by kernel_rfl) (by kernel_rfl) (by decide) (fun _ _ _ h=>h) (Or.inl ⟨by rfl,fun W hS=>by go_simp⟩) HW.out ?_
         simp only [yq0,yq1,yq2]
         refine P_one 7 #[true,true,true,true,true,true,true,true] rfl (by kernel_rfl) (by kernel_rfl) rfl (by kernel_rfl) (fun K hK=>?_)
         have s0:=HW.out
         unfold W8S at s0
         go_simp
         refine hK _ _ ?_
         clear hK K
         refine P_done (by kernel_rfl) ?_ _
         refine noPanic_normal ?_
         go_wp2
         go_roundw
         case rel =>
          have h9:=HKd.out.set k (.int .i64 (pv+2))
          rw [show (ints8 (colS k 3)).set k (.int .i64 (pv+2))=ints8 (colS k (3+1)) from by rw [← HST.out];unfold ints8;rw [List.map_set];rfl]at h9
          exact⟨3+1,by decide,rfl,h9,(HBb.out.drew).setCell HBS.out _⟩
         case measure=>simp [intOf]
       · have htf:k.testBit 3=false:=by simpa using htb
         rw [if_neg htb]at hband
         have hne:(bits .and .i64 (k:Int) 8 != 0)=false:=by rw [hband];rfl
         have HST:=Lib.hid (colS_same htf)
         clear hband htb htf
         go_wp2
         go_roundw
         case rel=>exact⟨3+1,by decide,rfl,by rw [HST.out];exact HKb.out,HBb.out⟩
         case measure=>simp [intOf]
     · rw [show ((2 ^ 4:Nat):Int)=16 from rfl]
       have hband:=band_k ⟨k,hlt⟩ ⟨4,by decide⟩
       simp only [show ((2 ^ 4:Nat):Int)=16 from rfl]at hband
       by_cases htb:k.testBit 4=true
       · rw [if_pos htb]at hband
         have hne:(bits .and .i64 (k:Int) 16 != 0)=true:=by rw [hband];rfl
         have hpl:=prt_lt k 4 (by decide)
         have HST:=Lib.hid (colS_set hlt htb)
         have hcl:=Blk.icell HKb.out (j:=k) (by rw [colS_len];exact hlt)
         rw [colS_gi _ _ _ hlt,show colV k 4 k=((prt k 4:Nat):Int) from by unfold colV;rw [if_neg (by omega),if_pos rfl]]at hcl
         have HKd:=Lib.hid (HKb.out.drew)
         have hpv:0≤((prt k 4:Nat):Int)∧((prt k 4:Nat):Int)≤31:=by omega
         generalize ((prt k 4:Nat):Int)=pv at *
         have HW:Hid (W8S B k pv wr.drew):=Lib.hid hcl
         have hfz:=HKd.out.frozen k
         have hw1:IntKind.i64.wrap 1=1:=by decide
         have hw2:IntKind.i64.wrap (pv+1)=pv+1:=by rw [IntKind.wrap_i64];omega
         have hix:=fun W=>ix143 B hlt .i64 W
         clear hband htb hcl hpl
         go_wp2_with fail
         refine wp_nopanic ?_
         refine P_start (W8S B k pv) 7 8 #[false,false,false,false,false,false,false,false] (by kernel_rfl) (by kernel_rfl) (by kernel_rfl) ?_
         refine P_takeW 0 14 (.int .i64 (k:Int)) #[true,false,false,false,false,false,false,false] rfl rfl (by kernel_rfl) (by kernel_rfl) (by kernel_rfl) (by kernel_rfl) (by decide) (fun _ _ _ h=>h) (Or.inl ⟨by rfl,fun W hS=>by go_simp⟩) HW.out ?_
         simp only [yq0,yq1,yq2]
         refine P_takeW 1 15 (.pointer (some ⟨B,k,none⟩)) #[true,true,false,false,false,false,false,false] rfl rfl (by kernel_rfl) (by kernel_rfl) (by kernel_rfl) (by kernel_rfl) (by decide) (fun _ _ _ h=>h) (Or.inl ⟨by rfl,fun W hS=>by go_simp⟩) HW.out ?_
         simp only [yq0,yq1,yq2]
         refine P_takeW 3 17 (.int .i64 16) #[true,true,false,true,false,false,false,false] rfl rfl (by kernel_rfl) (by kernel_rfl) (by kernel_rfl) (by kernel_rfl) (by decide) (fun _ _ _ h=>h) (Or.inl ⟨by rfl,fun W hS=>by go_simp⟩) HW.out ?_
         simp only [yq0,yq1,yq2]
         refine P_takeW 4 18 (.int .i64 1) #[true,true,false,true,true,false,false,false] rfl rfl (by kernel_rfl) (by kernel_rfl) (by kernel_rfl) (by kernel_rfl) (by decide) (fun _ _ _ h=>h) (Or.inl ⟨by rfl,fun W hS=>by go_simp⟩) HW.out ?_
         simp only [yq0,yq1,yq2]
         refine P_take 2 16 (.int .i64 pv) #[true,true,true,true,true,false,false,false] rfl rfl (by kernel_rfl) (by kernel_rfl) (by kernel_rfl) (by kernel_rfl) (by kernel_rfl) (by kernel_rfl) (by decide) (fun _ _ _ h=>h) (Or.inl ⟨by rfl,fun W hS=>by have s0:=hS;unfold W8S at s0;go_simp⟩) HW.out ?_
         simp only [yq0,yq1,yq2]
         refine P_takeW 5 19 (.int .i64 (pv+1)) #[true,true,true,true,true,true,false,false] rfl rfl (by kernel_rfl) (by kernel_rfl) (by kernel_rfl) (by kernel_rfl) (by decide) (fun _ _ _ h=>h) (Or.inl ⟨by rfl,fun W hS=>by go_simp⟩) HW.out ?_
         simp only [yq0,yq1,yq2]
         refine P_takeW 6 20 (.pointer (some ⟨B,k,none⟩)) #[true,true,true,true,true,true,true,false] rfl rfl (by kernel_rfl) (by kernel_rfl) (by kernel_rfl) (by kernel_rfl) (by decide) (fun _ _ _ h=>h) (Or.inl ⟨by rfl,fun W hS=>by go_simp⟩) HW.out ?_
         simp only [yq0,yq1,yq2]
         refine P_one 7 #[true,true,true,true,true,true,true,true] rfl (by kernel_rfl) (by kernel_rfl) rfl (by kernel_rfl) (fun K hK=>?_)
         have s0:=HW.out
         unfold W8S at s0
         go_simp
         refine hK _ _ ?_
         clear hK K
         refine P_done (by kernel_rfl) ?_ _
         refine noPanic_normal ?_
         go_wp2
         go_roundw
         case rel =>
          have h9:=HKd.out.set k (.int .i64 (pv+1))
          rw [show (ints8 (colS k 4)).set k (.int .i64 (pv+1))=ints8 (colS k (4+1)) from by rw [← HST.out];unfold ints8;rw [List.map_set];rfl]at h9
          exact⟨4+1,by decide,rfl,h9,(HBb.out.drew).setCell HBS.out _⟩
         case measure=>simp [intOf]
       · have htf:k.testBit 4=false:=by simpa using htb
         rw [if_neg htb]at hband
         have hne:(bits .and .i64 (k:Int) 16 != 0)=false:=by rw [hband];rfl
         have HST:=Lib.hid (colS_same htf)
         clear hband htb htf
         go_wp2
         go_roundw
         case rel=>exact⟨4+1,by decide,rfl,by rw [HST.out];exact HKb.out,HBb.out⟩
         case measure=>simp [intOf]
     · rw [show ((2 ^ 5:Nat):Int)=32 from rfl]
       have HNX:=Lib.hid (colS_next hlt)
       go_wp2
       go_roundw
       case rel=>exact⟨k+1,by omega,by go_num,by rw [← HNX.out];exact HKb.out,HBb.out⟩
       case measure=>simp [intOf];omega
  · obtain rfl:k=32:=by omega
    have hK9:Blk wr B 316 (ints8 cpI):=by have:=HKa.out;rwa [colS_all]at this
    clear HKa
    go_wp2_with (first
     | (refine ldrow (cs:=ints8 cpI) rfl 316 (.tmp 0) rfl rfl hK9 _ Tryz.underlying316 rfl info143 ?_)
     | (refine strow (cs:=ints8 cpI) rfl 316 (.tmp 0) (.tmp 22) rfl rfl rfl hK9 rfl info143 (ints8_one _) ?_;intro W2 h1 h2;have H1:=Lib.hid h1;have H2:=Lib.hid h2;clear h1 h2))
    refine bodyPost_ret (v:=.agg (ints8 cpI).toArray) ?_ rfl ⟨rfl,HBa.out.grown H2.out HBa.out.size (fun k hk=>by cases hk;exact HBS.out)⟩
    have l1:=res143 H1.out rfl
    rw [results_c rfl]
    simp [Act.put,asAddr,l1,Sem.run_pure,Result.andThen]
end Go.Proofs.YtkdfefpnhaebfaaGreat.Cr
