/- Bundle. Conditions: none. -/
import Derived.Test.YtkdfefpnhaebfaaGreatBwoaj
import Derived.Great.BuildSlice
set_option linter.unusedVariables false
set_option linter.unusedSimpArgs false
namespace Go.Proofs.YtkdfefpnhaebfaaGreat
open Go.RowKit
structure Mx (W:World) (base bg cap:Nat) (ms:List (List Int)):Prop where
 ow:W.ownsRow base 275 8 (.slice (some ⟨bg,0,none⟩) ms.length cap) ms.length (ms.flatMap ints8)
 l8:∀ m ∈ ms,m.length=8
theorem flat8:∀ (ms:List (List Int)) (h:∀ m ∈ ms,m.length=8) (j q:Nat) (m:List Int),ms[j]?=some m→q<8→(ms.flatMap ints8)[8*j+q]?=(ints8 m)[q]?
 | [],h,j,q,m,hm,hq=>by simp at hm
 | x :: ms,h,0,q,m,hm,hq=>by
   simp at hm;subst hm
   have hx:(ints8 x).length=8:=by simp [ints8,h x (by simp)]
   rw [List.flatMap_cons,List.getElem?_append_left (by omega),Nat.mul_zero,Nat.zero_add]
 | x :: ms,h,j+1,q,m,hm,hq=>by
   have hx:(ints8 x).length=8:=by simp [ints8,h x (by simp)]
   rw [List.flatMap_cons,List.getElem?_append_right (by omega),hx,show 8*(j+1)+q - 8=8*j+q from by omega]
   exact flat8 ms (fun m' hm'=>h m' (by simp [hm'])) j q m (by simpa using hm) hq
section
variable {W W' : World} {base bg cap : Nat} {ms : List (List Int)}
theorem Mx.blk(h:Mx W base bg cap ms):∃ cur,W.heap[bg]?=some (.cells cur 275 (0,0))∧base≤bg∧ms.length≤cap∧cap≤maxLen∧cur.size=cap*8∧cur.toList.take (ms.length*8)=ms.flatMap ints8:=by
 obtain⟨h1,h2⟩:=h.ow
 rcases h2 with⟨h2,h3⟩ | ⟨g,cap',cur,h2,h3,h4,h5,h6,h7,h8⟩
 · simp at h2
 · simp only [Value.slice.injEq,Option.some.injEq,Addr.mk.injEq,true_and,and_true]at h2
   obtain⟨rfl,rfl⟩:=h2
   exact⟨cur,h4,h3,h5,h6,h7,h8⟩
theorem Mx.lt(h:Mx W base bg cap ms):bg<W.heap.size:=by
 obtain⟨cur,h1,-⟩:=h.blk
 exact heap_lt' h1
theorem Mx.ge(h:Mx W base bg cap ms):base≤bg:=by
 obtain⟨cur,h1,h2,-⟩:=h.blk
 exact h2
theorem Mx.keep(h:Mx W base bg cap ms)(hk:W'.heap[bg]?=W.heap[bg]?):Mx W' base bg cap ms:=by
 obtain⟨cur,h1,h2,h3,h4,h5,h6⟩:=h.blk
 exact⟨⟨h.ow.1,.inr ⟨bg,cap,cur,rfl,h2,hk.trans h1,h3,h4,h5,h6⟩⟩,h.l8⟩
theorem Mx.below(h:Mx W base bg cap ms)(hB:Below W.heap.size W W'):Mx W' base bg cap ms:=h.keep (hB.block bg h.lt)
theorem Mx.alloc(h:Mx W base bg cap ms)(o:Obj):Mx (W.alloc o) base bg cap ms:=h.keep (heap_alloc_old (h:=h.lt) ..)
theorem Mx.grown(h:Mx W base bg cap ms){row:Option Nat}(hg:W.grownBy W' row)(hne:some bg≠row):Mx W' base bg cap ms:=h.keep (hg.block bg h.lt hne)
theorem Mx.row(h:Mx W base bg cap ms){j:Nat}{m:List Int}(hj:ms[j]?=some m):W.rangeAt bg (8*j) (ints8 m):=fun q v hv=>by
 obtain⟨cur,h1,h2,h3,h4,h5,h6⟩:=h.blk
 have hm:m.length=8:=h.l8 m (List.mem_of_getElem? hj)
 have hq:q<8:=by have:=(List.getElem?_eq_some_iff.1 hv).1;simpa [ints8,hm] using this
 have hjl:j<ms.length:=(List.getElem?_eq_some_iff.1 hj).1
 rw [cell_of_row W bg _ cur 275 (0,0) h1]
 have h7:=flat8 ms h.l8 j q m hj hq
 rw [← h6,List.getElem?_take,if_pos (by omega),hv]at h7
 simpa using h7
theorem Mx.new(m:List Int)(hm:m.length=8)(hb:base≤W.heap.size){N:Nat}(hN:N=W.heap.size):Mx (W.alloc (.cells (ints8 m).toArray 275)) base N 1 [m]:=by
 subst hN
 have h:=World.ownsRow_lit (base:=base) (e:=275) (size:=8) W (ints8 m).toArray 1 hb (by unfold maxLen;omega) (by simp [ints8,hm])
 exact⟨by simpa using h,by simpa using hm⟩
theorem info66b:(Tryz.prog.info? 275).map (fun i=>(i.zero,i.size,i.bytes))=some (some (.agg (ints8 (List.replicate 8 0)).toArray),8,64):=by kernel_rfl
theorem wp_appM{o:Oper}{a:Act}{K:Act→World→Prop}{Q:Exit→Act→World→Prop}(s x:Operand)(m:List Int)(hm:m.length=8)
 (ho:o.op= .call {callee:=.builtin .append,args:=#[s,x],argTypes:=#[277,277]}) (hs:a.eval s= .slice (some ⟨bg,0,none⟩) ms.length cap) (hx:a.eval x= .slice (some ⟨W.heap.size,0,none⟩) 1 1)
 (hO:Mx W base bg cap ms) (hn:ms.length<1000000) (hbase:base≤W.heap.size)
 (h:∀ bg' cap' w',Mx w' base bg' cap' (ms ++ [m])→W.grownBy w' (some bg)→K (a.put o.dst (.slice (some ⟨bg',0,none⟩) (ms.length+1) cap')) w'):o.wp Tryz.prog a (W.alloc (.cells (ints8 m).toArray 275)) K Q:=by
 obtain⟨i,hi,hz0,hz1,hz2⟩:=info_parts info66b
 have hl:(ints8 m).length=8:=by simp [ints8,hm]
 obtain⟨v',w',hr,h2,h3,h4⟩:=run_append_own (P:=Tryz.prog) (W.alloc (.cells (ints8 m).toArray 275)) base 277 o.type 275 i _ 8 64 Tryz.underlying277 hi hz0 hz1 hz2 (by rfl) (by decide) _ ms.length _ (hO.alloc _).ow ⟨W.heap.size,0,none⟩ 1 1 (ints8 m) (by simp [hl])
  (fun j u hj=>by
    rw [add_lit,cell_of_row _ W.heap.size _ _ _ (0,0) (heap_alloc_new _ _)]
    simpa using hj) (ints8_one m) (by unfold maxLen;omega) (by omega) (by simp;omega)
 rcases h2.2 with⟨h5,h6⟩ | ⟨g,cap',cur,h5,_⟩
 · omega
 · rw [h5]at hr h2
   have h6:Mx w' base g cap' (ms ++ [m]):=⟨by simpa [List.flatMap_append] using h2,fun m' hm'=>by
    rw [List.mem_append]at hm'
    rcases hm' with hm' | hm'
    · exact hO.l8 m' hm'
    · simp at hm';subst hm';exact hm⟩
   unfold Oper.wp
   simp only [execOp,ho,resolve,invoke,builtin,Sem.run_bind,Sem.run_pure,Result.andThen_ok,List.map_toArray,List.map_cons,List.map_nil,hs,hx,hr]
   exact h g cap' w' h6 (grownBy_of_alloc h3)
end
theorem ix68(g n c:Nat){j:Nat}(hj:j<n)(kd:IntKind)(W:World):(Instr.indexAt 277 (.slice (some ⟨g,0,none⟩) n c) (.int kd (j:Int))).run Tryz.prog W= .ok (.pointer (some ⟨g,8*j,none⟩)) W:=by
 have h1:(0:Int)≤(j:Int)∧(j:Int)<(n:Int):=by omega
 have hs:(sizeOf 275).run Tryz.prog W= .ok 8 W:=by kernel_rfl
 simp only [Instr.indexAt,Sem.run_bind,run_underlying Tryz.underlying277,Result.andThen_ok,asIntOf,Sem.run_pure,if_pos h1,hs,Int.toNat_natCast]
 rw [add_lit,Nat.zero_add,Nat.mul_comm]
theorem run_bs68(m:List Int)(hm:m.length=8)(W:World):(Instr.buildSlice 277 1 #[(0,.agg (ints8 m).toArray)]).run Tryz.prog W= .ok (.slice (some ⟨W.heap.size,0,none⟩) 1 1) (W.alloc (.cells (ints8 m).toArray 275)):=by
 obtain⟨i,hi,hz0,hz1,hz2⟩:=info_parts info66b
 match m,hm with
 | [a,b,c,d,e,f,g,h],_ =>
   refine run_buildSlice (P:=Tryz.prog) W 277 275 1 _ _ i _ Tryz.underlying277 hi hz0 (by rw [hz1];decide) (by rw [hz1];decide) ?_
   rw [hz1]
   first
    | kernel_rfl
    | (simp [Instr.fill,Value.cells,ints8,List.zipIdx,List.range,List.range.loop,Array.range];done)
theorem wpo_bs{o:Oper}{a:Act}{W:World}{K:Act→World→Prop}{Q:Exit→Act→World→Prop}(x:Operand)(m:List Int)(hm:m.length=8)(ho:o.op= .buildSlice 277 1 #[(0,x)])(hx:a.eval x= .agg (ints8 m).toArray)
 (h:K (a.put o.dst (.slice (some ⟨W.heap.size,0,none⟩) 1 1)) (W.alloc (.cells (ints8 m).toArray 275))):o.wp Tryz.prog a W K Q:=by
 unfold Oper.wp
 have hp:(#[(0,x)]:Array (Nat × Operand)).map (fun(i,x)=>(i,a.eval x))=#[(0,.agg (ints8 m).toArray)]:=by simp [hx]
 simp only [execOp,ho,hp,run_bs68 m hm,Sem.run_bind,Sem.run_pure,Result.andThen_ok]
 exact h
theorem wpM_bs{ops:Array Oper}{rest:List Oper}{o:Oper}{a:Act}{W:World}{Q:Exit→Act→World→Prop}(hgd:o.guard=none)(x:Operand)(m:List Int)(hm:m.length=8)(ho:o.op= .buildSlice 277 1 #[(0,x)])(hx:a.eval x= .agg (ints8 m).toArray)
 (h:wpList Tryz.prog ops Q rest (a.put o.dst (.slice (some ⟨W.heap.size,0,none⟩) 1 1)) (W.alloc (.cells (ints8 m).toArray 275))):wpList Tryz.prog ops Q (o :: rest) a W :=
 wpList_plain hgd fun K hK=>wpo_bs x m hm ho hx (hK _ _ h)
attribute [local go_sem] Oper.semAt_some
theorem infoPr:(Tryz.prog.info? 72).map (·.size)=some 5:=by kernel_rfl
theorem infoBk:(Tryz.prog.info? 103).map (·.size)=some 3:=by kernel_rfl
theorem infoCf:(Tryz.prog.info? 36).map (·.size)=some 5:=by kernel_rfl
structure PrP (W:World) (base P:Nat) (half st sz lm:Int) (A:Option Addr) (n c:Nat):Prop where
 p:Blk W P 72 [.int .i64 half,.int .i64 st,.int .i64 sz,.int .i64 lm,.slice A n c]
 d:base≤P
theorem PrP.below{W W':World}{base P:Nat}{half st sz lm:Int}{A:Option Addr}{n c:Nat}(h:PrP W base P half st sz lm A n c)(hB:Below W.heap.size W W'):PrP W' base P half st sz lm A n c:=⟨h.p.below hB,h.d⟩
theorem hnew_ok(half:Int)(w:World)(h:1≤half∧half≤64):Calls Tryz.prog 10 #[.int .i64 half] w fun e w'=>∃ P,e= .returned (.tuple #[.pointer (some ⟨P,0,none⟩),.int .i64 0])∧PrP w' w.heap.size P half 0 0 0 none 0 0∧Below w.heap.size w w':=by
 have HX:=Lib.hid (Blk.new w [.int .i64 half,.int .i64 0,.int .i64 0,.int .i64 0,.slice none 0 0] 72 rfl)
 obtain⟨h1,h2⟩:=h
 go_enter Tryz.func10,Tryz.ntmps10
 go_wp2
 go_ret2
 exact⟨w.heap.size,rfl,⟨HX.out,Nat.le_refl _⟩,bal (Below.refl _ w) _⟩
section
variable {W : World} {base P : Nat} {half st sz lm : Int} {A : Option Addr} {n c : Nat}
theorem pnone_any(h:PrP W base P half st sz lm A n c)(h0:half≠0):Calls Tryz.prog 40 #[.pointer (some ⟨P,0,none⟩)] W fun e w'=>e= .returned (.bool false)∧W=w':=by
 have c0:=h.p.cell (j:=0) (v:=.int .i64 half) rfl
 have q0:(half == 0)=false:=beq_f h0
 clear h h0
 go_enter Tryz.func40,Tryz.ntmps40
 go_wp2
 go_ret
 exact⟨rfl,rfl⟩
theorem pstate_any(h:PrP W base P half st sz lm A n c)(h0:half≠0):Calls Tryz.prog 17 #[.pointer (some ⟨P,0,none⟩)] W fun e w'=>e= .returned (.int .i64 st)∧W=w':=by
 have c1:=h.p.cell (j:=1) (v:=.int .i64 st) rfl
 have HN:=Lib.hid (pnone_any h h0)
 clear h h0
 go_enter Tryz.func17,Tryz.ntmps17
 go_wp2_with fail
 refine HN.out.mono ?_
 rintro e w1 ⟨rfl,rfl⟩
 go_wp2
 go_ret
 exact⟨rfl,rfl⟩
theorem pkind_any(h:PrP W base P half st sz lm A 1 c):Calls Tryz.prog 75 #[.pointer (some ⟨P,0,none⟩)] W fun e w'=>e= .returned (.int .i64 1)∧W=w':=by
 have c4:=h.p.cell (j:=4) (v:=.slice A 1 c) rfl
 clear h
 go_enter Tryz.func75,Tryz.ntmps75
 go_wp2
 go_ret
 exact⟨rfl,rfl⟩
end
theorem hreset_any{W:World}{base P:Nat}{half st sz lm:Int}{A:Option Addr}{n c:Nat}(h:PrP W base P half st sz lm A n c)(h0:half≠0)(hb:base≤W.heap.size):Calls Tryz.prog 23 #[.pointer (some ⟨P,0,none⟩)] W fun e w'=>e= .returned (.int .i64 0)∧PrP w' base P half 0 0 0 none 0 0∧Below base W w'∧(∀ q,q<W.heap.size→q≠P→w'.heap[q]?=W.heap[q]?):=by
 have c0:=h.p.cell (j:=0) (v:=.int .i64 half) rfl
 have HN:=Lib.hid (pnone_any h h0)
 have hp:=h.p
 have HD:=Lib.hid h.d
 have HBS:=Lib.hid hb
 clear h0 h hb
 go_enter Tryz.func23,Tryz.ntmps23
 go_wp2_with fail
 refine HN.out.mono ?_
 rintro e w1 ⟨rfl,rfl⟩
 go_wp2_with (refine strow (cs:=[.int .i64 half,.int .i64 0,.int .i64 0,.int .i64 0,.slice none 0 0]) rfl 72 (.tmp 11) (.tmp 10) rfl rfl rfl hp rfl (by rw [infoPr];rfl) (by simp [Value.oneCell']) ?_
              intro W' h1 h2
              have H1:=Lib.hid h1
              have H2:=Lib.hid h2
              clear h1 h2 hp)
 go_ret
 exact⟨rfl,⟨H1.out,HD.out⟩,(Below.refl _ W).mono HBS.out |>.grown H2.out HBS.out (fun k e=>by cases e;exact HD.out),fun q hq hp=>H2.out.block q hq (fun e=>hp (Option.some.inj e))⟩
theorem el28:El Tryz.prog 28 5 (.int .u8 0) 1:=⟨by kernel_rfl,by kernel_rfl,fun _=>by kernel_rfl,rfl⟩
theorem decoded_any(p:Value)(need:Int)(R:Option Addr)(r rc:Nat)(w:World):Calls Tryz.prog 47 #[.agg #[p,.int .i64 need,.slice R r rc]] w fun e w'=>e= .returned (.bool R.isSome)∧Below w.heap.size w w':=by
 cases R with
 | none =>
   have e1:=fun W=>Lib.run_eql_slice_nil (P:=Tryz.prog) W 28 5 none r rc 0 0 el28.u
   go_enter Tryz.func47,Tryz.ntmps47
   go_wp2
   go_ret
   exact⟨rfl,bal (Below.refl _ w) _⟩
 | some a =>
   have e1:=fun W=>Lib.run_eql_slice_nil (P:=Tryz.prog) W 28 5 (some a) r rc 0 0 el28.u
   go_enter Tryz.func47,Tryz.ntmps47
   go_wp2
   go_ret
   exact⟨rfl,bal (Below.refl _ w) _⟩
theorem all1_any(FB:Nat)(p:Value)(need:Int)(R:Option Addr)(r rc:Nat)(w:World)(hf:Blk w FB 138 [.func (.func 47) #[] #[]]) :
 Calls Tryz.prog 126 #[.agg #[p,.int .i64 need,.slice R r rc],.pointer (some ⟨FB,0,none⟩)] w fun e w'=>e= .returned (.bool (!R.isSome))∧Below w.heap.size w w':=by
 have cf:=(hf.alloc (.cells #[p,.int .i64 need,.slice R r rc] 103)).cell (j:=0) (v:=.func (.func 47) #[] #[]) rfl
 have HD:=Lib.hid (fun W=>decoded_any p need R r rc W)
 have HX:=Lib.hid (Blk.new w [p,.int .i64 need,.slice R r rc] 103 rfl)
 have hX:=HX.out
 generalize R.isSome=b at *
 clear hf
 go_enter Tryz.func126,Tryz.ntmps126
 go_wp2_with (refine ldrow (cs:=[p,.int .i64 need,.slice R r rc]) rfl 103 (.tmp 2) rfl rfl hX _ Tryz.underlying103 rfl (by rw [infoBk];rfl) ?_)
 refine(HD.out _).mono ?_
 rintro e w2 ⟨rfl,hB⟩
 have HB:=Lib.hid (Below.trans (bal (Below.refl w.heap.size w) (.cells #[p,.int .i64 need,.slice R r rc] 103)) (hB.mono (by simp)))
 clear hB hX
 go_wp2
 go_ret
 exact⟨rfl,HB.out⟩
theorem ixKn(g n c:Nat){j:Nat}(hj:j<n)(kd:IntKind)(W:World):(Instr.indexAt 70 (.slice (some ⟨g,0,none⟩) n c) (.int kd (j:Int))).run Tryz.prog W= .ok (.pointer (some ⟨g,3*j,none⟩)) W:=by
 have h1:(0:Int)≤(j:Int)∧(j:Int)<(n:Int):=by omega
 have hs:(sizeOf 103).run Tryz.prog W= .ok 3 W:=by kernel_rfl
 simp only [Instr.indexAt,Sem.run_bind,run_underlying Tryz.underlying70,Result.andThen_ok,asIntOf,Sem.run_pure,if_pos h1,hs,Int.toNat_natCast]
 rw [add_lit,Nat.zero_add,Nat.mul_comm]
theorem ixK(G c:Nat)(W:World):(Instr.indexAt 70 (.slice (some ⟨G,0,none⟩) 1 c) (.int .i64 0)).run Tryz.prog W= .ok (.pointer (some ⟨G,0,none⟩)) W:=ixKn G 1 c (j:=0) (by omega) .i64 W
section
variable {ops : Array Oper} {rest : List Oper} {op : Oper} {a : Act} {w : World} {Q : Exit → Act → World → Prop} {b : Nat} {t : TypeId} {cs suf : List Value}
theorem ldpre(hgd:op.guard=none)(ty:TypeId)(x:Operand)(ho:op.op= .load ty x)(hx:a.eval x= .pointer (some ⟨b,0,none⟩))(hB:Blk w b t (cs ++ suf))(d:TypeDesc)(hu:Tryz.prog.underlying ty=some d)(hd:d.isRow=true)(hi:(Tryz.prog.info? ty).map (·.size)=some cs.length)
 (h:wpList Tryz.prog ops Q rest (a.put op.dst (.agg cs.toArray)) w):wpList Tryz.prog ops Q (op :: rest) a w :=
 wpList_plain hgd fun _ hK=>wp_load_mid ty x ho b 0 hx cs d (fun j v hj=>by
  rw [Nat.zero_add]
  exact hB.cell (by rw [List.getElem?_append_left (List.getElem?_eq_some_iff.1 hj).1];exact hj)) hu hd hi (hK _ _ h)
end
set_option maxRecDepth 100000
section
variable {w : World} {G cap : Nat} {p : Value} {need : Int} {R : Option Addr} {r rc : Nat} {rest : List Value}
theorem idxK_any(FB:Nat)(hf:Blk w FB 138 [.func (.func 47) #[] #[]])(hg:Blk w G 103 (p :: .int .i64 need :: .slice R r rc :: rest)) :
 Calls Tryz.prog 180 #[.slice (some ⟨G,0,none⟩) 1 cap,.func (.func 126) #[] #[.pointer (some ⟨FB,0,none⟩)]] w fun e w'=>e= .returned (.int .i64 (if R.isSome=true then -1 else 0))∧Below w.heap.size w w':=by
 have HA:=Lib.hid (all1_any FB p need R r rc w hf)
 have hix:=fun W=>ixK G cap W
 have hG:Blk w G 103 ([p,.int .i64 need,.slice R r rc] ++ rest):=hg
 clear hf hg
 cases hb:R.isSome<;>rw [hb]at HA<;>(
  clear hb
  go_enter Tryz.func180,Tryz.ntmps180
  go_wp2_with fail
  refine wp_loop_rounds 3 ?_
  rw [rounds_succ]
  go_wp2_with (refine ldpre (cs:=[p,.int .i64 need,.slice R r rc]) rfl 103 (.tmp 14) rfl rfl hG _ Tryz.underlying103 rfl (by rw [infoBk];rfl) ?_)
  refine HA.out.mono ?_
  rintro e w1 ⟨rfl,hB⟩
  have HB:=Lib.hid hB
  clear hB hG
  first
   | (go_wp2
      go_ret
      exact⟨rfl,HB.out⟩)
   | (go_wp2_with fail
      rw [rounds_succ]
      go_wp2
      go_ret
      exact⟨rfl,HB.out⟩))
theorem allK_any(hg:Blk w G 103 (p :: .int .i64 need :: .slice R r rc :: rest)) :
 Calls Tryz.prog 76 #[.slice (some ⟨G,0,none⟩) 1 cap,.func (.func 47) #[] #[]] w fun e w'=>e= .returned (.bool R.isSome)∧Below w.heap.size w w':=by
 have HF:=Lib.hid (Blk.new w [.func (.func 47) #[] #[]] 138 rfl)
 have HB0:=Lib.hid (bal (Below.refl w.heap.size w) (.cells #[.func (.func 47) #[] #[]] 138))
 have HC:Hid (Calls Tryz.prog 125 #[.slice (some ⟨G,0,none⟩) 1 cap,.func (.func 126) #[] #[.pointer (some ⟨w.heap.size,0,none⟩)]] (w.alloc (.cells #[.func (.func 47) #[] #[]] 138)) fun e w'=>e= .returned (.bool (!R.isSome))∧Below w.heap.size w w'):=Lib.hid (by
  have HI:=Lib.hid (idxK_any (cap:=cap) w.heap.size HF.out (hg.alloc (.cells #[.func (.func 47) #[] #[]] 138)))
  generalize w.alloc (.cells #[.func (.func 47) #[] #[]] 138)=w1 at *
  cases hb:R.isSome<;>rw [hb]at HI<;>(
   clear hb
   go_enter Tryz.func125,Tryz.ntmps125
   go_wp2_with fail
   refine HI.out.mono ?_
   rintro e w2 ⟨rfl,hB⟩
   have HB:=Lib.hid (HB0.out.trans (hB.mono HB0.out.size))
   clear hB
   go_wp2
   go_ret
   exact⟨rfl,HB.out⟩))
 generalize R.isSome=b at *
 have hmf:∀ (fn:Fn) (first cap:Array Value) (w:World),(Instr.makeFunc fn first cap).run Tryz.prog w= .ok (.func fn first cap) w:=fun _ _ _ _=>rfl
 clear hg
 go_enter Tryz.func76,Tryz.ntmps76
 go_wp2_with fail
 refine HC.out.mono ?_
 rintro e w2 ⟨rfl,hB⟩
 have HB:=Lib.hid hB
 clear hB
 go_wp2
 go_ret
 exact⟨ret_bool (by simp),HB.out⟩
end
end Go.Proofs.YtkdfefpnhaebfaaGreat
namespace Go.Proofs.YtkdfefpnhaebfaaGreat
open Go.RowKit
theorem info28:(Tryz.prog.info? 229).map (·.size)=some 3:=by kernel_rfl
theorem res28{W:World}{b:Nat}{cs:List Value}(h:Blk W b 229 cs)(hl:cs.length=3):(loadVar 229 ⟨b,0,none⟩).run Tryz.prog W= .ok (.agg cs.toArray) W :=
 run_loadVar_row (P:=Tryz.prog) W b 229 229 _ (0,0) _ h Tryz.underlying229 rfl (by rw [info28];simp [hl])
theorem results12{W:World}{b:Nat}{cs:List Value}{a:Array Value}{E:Int}(h:Blk W b 229 cs)(hl:cs.length=3)(h2:a.getD 6 undef= .pointer (some ⟨b,0,none⟩))(h3:a.getD 7 undef= .int .i64 E) :
 (results Tryz.f171 a).run Tryz.prog W= .ok (.tuple #[.agg cs.toArray,.int .i64 E]) W:=by
 rw [results_cell_tmp rfl,h2,h3]
 simp [asAddr,res28 h hl,Sem.run_pure]
def zero28:List Value:=[.slice none 0 0,.slice none 0 0,.slice none 0 0]
instance (o:Ob):Decidable o.lens:=by unfold Ob.lens;infer_instance
section
variable {P : Program} {ops : Array Oper} {Q : Exit → Act → World → Prop} {md : Region.Mode} {S : World → Prop} {p : Nat}
def wpAnyP(P:Program)(md:Region.Mode)(ops:Array Oper)(Q:Exit→Act→World→Prop)(S:World→Prop)(p:Nat):Nat→Array Bool→Act→World→Prop
 | 0,listed,a,w=>Region.ready md ops listed=[]∧Q .normal a w
 | fuel+1,listed,a,w=>(Region.ready md ops listed=[]→Q .normal a w) ∧
   ∀ i ∈ Region.ready md ops listed,wpOp P ops Q i (fun a' w'=>((listed.setIfInBounds i true).getD p true=false→S w')∧wpAnyP P md ops Q S p fuel (listed.setIfInBounds i true) a' w') a w
theorem wpAny_of_P:∀ (fuel:Nat) (listed:Array Bool) (a:Act) (w:World),wpAnyP P md ops Q S p fuel listed a w→wpAny P md ops Q fuel listed a w
 | 0,_,_,_,h=>h
 | fuel+1,_,_,_,h=>⟨h.1,fun i hi=>wpOp_mono (fun a' w' h'=>wpAny_of_P fuel _ a' w' h'.2) (h.2 i hi)⟩
theorem getD_unset{listed:Array Bool}{i p:Nat}(h:(listed.setIfInBounds i true).getD p true=false):listed.getD p true=false:=by
 by_cases hip:i=p
 · subst hip
   by_cases hi:i<listed.size
   · simp [Array.getD,hi]at h
   · simp [Array.getD,hi]at h
 · rwa [getD_set_ne true hip]at h
theorem wpAnyP_first{T:World→Prop}{needs:Prop}{i:Nat}{oi:Oper}{v:Value}(hi:ops[i]?=some oi)(hsel:∀ (j:Nat) (o:Oper) cs b,ops[j]?=some o→o.op≠.select cs b)
 (hQ:∀ c a w,Q (.panic c) (a.put oi.dst v) w→Q (.panic c) a w) (hT:∀ w,(needs→S w)→T w) (hw:needs→Region.waitsFor md ops p i=true) (hip:p≠i) :
 ∀ (fuel:Nat) (listed:Array Bool) (a:Act) (w:World),
  (∀ j oj,ops[j]?=some oj→j≠i→listed.getD j true=false→(∀ e ∈ oj.after,Region.binds md e=true→e.on≠i)→oi.apart ops oj=true) →
  i ∈ Region.ready md ops listed→YieldsIf P ops T oi v a→(needs→listed.getD p true=false)→(listed.getD p true=false→S w) →
  wpAnyP P md ops Q S p fuel (listed.setIfInBounds i true) (a.put oi.dst v) w→wpAnyP P md ops Q S p (fuel+1) listed a w:=by
 intro fuel
 induction fuel with
 | zero =>
   intro listed a w _ hr hy hp hS H
   refine⟨fun h=>(by rw [h]at hr;cases hr),fun j hj=>?_⟩
   by_cases hji:j=i
   · subst hji;exact hy.wpOp hi (hT w fun n=>hS (hp n)) ⟨fun h=>hS (getD_unset h),H⟩
   · have:=ready_mono hj hji
     rw [H.1]at this
     cases this
 | succ fuel ih =>
   intro listed a w hfree hr hy hp hS H
   refine⟨fun h=>(by rw [h]at hr;cases hr),fun j hj=>?_⟩
   by_cases hji:j=i
   · subst hji;exact hy.wpOp hi (hT w fun n=>hS (hp n)) ⟨fun h=>hS (getD_unset h),H⟩
   · have hun:=(mem_ready.1 hr).1
     have h1:=H.2 j (ready_mono hj hji)
     obtain⟨hjun,oj,hoj,hall⟩:=mem_ready.1 hj
     have hnot:∀ e ∈ oj.after,Region.binds md e=true→e.on≠i:=fun e he hb heq=>by
      have h9:=hall e he hb
      rw [heq,getD_both hun]at h9
      cases h9
     have h2:=wpOp_putIf hoj (hfree j oj hoj hji hjun hnot) (fun cs b=>hsel i oi cs b hi) (fun cs b=>hsel j oj cs b hoj) hQ hy h1
     have hfree':∀ k ok,ops[k]?=some ok→k≠i→(listed.setIfInBounds j true).getD k true=false →
      (∀ e ∈ ok.after,Region.binds md e=true→e.on≠i)→oi.apart ops ok=true:=fun k ok hk hki hun' hno=>hfree k ok hk hki (getD_unset hun') hno
     refine wpOp_mono (fun a' w' h3=>?_) h2
     have hpp:needs→(listed.setIfInBounds j true).getD p true=false:=fun n=>by
      have hjp:j≠p:=fun e=>not_ready_of_waits (hw n) hun (e ▸ hj)
      rw [getD_set_ne true hjp];exact hp n
     have hSS:(listed.setIfInBounds j true).getD p true=false→S w':=fun hp=>by
      exact h3.2.1 (by rw [Array.setIfInBounds_comm _ _ (Ne.symm hji),getD_set_ne true (Ne.symm hip)];exact hp)
     refine⟨hSS,ih (listed.setIfInBounds j true) a' w' hfree' (ready_mono hr (Ne.symm hji)) h3.1 hpp hSS ?_⟩
     rw [Array.setIfInBounds_comm _ _ hji]
     exact h3.2.2
theorem wpAnyP_take{i:Nat}{oi:Oper}{v:Value}{fuel:Nat}{listed:Array Bool}{a:Act}{w:World}(hi:ops[i]?=some oi)
 (hs:Region.noSelect ops=true) (hf:Region.free md ops listed i=true) (hr:(Region.ready md ops listed).contains i=true) (hz:Region.waitsFor md ops p i=true) (hp:listed.getD p true=false) (hip:p≠i)
 (hQ:∀ c a w,Q (.panic c) (a.put oi.dst v) w→Q (.panic c) a w) (hy:YieldsIf P ops S oi v a) (hS:S w)
 (h:wpAnyP P md ops Q S p fuel (listed.setIfInBounds i true) (a.put oi.dst v) w):wpAnyP P md ops Q S p (fuel+1) listed a w :=
 wpAnyP_first (needs:=True) hi (Region.noSelect_spec hs) hQ (fun w h=>h trivial) (fun _=>hz) hip fuel listed a w (Region.free_spec hi hf) (by simpa using hr) hy (fun _=>hp) (fun _=>hS) h
theorem wpAnyP_takeW{i:Nat}{oi:Oper}{v:Value}{fuel:Nat}{listed:Array Bool}{a:Act}{w:World}(hi:ops[i]?=some oi)
 (hs:Region.noSelect ops=true) (hf:Region.free md ops listed i=true) (hr:(Region.ready md ops listed).contains i=true) (hip:p≠i)
 (hQ:∀ c a w,Q (.panic c) (a.put oi.dst v) w→Q (.panic c) a w) (hy:YieldsIf P ops (fun _=>True) oi v a) (hS:S w)
 (h:wpAnyP P md ops Q S p fuel (listed.setIfInBounds i true) (a.put oi.dst v) w):wpAnyP P md ops Q S p (fuel+1) listed a w :=
 wpAnyP_first (needs:=False) hi (Region.noSelect_spec hs) hQ (fun w h=>trivial) (fun h=>h.elim) hip fuel listed a w (Region.free_spec hi hf) (by simpa using hr) hy (fun h=>h.elim) (fun _=>hS) h
theorem wpAnyP_one{i:Nat}{oi:Oper}{fuel:Nat}{listed:Array Bool}{a:Act}{w:World}(hi:ops[i]?=some oi)(hr:Region.ready md ops listed=[i])(hg:oi.guard=none)(hp:(listed.setIfInBounds i true).getD p true=true)
 (h:∀ K:Act→World→Prop,(∀ a' w',wpAnyP P md ops Q S p fuel (listed.setIfInBounds i true) a' w'→K a' w')→oi.wp P a w K Q):wpAnyP P md ops Q S p (fuel+1) listed a w:=by
 refine⟨fun h0=>?_,fun j hj=>?_⟩
 · rw [hr]at h0
   cases h0
 · rw [hr]at hj
   have hj':j=i:=by simpa using hj
   subst hj'
   unfold wpOp
   simp only [hi]
   rw [if_pos (by simp [Region.wanted,hg])]
   exact .inl (h _ fun _ _ h2=>⟨fun h9=>(by rw [hp]at h9;cases h9),h2⟩)
theorem wpAnyP_done{listed:Array Bool}{a:Act}{w:World}(hr:Region.ready md ops listed=[])(h:Q .normal a w):∀ fuel,wpAnyP P md ops Q S p fuel listed a w
 | 0=>⟨hr,h⟩
 | _+1=>⟨fun _=>h,by rw [hr];simp⟩
theorem wp_region_P{id:Nat}{a:Act}{w:World}(S:World→Prop)(p:Nat)(hm:P.follows .mixedOrders=true)(h:wpAnyP P .any ops Q S p ops.size (Array.replicate ops.size false) a w.drew):(Code.region id ops true).wp P Q a w :=
 wp_region_any hm (wpAny_of_P _ _ _ _ h)
theorem wpAnyP_cases{L:List Nat}{fuel:Nat}{listed:Array Bool}{a:Act}{w:World}(hr:Region.ready md ops listed=L)(hne:L≠[])(hS:∀ w,S w)
 (h:∀ i ∈ L,∃ oi,ops[i]?=some oi∧oi.guard=none∧∀ K:Act→World→Prop,(∀ a' w',wpAnyP P md ops Q S p fuel (listed.setIfInBounds i true) a' w'→K a' w')→oi.wp P a w K Q):wpAnyP P md ops Q S p (fuel+1) listed a w:=by
 refine⟨fun h0=>absurd (hr.symm.trans h0) hne,fun j hj=>?_⟩
 rw [hr]at hj
 obtain⟨oi,hi,hg,hK⟩:=h j hj
 unfold wpOp
 simp only [hi]
 rw [if_pos (by simp [Region.wanted,hg])]
 exact .inl (hK _ fun _ _ h2=>⟨fun _=>hS _,h2⟩)
theorem wpAnyP_two{i j:Nat}{oi oj:Oper}{fuel:Nat}{listed:Array Bool}{a:Act}{w:World}(hi:ops[i]?=some oi)(hj:ops[j]?=some oj)(hr:Region.ready md ops listed=[i,j])(gi:oi.guard=none)(gj:oj.guard=none)(hS:∀ w,S w)
 (h1:∀ K:Act→World→Prop,(∀ a' w',wpAnyP P md ops Q S p fuel (listed.setIfInBounds i true) a' w'→K a' w')→oi.wp P a w K Q)
 (h2:∀ K:Act→World→Prop,(∀ a' w',wpAnyP P md ops Q S p fuel (listed.setIfInBounds j true) a' w'→K a' w')→oj.wp P a w K Q):wpAnyP P md ops Q S p (fuel+1) listed a w :=
 wpAnyP_cases hr (by simp) hS fun q hq=>by
  simp only [List.mem_cons,List.not_mem_nil,or_false]at hq
  rcases hq with rfl | rfl
  · exact⟨_,hi,gi,h1⟩
  · exact⟨_,hj,gj,h2⟩
theorem wpAnyP_three{i j k:Nat}{oi oj ok:Oper}{fuel:Nat}{listed:Array Bool}{a:Act}{w:World}(hi:ops[i]?=some oi)(hj:ops[j]?=some oj)(hk:ops[k]?=some ok)(hr:Region.ready md ops listed=[i,j,k])(gi:oi.guard=none)(gj:oj.guard=none)(gk:ok.guard=none)(hS:∀ w,S w)
 (h1:∀ K:Act→World→Prop,(∀ a' w',wpAnyP P md ops Q S p fuel (listed.setIfInBounds i true) a' w'→K a' w')→oi.wp P a w K Q)
 (h2:∀ K:Act→World→Prop,(∀ a' w',wpAnyP P md ops Q S p fuel (listed.setIfInBounds j true) a' w'→K a' w')→oj.wp P a w K Q)
 (h3:∀ K:Act→World→Prop,(∀ a' w',wpAnyP P md ops Q S p fuel (listed.setIfInBounds k true) a' w'→K a' w')→ok.wp P a w K Q):wpAnyP P md ops Q S p (fuel+1) listed a w :=
 wpAnyP_cases hr (by simp) hS fun q hq=>by
  simp only [List.mem_cons,List.not_mem_nil,or_false]at hq
  rcases hq with rfl | rfl | rfl
  · exact⟨_,hi,gi,h1⟩
  · exact⟨_,hj,gj,h2⟩
  · exact⟨_,hk,gk,h3⟩
end
structure Mk3 (W w:World) (n:Nat) (A1 A2 A3:Option Addr):Prop where
 o1:Ownv 3 w W.heap.size A1 n n (List.replicate n (.int .i64 0))
 o2:Ownv 3 w W.heap.size A2 n n (List.replicate n (.int .i64 0))
 o3:Ownv 5 w W.heap.size A3 n n (List.replicate n (.int .u8 0))
 n12:blk A1≠blk A2
 n13:blk A1≠blk A3
 n23:blk A2≠blk A3
 b:Below W.heap.size W w
theorem chain3{w0 w1 w2 w3:World}{n:Nat}{A1 A2 A3:Option Addr}{e1 e2 e3:TypeId}{v1 v2 v3:List Value}(hn:0<n)(h1:Ownv e1 w1 w0.heap.size A1 n n v1)(b1:Below w0.heap.size w0 w1)
 (h2:Ownv e2 w2 w1.heap.size A2 n n v2) (b2:Below w1.heap.size w1 w2) (h3:Ownv e3 w3 w2.heap.size A3 n n v3) (b3:Below w2.heap.size w2 w3) :
 Ownv e1 w3 w0.heap.size A1 n n v1∧Ownv e2 w3 w0.heap.size A2 n n v2∧Ownv e3 w3 w0.heap.size A3 n n v3∧blk A1<blk A2∧blk A2<blk A3∧Below w0.heap.size w0 w3:=by
 have g1:=h1.blk_ge hn
 have g2:=h2.blk_ge hn
 have g3:=h3.blk_ge hn
 exact⟨(h1.below b2).below b3,(h2.below b3).mono b1.size,h3.mono (Nat.le_trans b1.size b2.size),by omega,by omega,(b1.trans (b2.mono b1.size)).trans (b3.mono (Nat.le_trans b1.size b2.size))⟩
section
variable {P : Program} {ops : Array Oper} {Q : Exit → Act → World → Prop} {md : Region.Mode} {S : World → Prop} {p : Nat}
theorem P_start{id:Nat}{a:Act}{w:World}(S:World→Prop)(p n:Nat)(l0:Array Bool)(hn:ops.size=n)(hl:Array.replicate n false=l0)(hm:P.follows .mixedOrders=true)(h:wpAnyP P .any ops Q S p n l0 a w.drew):(Code.region id ops true).wp P Q a w:=by
 subst hl;subst hn;exact wp_region_P S p hm h
theorem P_take(i d:Nat)(v:Value)(l':Array Bool){oi:Oper}{fuel:Nat}{listed:Array Bool}{ts:Array Value}{ds:List Deferred}{w:World}(hi:ops[i]?=some oi)(hd:oi.dst=some d)(hl:listed.setIfInBounds i true=l')
 (hs:Region.noSelect ops=true) (hf:Region.free md ops listed i=true) (hr:(Region.ready md ops listed).contains i=true) (hz:Region.waitsFor md ops p i=true) (hp:listed.getD p true=false) (hip:p≠i)
 (hQ:∀ c a w,Q (.panic c) (a.put oi.dst v) w→Q (.panic c) a w) (hy:YieldsIf P ops S oi v ⟨ts,ds⟩) (hS:S w)
 (h:wpAnyP P md ops Q S p fuel l' ⟨ts.setIfInBounds d v,ds⟩ w):wpAnyP P md ops Q S p (fuel+1) listed ⟨ts,ds⟩ w:=by
 subst hl
 refine wpAnyP_take hi hs hf hr hz hp hip hQ hy hS ?_
 rw [hd];exact h
theorem P_takeW(i d:Nat)(v:Value)(l':Array Bool){oi:Oper}{fuel:Nat}{listed:Array Bool}{ts:Array Value}{ds:List Deferred}{w:World}(hi:ops[i]?=some oi)(hd:oi.dst=some d)(hl:listed.setIfInBounds i true=l')
 (hs:Region.noSelect ops=true) (hf:Region.free md ops listed i=true) (hr:(Region.ready md ops listed).contains i=true) (hip:p≠i)
 (hQ:∀ c a w,Q (.panic c) (a.put oi.dst v) w→Q (.panic c) a w) (hy:YieldsIf P ops (fun _=>True) oi v ⟨ts,ds⟩) (hS:S w)
 (h:wpAnyP P md ops Q S p fuel l' ⟨ts.setIfInBounds d v,ds⟩ w):wpAnyP P md ops Q S p (fuel+1) listed ⟨ts,ds⟩ w:=by
 subst hl
 refine wpAnyP_takeW hi hs hf hr hip hQ hy hS ?_
 rw [hd];exact h
theorem P_one(i:Nat)(l':Array Bool){oi:Oper}{fuel:Nat}{listed:Array Bool}{a:Act}{w:World}(hi:ops[i]?=some oi)(hl:listed.setIfInBounds i true=l')(hr:Region.ready md ops listed=[i])(hg:oi.guard=none)(hp:l'.getD p true=true)
 (h:∀ K:Act→World→Prop,(∀ a' w',wpAnyP P md ops Q S p fuel l' a' w'→K a' w')→oi.wp P a w K Q):wpAnyP P md ops Q S p (fuel+1) listed a w:=by
 subst hl;exact wpAnyP_one hi hr hg hp h
theorem P_oneS(i:Nat)(l':Array Bool){oi:Oper}{fuel:Nat}{listed:Array Bool}{a:Act}{w:World}(hi:ops[i]?=some oi)(hl:listed.setIfInBounds i true=l')(hr:Region.ready md ops listed=[i])(hg:oi.guard=none)
 (h:∀ K:Act→World→Prop,(∀ a' w',S w'→wpAnyP P md ops Q S p fuel l' a' w'→K a' w')→oi.wp P a w K Q):wpAnyP P md ops Q S p (fuel+1) listed a w:=by
 subst hl
 refine⟨fun h0=>?_,fun j hj=>?_⟩
 · rw [hr]at h0
   cases h0
 · rw [hr]at hj
   have hj':j=i:=by simpa using hj
   subst hj'
   unfold wpOp
   simp only [hi]
   rw [if_pos (by simp [Region.wanted,hg])]
   exact .inl (h _ fun _ _ h1 h2=>⟨fun _=>h1,h2⟩)
theorem P_takeX(i d:Nat)(v:Value)(l':Array Bool){oi:Oper}{fuel:Nat}{listed:Array Bool}{ts:Array Value}{ds:List Deferred}{w:World}(hi:ops[i]?=some oi)(hd:oi.dst=some d)(hl:listed.setIfInBounds i true=l')
 (hs:Region.noSelect ops=true) (hf:Region.free md ops listed i=true) (hr:(Region.ready md ops listed).contains i=true) (hip:p≠i)
 (hQ:∀ c a w,Q (.panic c) (a.put oi.dst v) w→Q (.panic c) a w) (hy:YieldsIf P ops (fun _=>True) oi v ⟨ts,ds⟩) (hp:listed.getD p true=true)
 (h:wpAnyP P md ops Q S p fuel l' ⟨ts.setIfInBounds d v,ds⟩ w):wpAnyP P md ops Q S p (fuel+1) listed ⟨ts,ds⟩ w:=by
 subst hl
 refine wpAnyP_first (needs:=False) hi (Region.noSelect_spec hs) hQ (fun w h=>trivial) (fun h=>h.elim) hip fuel listed _ w (Region.free_spec hi hf) (by simpa using hr) hy (fun h=>h.elim) (fun h=>by rw [hp]at h;cases h) ?_
 rw [hd];exact h
theorem P_oneG(i:Nat)(l':Array Bool){oi:Oper}{fuel:Nat}{listed:Array Bool}{a:Act}{w:World}(hi:ops[i]?=some oi)(hl:listed.setIfInBounds i true=l')(hr:Region.ready md ops listed=[i])(hg:Region.wanted oi (yielded ops a.tmps)=true)(hp:l'.getD p true=true)
 (h:∀ K:Act→World→Prop,(∀ a' w',wpAnyP P md ops Q S p fuel l' a' w'→K a' w')→oi.wp P a w K Q):wpAnyP P md ops Q S p (fuel+1) listed a w:=by
 subst hl
 refine⟨fun h0=>?_,fun j hj=>?_⟩
 · rw [hr]at h0
   cases h0
 · rw [hr]at hj
   have hj':j=i:=by simpa using hj
   subst hj'
   unfold wpOp
   simp only [hi]
   rw [if_pos hg]
   exact .inl (h _ fun _ _ h2=>⟨fun h9=>(by rw [hp]at h9;cases h9),h2⟩)
theorem P_two(i j:Nat)(l1 l2:Array Bool){oi oj:Oper}{fuel:Nat}{listed:Array Bool}{a:Act}{w:World}(hi:ops[i]?=some oi)(hj:ops[j]?=some oj)(e1:listed.setIfInBounds i true=l1)(e2:listed.setIfInBounds j true=l2)(hr:Region.ready md ops listed=[i,j])(gi:oi.guard=none)(gj:oj.guard=none)(hS:∀ w,S w)
 (h1:∀ K:Act→World→Prop,(∀ a' w',wpAnyP P md ops Q S p fuel l1 a' w'→K a' w')→oi.wp P a w K Q)
 (h2:∀ K:Act→World→Prop,(∀ a' w',wpAnyP P md ops Q S p fuel l2 a' w'→K a' w')→oj.wp P a w K Q):wpAnyP P md ops Q S p (fuel+1) listed a w:=by
 subst e1;subst e2;exact wpAnyP_two hi hj hr gi gj hS h1 h2
theorem P_three(i j k:Nat)(l1 l2 l3:Array Bool){oi oj ok:Oper}{fuel:Nat}{listed:Array Bool}{a:Act}{w:World}(hi:ops[i]?=some oi)(hj:ops[j]?=some oj)(hk:ops[k]?=some ok)(e1:listed.setIfInBounds i true=l1)(e2:listed.setIfInBounds j true=l2)(e3:listed.setIfInBounds k true=l3)
 (hr:Region.ready md ops listed=[i,j,k]) (gi:oi.guard=none) (gj:oj.guard=none) (gk:ok.guard=none) (hS:∀ w,S w)
 (h1:∀ K:Act→World→Prop,(∀ a' w',wpAnyP P md ops Q S p fuel l1 a' w'→K a' w')→oi.wp P a w K Q)
 (h2:∀ K:Act→World→Prop,(∀ a' w',wpAnyP P md ops Q S p fuel l2 a' w'→K a' w')→oj.wp P a w K Q)
 (h3:∀ K:Act→World→Prop,(∀ a' w',wpAnyP P md ops Q S p fuel l3 a' w'→K a' w')→ok.wp P a w K Q):wpAnyP P md ops Q S p (fuel+1) listed a w:=by
 subst e1;subst e2;subst e3;exact wpAnyP_three hi hj hk hr gi gj gk hS h1 h2 h3
theorem P_done{listed:Array Bool}{a:Act}{w:World}(hr:Region.ready md ops listed=[])(h:Q .normal a w):∀ fuel,wpAnyP P md ops Q S p fuel listed a w:=wpAnyP_done hr h
theorem wp_mkd{w:World}{o:Oper}{ts:Array Value}{ds:List Deferred}{K:Act→World→Prop}{Q:Exit→Act→World→Prop}(d:Nat)(l r:Operand)(t:TypeId){e:TypeId}{n:Nat}
 (ho:o.op= .makeSlice t l r) (hd:o.dst=some d) {z:Value} {bytes:Nat} (hE:El P t e z bytes) {kl kr:IntKind} (hs:(⟨ts,ds⟩:Act).eval l= .int kl (n:Int)) (hx:(⟨ts,ds⟩:Act).eval r= .int kr (n:Int))
 (hby:bytes*n≤281474976710656) (hm:n≤maxLen)
 (h:∀ A w',Ownv e w' w.heap.size A n n (List.replicate n z)→Below w.heap.size w w'→A≠none→K ⟨ts.setIfInBounds d (.slice A n n),ds⟩ w'):o.wp P ⟨ts,ds⟩ w K Q :=
 wp_mk l r t ho hE hs hx hby hm fun A w' h1 h2 h3=>by rw [hd];exact h A w' h1 h2 h3
end
section
variable {P : Program} {ops : Array Oper} {Q : Exit → Act → World → Prop} {md : Region.Mode} {S : World → Prop} {p : Nat}
theorem P_w(i d:Nat)(v:Value)(l':Array Bool){oi:Oper}{fuel:Nat}{listed:Array Bool}{ts:Array Value}{ds:List Deferred}{w:World}(hi:ops[i]?=some oi)(hS:S w)
 (h:wpAnyP P md ops Q S p fuel l' ⟨ts.setIfInBounds d v,ds⟩ w) (hd:oi.dst=some d:=by rfl) (hl:listed.setIfInBounds i true=l':=by kernel_rfl)
 (hs:Region.noSelect ops=true:=by kernel_rfl) (hf:Region.free md ops listed i=true:=by kernel_rfl) (hr:(Region.ready md ops listed).contains i=true:=by kernel_rfl) (hip:p≠i:=by decide)
 (hQ:∀ c a w,Q (.panic c) (a.put oi.dst v) w→Q (.panic c) a w:=by exact fun _ _ _ h=>h) (hy:YieldsIf P ops (fun _=>True) oi v ⟨ts,ds⟩:=by exact Or.inl ⟨by rfl,fun W hS=>by go_simp⟩):wpAnyP P md ops Q S p (fuel+1) listed ⟨ts,ds⟩ w :=
 P_takeW i d v l' hi hd hl hs hf hr hip hQ hy hS h
theorem P_k(i d:Nat)(v:Value)(l':Array Bool){oi:Oper}{fuel:Nat}{listed:Array Bool}{ts:Array Value}{ds:List Deferred}{w:World}(hi:ops[i]?=some oi)(hy:YieldsIf P ops S oi v ⟨ts,ds⟩)(hS:S w)
 (h:wpAnyP P md ops Q S p fuel l' ⟨ts.setIfInBounds d v,ds⟩ w) (hd:oi.dst=some d:=by rfl) (hl:listed.setIfInBounds i true=l':=by kernel_rfl)
 (hs:Region.noSelect ops=true:=by kernel_rfl) (hf:Region.free md ops listed i=true:=by kernel_rfl) (hr:(Region.ready md ops listed).contains i=true:=by kernel_rfl) (hz:Region.waitsFor md ops p i=true:=by kernel_rfl) (hp:listed.getD p true=false:=by kernel_rfl) (hip:p≠i:=by decide)
 (hQ:∀ c a w,Q (.panic c) (a.put oi.dst v) w→Q (.panic c) a w:=by exact fun _ _ _ h=>h):wpAnyP P md ops Q S p (fuel+1) listed ⟨ts,ds⟩ w :=
 P_take i d v l' hi hd hl hs hf hr hz hp hip hQ hy hS h
end
end Go.Proofs.YtkdfefpnhaebfaaGreat
