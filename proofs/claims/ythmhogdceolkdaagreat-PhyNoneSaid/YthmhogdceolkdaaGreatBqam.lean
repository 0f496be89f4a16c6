/- Bundle. Conditions: none. -/
import Derived.Test.YthmhogdceolkdaaGreatBqal
import Derived.Deep.MidRow
import Derived.Deep.DeepCutAuto
import Derived.Deep.RegionHeld3
set_option linter.unusedVariables false
set_option linter.unusedSimpArgs false
namespace Go.Proofs.YthmhogdceolkdaaGreat.Cr
open Tryz
open Go.RowKit
def ints8(m:List Int):List Value:=m.map (Value.int .i64)
theorem heap_lt'{w:World}{b:Nat}{o:Obj}(h:w.heap[b]?=some o):b<w.heap.size:=(Array.getElem?_eq_some_iff.1 h).1
def Blk(w:World)(b:Nat)(t:TypeId)(cs:List Value):Prop:=w.heap[b]?=some (.cells cs.toArray t (0,0))
section
variable {w w' : World} {b : Nat} {t : TypeId} {cs : List Value}
theorem Blk.lt(h:Blk w b t cs):b<w.heap.size:=heap_lt' h
theorem Blk.cell(h:Blk w b t cs){j:Nat}{v:Value}(hj:cs[j]?=some v):w.cell? ⟨b,j,none⟩=some v:=by rw [cell_of_row w b j _ _ _ h];simpa using hj
theorem Blk.icell{m:List Int}(h:Blk w b t (ints8 m)){j:Nat}(hj:j<m.length):w.cell? ⟨b,j,none⟩=some (.int .i64 (gi m j)):=h.cell (by simp [ints8,gi,List.getD,hj])
theorem Blk.frozen(h:Blk w b t cs)(j:Nat):w.frozen? ⟨b,j,none⟩=false:=frozen_of_row w b j _ _ h
theorem Blk.below(h:Blk w b t cs)(hB:Below w.heap.size w w'):Blk w' b t cs:=(hB.block b h.lt).trans h
theorem Blk.alloc(h:Blk w b t cs)(o:Obj):Blk (w.alloc o) b t cs:=(heap_alloc_old (h:=h.lt) ..).trans h
theorem Blk.drew(h:Blk w b t cs):Blk w.drew b t cs:=h
theorem Blk.drewN(h:Blk w b t cs)(q:Nat):Blk (w.drewN q) b t cs:=h
theorem Blk.new(w:World)(cs:List Value)(t:TypeId){N:Nat}(hN:N=w.heap.size):Blk (w.alloc (.cells cs.toArray t)) N t cs:=by subst hN;exact heap_alloc_new _ _
theorem Blk.set(h:Blk w b t cs)(j:Nat)(v:Value):Blk (w.setCell ⟨b,j,none⟩ v) b t (cs.set j v):=by
 have h':w.heap[b]?=some (.cells cs.toArray t (0,0)):=h;obtain⟨hlt,hk⟩:=Array.getElem?_eq_some_iff.1 h';show(w.heap.modify b _)[b]?=_;rw [Array.getElem?_modify,if_pos rfl,h'];simp
theorem Blk.other(h:Blk w b t cs){g:Nat}(hg:g≠b)(j:Nat)(v:Value):Blk (w.setCell ⟨g,j,none⟩ v) b t cs:=by
 show(w.heap.modify g _)[b]?=_;rw [Array.getElem?_modify,if_neg hg];exact h
theorem grownBy_set(w:World)(b j:Nat)(v:Value):w.grownBy (w.setCell ⟨b,j,none⟩ v) (some b) :=
 ⟨rfl,rfl,rfl,by show w.heap.size<=(w.heap.modify b _).size;rw [Array.size_modify];exact Nat.le_refl _,fun k _ hk=>by
   show(w.heap.modify b _)[k]?=_;rw [Array.getElem?_modify,if_neg (fun e=>hk (by rw [e]))]⟩
end
theorem Blk.setAllAux{b:Nat}{t:TypeId}(suf:List Value):∀ (cs old pre:List Value) (W:World),Blk W b t (pre ++ old ++ suf)->old.length=cs.length->Blk (W.setCells b pre.length cs) b t (pre ++ cs ++ suf)
 | [],old,pre,W,h,hl=>by
   obtain rfl:=List.eq_nil_of_length_eq_zero hl;exact h
 | c :: cs,o :: old,pre,W,h,hl=>by
   have h1:=h.set pre.length c;have e:(pre ++ o :: old ++ suf).set pre.length c=(pre ++ [c]) ++ old ++ suf:=by simp
   rw [e]at h1;have h2:=Blk.setAllAux suf cs old (pre ++ [c]) _ h1 (by simpa using hl);rw [List.length_append,List.append_assoc pre [c] cs]at h2;exact h2
theorem Blk.setAll{W:World}{b:Nat}{t:TypeId}{cs old:List Value}(h:Blk W b t old)(hl:old.length=cs.length):Blk (W.setCells b 0 cs) b t cs:=by
 have:=Blk.setAllAux [] cs old [] W (by simpa using h) hl;simpa using this
theorem grownBy_setCells(b:Nat):∀ (cs:List Value) (o:Nat) (W:World),W.grownBy (W.setCells b o cs) (some b)
 | [],_,W=>World.grownBy.refl _ _
 | c :: cs,o,W=>by
   have h1:=grownBy_set W b o c;have h2:=grownBy_setCells b cs (o+1) (W.setCell ⟨b,o,none⟩ c);exact⟨h2.os.trans h1.os,h2.tape.trans h1.tape,h2.output.trans h1.output,Nat.le_trans h1.size h2.size,fun k hk hne=>(h2.block k (Nat.lt_of_lt_of_le hk h1.size) hne).trans (h1.block k hk hne)⟩
section
variable {ops : Array Oper} {rest : List Oper} {op : Oper} {a : Act} {w : World} {Q : Exit -> Act -> World -> Prop} {K : Act -> World -> Prop} {b : Nat} {t : TypeId} {cs old : List Value}
theorem wp_ldrow(ty:TypeId)(x:Operand)(ho:op.op= .load ty x)(hx:a.eval x= .pointer (some ⟨b,0,none⟩))(hB:Blk w b t cs)(d:TypeDesc)(hu:prog.underlying ty=some d)(hd:d.isRow=true)(hi:(prog.info? ty).map (·.size)=some cs.length)
 (h:K (a.put op.dst (.agg cs.toArray)) w):op.wp prog a w K Q :=
 wp_load_mid ty x ho b 0 hx cs d (fun j v hj=>by rw [Nat.zero_add];exact hB.cell hj) hu hd hi h
theorem ldrow(hgd:op.guard=none)(ty:TypeId)(x:Operand)(ho:op.op= .load ty x)(hx:a.eval x= .pointer (some ⟨b,0,none⟩))(hB:Blk w b t cs)(d:TypeDesc)(hu:prog.underlying ty=some d)(hd:d.isRow=true)(hi:(prog.info? ty).map (·.size)=some cs.length)
 (h:wpList prog ops Q rest (a.put op.dst (.agg cs.toArray)) w):wpList prog ops Q (op :: rest) a w :=
 wpList_plain hgd fun _ hK=>wp_ldrow ty x ho hx hB d hu hd hi (hK _ _ h)
theorem wp_strow(ty:TypeId)(x y:Operand)(ho:op.op= .store ty x y)(hx:a.eval x= .pointer (some ⟨b,0,none⟩))(hy:a.eval y= .agg cs.toArray)(hB:Blk w b t old)(hl:old.length=cs.length)(hi:(prog.info? ty).map (·.size)=some cs.length)(h1:∀ v ∈ cs,v.oneCell'=true)
 (h:∀ W',Blk W' b t cs->w.grownBy W' (some b)->K (a.put op.dst undef) W'):op.wp prog a w K Q :=
 wp_store_mid ty x y ho b 0 cs.toArray hx hy (fun j hj=>⟨by
  rw [Nat.zero_add,hB.cell (List.getElem?_eq_getElem (by rw [hl];simpa using hj))];rfl,by rw [Nat.zero_add];exact hB.frozen j⟩) (by simpa using hi) (all_oneCell_toArray h1) (h _ (by simpa using hB.setAll hl) (by simpa using grownBy_setCells b cs 0 w))
theorem strow(hgd:op.guard=none)(ty:TypeId)(x y:Operand)(ho:op.op= .store ty x y)(hx:a.eval x= .pointer (some ⟨b,0,none⟩))(hy:a.eval y= .agg cs.toArray)(hB:Blk w b t old)(hl:old.length=cs.length)(hi:(prog.info? ty).map (·.size)=some cs.length)(h1:∀ v ∈ cs,v.oneCell'=true)
 (h:∀ W',Blk W' b t cs->w.grownBy W' (some b)->wpList prog ops Q rest (a.put op.dst undef) W'):wpList prog ops Q (op :: rest) a w :=
 wpList_plain hgd fun _ hK=>wp_strow ty x y ho hx hy hB hl hi h1 fun W' h2 h3=>hK _ _ (h W' h2 h3)
end
section
variable {ops : Array Oper} {rest : List Oper} {op : Oper} {a : Act} {w : World} {Q : Exit -> Act -> World -> Prop} {K : Act -> World -> Prop} {b : Nat} {t : TypeId} {cs old pre suf : List Value}
end
theorem ints8_one(m:List Int):∀ v ∈ ints8 m,v.oneCell'=true:=oneCell_ints .i64 m
section
variable {P : Program} {w w' w0 : World} {A B : Option Addr} {n c m d g : Nat} {vs us : List Value} {e : TypeId}
theorem bal(h:Below w0.heap.size w0 w)(o:Obj):Below w0.heap.size w0 (w.alloc o):=h.alloc h.size o
end
theorem results_cc{fn:Func}{p q:Tmp}{ty ty':TypeId}(h:fn.results=#[.cell p ty,.cell q ty'])(tmps:Array Value)(P:Program)(w:World) :
 (results fn tmps).run P w =
   ((asAddr (tmps.getD p undef)).run P w).andThen fun a w₁=>((loadVar ty a).run P w₁).andThen fun v w₂=>((asAddr (tmps.getD q undef)).run P w₂).andThen fun b w₃=>((loadVar ty' b).run P w₃).andThen fun v' w₄=>.ok (.tuple #[v,v']) w₄:=by
 simp only [results,h];simp [Sem.run_bind,Result.andThen]
theorem results_c{fn:Func}{p:Tmp}{ty:TypeId}(h:fn.results=#[.cell p ty])(tmps:Array Value)(P:Program)(w:World) :
 (results fn tmps).run P w=((asAddr (tmps.getD p undef)).run P w).andThen fun a w₁=>(loadVar ty a).run P w₁:=by
 simp only [results,h];simp [Sem.run_bind]
theorem blk_ne_row{w:World}{B:Nat}{t e:TypeId}{cs:List Value}{base:Nat}{A:Option Addr}{n c:Nat}{vs:List Value}(hB:Blk w B t cs)(hO:Ownv e w base A n c vs)(ht:t≠e):some B≠(Value.slice A n c).ownBlock:=by
 intro h;obtain⟨hl,h2⟩:=hO.cases;rcases h2 with⟨rfl,rfl,rfl⟩ | ⟨g,cur,rfl,hb,hh,_⟩
 . cases h
 . have e1:B=g:=by simpa [Value.ownBlock] using h
   subst e1;have h1:w.heap[B]?=some (.cells cs.toArray t (0,0)):=hB;rw [h1]at hh;injection hh with hh
   injection hh with _ h9
   exact ht h9
theorem Blk.grown{w w':World}{B:Nat}{t:TypeId}{cs:List Value}{row:Option Nat}(h:Blk w B t cs)(hg:w.grownBy w' row)(hne:some B≠row):Blk w' B t cs:=(hg.block B h.lt hne).trans h
set_option maxRecDepth 100000
set_option maxHeartbeats 1600000
def spansL:List Int:=[40,512,8,528,1024,16,1056,2048,32,2112,6144,64]
theorem spans_any(w:World):Calls prog 284 #[] w fun e w'=>e= .returned (.agg (ints8 spansL).toArray)/\Below w.heap.size w w':=by
 go_enter func284,ntmps284;go_wp2;refine bodyPost_ret (v:=.agg (ints8 spansL).toArray) (by simp [results,results284,go_sem,ints8,spansL]) rfl ⟨rfl,?_⟩;exact(Below.refl _ _).alloc (Nat.le_refl _) _
theorem nan1_any(x:Int)(w:World):Calls prog 286 #[.int .i64 x] w fun e w'=>e= .returned (.bool false)/\w=w':=by
 have h:(x != x)=false:=bne_f rfl;go_enter func286,ntmps286;go_wp2;go_ret;exact⟨rfl,rfl⟩
theorem nan2_any(x:Int)(w:World):Calls prog 319 #[.int .i64 x] w fun e w'=>e= .returned (.bool false)/\w=w':=by
 have h:(x != x)=false:=bne_f rfl;go_enter func319,ntmps319;go_wp2;go_ret;exact⟨rfl,rfl⟩
theorem less_any(x y:Int)(w:World):Calls prog 285 #[.int .i64 x,.int .i64 y] w fun e w'=>e= .returned (.bool (decide (x<y)))/\w=w':=by
 go_enter func285,ntmps285;go_wp2_with (go_at_call 319;refine(nan2_any _ _).mono ?_;rintro e w' ⟨rfl,rfl⟩);go_ret;exact⟨rfl,rfl⟩
theorem el34:El prog 51 3 (.int .i64 0) 8:=⟨by kernel_rfl,by kernel_rfl,fun _=>by kernel_rfl,rfl⟩
def szL(n:Nat):List Int:=(List.range n).map fun j=>(SZ j:Int)
theorem szL_len(n:Nat):(szL n).length=n:=by simp [szL]
theorem szL_succ(n:Nat):szL (n+1)=szL n ++ [(SZ n:Int)]:=by simp [szL,List.range_succ]
theorem gi_szL(n j:Nat)(h:j<n):gi (szL n) j=(SZ j:Int):=by
 rw [gi_eq _ _ (by rw [szL_len];exact h)];simp [szL]
def cnt(i:Nat):Nat:=if i=0 then 0 else if i=1 then 60 else if i=2 then 92 else if i=3 then 124 else 188
def Sz1(w:World)(out i:Value)(wr:World):Prop:=∃ (j:Nat) (A:Option Addr) (c:Nat),j<=4/\i= .int .i64 j/\out= .slice A (cnt j) c/\Own .i64 3 wr w.heap.size A (cnt j) c (szL (cnt j))/\Below w.heap.size w wr
def Sz2(w:World)(B o F L S M:Nat)(out k:Value)(wr:World):Prop:=∃ (q:Nat) (A:Option Addr) (c:Nat),q<=M/\k= .int .i64 ((F+S*q:Nat):Int)/\out= .slice A (o+q) c/\Own .i64 3 wr w.heap.size A (o+q) c (szL (o+q))/\Below w.heap.size w wr/\Blk wr B 333 [.int .i64 (F:Int),.int .i64 (L:Int),.int .i64 (S:Int)]
theorem sizes_any(w:World):Calls prog 226 #[] w fun e w'=>∃ A c,e= .returned (.slice A 188 c)/\Own .i64 3 w' w.heap.size A 188 c (szL 188)/\Below w.heap.size w w':=by
 go_enter func226,ntmps226;go_wp2_with (go_at_call 284;refine(spans_any _).mono ?_;rintro e w1 ⟨rfl,hB1⟩);go_loopw [0,5] (fun out i wr=>Sz1 w out i wr) (fun _ i _=>4 - (intOf i).toNat)
 case atStart=>exact⟨0,none,0,by omega,rfl,rfl,Ownv.nilv 3 _ _,hB1⟩
 case round =>
  obtain⟨j,A,c,hj,rfl,rfl,hO,hB⟩:=hrel;have HO:=aq hO;have HB:=aq hB;clear hO hB hB1;rcases (by omega:j=0\/j=1\/j=2\/j=3\/j=4) with rfl | rfl | rfl | rfl | rfl
  . simp only [ints8,spansL,List.map_cons,List.map_nil]
    rw [show ((0:Nat):Int)=0 from rfl];have hidx:∀ W,(Instr.index 334 (Value.agg #[.int .i64 40,.int .i64 512,.int .i64 8,.int .i64 528,.int .i64 1024,.int .i64 16,.int .i64 1056,.int .i64 2048,.int .i64 32,.int .i64 2112,.int .i64 6144,.int .i64 64]) (.int .i64 0)).run prog W= .ok (.agg #[.int .i64 40,.int .i64 512,.int .i64 8]) W:=fun _=>by kernel_rfl
    go_wp2;go_loopw [0,3] (fun out k wr'=>Sz2 w wr.heap.size 0 40 512 8 60 out k wr') (fun _ k _=>520 - (intOf k).toNat)
    case atStart=>exact⟨0,A,c,by omega,rfl,rfl,Ownv.alloc HO.o _,HB.o.alloc HB.o.size _,Blk.new wr _ 333 rfl⟩
    case round =>
     obtain⟨q,A2,c2,hq,rfl,rfl,hO2,hB2,hK⟩:=hrel;have c1:=hK.cell (j:=1) rfl;have c2':=hK.cell (j:=2) rfl;have HK:=aq hK;have HO2:=aq hO2;have HB2:=aq hB2;clear hO2 hB2 hK;by_cases hlt:q<60
     . have eS:SZ (0+q)=40+8*q:=by(unfold SZ;repeat' split)<;>omega
       have HS:=aq eS;have hle:((40+8*q:Nat):Int)<=512:=by omega
       clear eS;go_wp2_with (at_builtin;refine list_of rfl fun K hK=>wp_app1 _ _ 51 rfl el34 rfl (.int .i64 _) rfl rfl HO2.o (by omega) (by omega) HB2.o.size ?_;intro A' c' w' hO' hg;have c2':=(HK.o.grown hg (blk_ne_row HK.o HO2.o (by decide))).cell (j:=2) rfl;have HO':=aq hO';have HG:=aq hg;clear hO' hg;refine hK _ _ ?_;clear hK K);go_roundw
       case rel=>exact⟨q+1,A',c',by omega,by go_num,by first | rfl | simp only [Nat.zero_add],Own.of_eq HO'.o (by omega) (by rw [<- Nat.add_assoc,szL_succ,List.map_append,HS.o];rfl),HB2.o.grown HG.o HB2.o.size (fun k hk=>Ownv.ob' HO2.o hk),HK.o.grown HG.o (blk_ne_row HK.o HO2.o (by decide))⟩
       case measure=>simp [intOf];omega
     . obtain rfl:q=60:=by omega
       go_wp2;go_roundw
       case rel=>exact⟨1,A2,c2,by omega,by go_num,rfl,HO2.o,HB2.o⟩
       case measure=>simp [intOf]
  . simp only [ints8,spansL,List.map_cons,List.map_nil]
    rw [show ((1:Nat):Int)=1 from rfl];have hidx:∀ W,(Instr.index 334 (Value.agg #[.int .i64 40,.int .i64 512,.int .i64 8,.int .i64 528,.int .i64 1024,.int .i64 16,.int .i64 1056,.int .i64 2048,.int .i64 32,.int .i64 2112,.int .i64 6144,.int .i64 64]) (.int .i64 1)).run prog W= .ok (.agg #[.int .i64 528,.int .i64 1024,.int .i64 16]) W:=fun _=>by kernel_rfl
    go_wp2;go_loopw [0,3] (fun out k wr'=>Sz2 w wr.heap.size 60 528 1024 16 32 out k wr') (fun _ k _=>1040 - (intOf k).toNat)
    case atStart=>exact⟨0,A,c,by omega,rfl,rfl,Ownv.alloc HO.o _,HB.o.alloc HB.o.size _,Blk.new wr _ 333 rfl⟩
    case round =>
     obtain⟨q,A2,c2,hq,rfl,rfl,hO2,hB2,hK⟩:=hrel;have c1:=hK.cell (j:=1) rfl;have c2':=hK.cell (j:=2) rfl;have HK:=aq hK;have HO2:=aq hO2;have HB2:=aq hB2;clear hO2 hB2 hK;by_cases hlt:q<32
     . have eS:SZ (60+q)=528+16*q:=by(unfold SZ;repeat' split)<;>omega
       have HS:=aq eS;have hle:((528+16*q:Nat):Int)<=1024:=by omega
       clear eS;go_wp2_with (at_builtin;refine list_of rfl fun K hK=>wp_app1 _ _ 51 rfl el34 rfl (.int .i64 _) rfl rfl HO2.o (by omega) (by omega) HB2.o.size ?_;intro A' c' w' hO' hg;have c2':=(HK.o.grown hg (blk_ne_row HK.o HO2.o (by decide))).cell (j:=2) rfl;have HO':=aq hO';have HG:=aq hg;clear hO' hg;refine hK _ _ ?_;clear hK K);go_roundw
       case rel=>exact⟨q+1,A',c',by omega,by go_num,by first | rfl | simp only [Nat.zero_add],Own.of_eq HO'.o (by omega) (by rw [<- Nat.add_assoc,szL_succ,List.map_append,HS.o];rfl),HB2.o.grown HG.o HB2.o.size (fun k hk=>Ownv.ob' HO2.o hk),HK.o.grown HG.o (blk_ne_row HK.o HO2.o (by decide))⟩
       case measure=>simp [intOf];omega
     . obtain rfl:q=32:=by omega
       go_wp2;go_roundw
       case rel=>exact⟨2,A2,c2,by omega,by go_num,rfl,HO2.o,HB2.o⟩
       case measure=>simp [intOf]
  . simp only [ints8,spansL,List.map_cons,List.map_nil]
    rw [show ((2:Nat):Int)=2 from rfl];have hidx:∀ W,(Instr.index 334 (Value.agg #[.int .i64 40,.int .i64 512,.int .i64 8,.int .i64 528,.int .i64 1024,.int .i64 16,.int .i64 1056,.int .i64 2048,.int .i64 32,.int .i64 2112,.int .i64 6144,.int .i64 64]) (.int .i64 2)).run prog W= .ok (.agg #[.int .i64 1056,.int .i64 2048,.int .i64 32]) W:=fun _=>by kernel_rfl
    go_wp2;go_loopw [0,3] (fun out k wr'=>Sz2 w wr.heap.size 92 1056 2048 32 32 out k wr') (fun _ k _=>2080 - (intOf k).toNat)
    case atStart=>exact⟨0,A,c,by omega,rfl,rfl,Ownv.alloc HO.o _,HB.o.alloc HB.o.size _,Blk.new wr _ 333 rfl⟩
    case round =>
     obtain⟨q,A2,c2,hq,rfl,rfl,hO2,hB2,hK⟩:=hrel;have c1:=hK.cell (j:=1) rfl;have c2':=hK.cell (j:=2) rfl;have HK:=aq hK;have HO2:=aq hO2;have HB2:=aq hB2;clear hO2 hB2 hK;by_cases hlt:q<32
     . have eS:SZ (92+q)=1056+32*q:=by(unfold SZ;repeat' split)<;>omega
       have HS:=aq eS;have hle:((1056+32*q:Nat):Int)<=2048:=by omega
       clear eS;go_wp2_with (at_builtin;refine list_of rfl fun K hK=>wp_app1 _ _ 51 rfl el34 rfl (.int .i64 _) rfl rfl HO2.o (by omega) (by omega) HB2.o.size ?_;intro A' c' w' hO' hg;have c2':=(HK.o.grown hg (blk_ne_row HK.o HO2.o (by decide))).cell (j:=2) rfl;have HO':=aq hO';have HG:=aq hg;clear hO' hg;refine hK _ _ ?_;clear hK K);go_roundw
       case rel=>exact⟨q+1,A',c',by omega,by go_num,by first | rfl | simp only [Nat.zero_add],Own.of_eq HO'.o (by omega) (by rw [<- Nat.add_assoc,szL_succ,List.map_append,HS.o];rfl),HB2.o.grown HG.o HB2.o.size (fun k hk=>Ownv.ob' HO2.o hk),HK.o.grown HG.o (blk_ne_row HK.o HO2.o (by decide))⟩
       case measure=>simp [intOf];omega
     . obtain rfl:q=32:=by omega
       go_wp2;go_roundw
       case rel=>exact⟨3,A2,c2,by omega,by go_num,rfl,HO2.o,HB2.o⟩
       case measure=>simp [intOf]
  . simp only [ints8,spansL,List.map_cons,List.map_nil]
    rw [show ((3:Nat):Int)=3 from rfl];have hidx:∀ W,(Instr.index 334 (Value.agg #[.int .i64 40,.int .i64 512,.int .i64 8,.int .i64 528,.int .i64 1024,.int .i64 16,.int .i64 1056,.int .i64 2048,.int .i64 32,.int .i64 2112,.int .i64 6144,.int .i64 64]) (.int .i64 3)).run prog W= .ok (.agg #[.int .i64 2112,.int .i64 6144,.int .i64 64]) W:=fun _=>by kernel_rfl
    go_wp2;go_loopw [0,3] (fun out k wr'=>Sz2 w wr.heap.size 124 2112 6144 64 64 out k wr') (fun _ k _=>6208 - (intOf k).toNat)
    case atStart=>exact⟨0,A,c,by omega,rfl,rfl,Ownv.alloc HO.o _,HB.o.alloc HB.o.size _,Blk.new wr _ 333 rfl⟩
    case round =>
     obtain⟨q,A2,c2,hq,rfl,rfl,hO2,hB2,hK⟩:=hrel;have c1:=hK.cell (j:=1) rfl;have c2':=hK.cell (j:=2) rfl;have HK:=aq hK;have HO2:=aq hO2;have HB2:=aq hB2;clear hO2 hB2 hK;by_cases hlt:q<64
     . have eS:SZ (124+q)=2112+64*q:=by(unfold SZ;repeat' split)<;>omega
       have HS:=aq eS;have hle:((2112+64*q:Nat):Int)<=6144:=by omega
       clear eS;go_wp2_with (at_builtin;refine list_of rfl fun K hK=>wp_app1 _ _ 51 rfl el34 rfl (.int .i64 _) rfl rfl HO2.o (by omega) (by omega) HB2.o.size ?_;intro A' c' w' hO' hg;have c2':=(HK.o.grown hg (blk_ne_row HK.o HO2.o (by decide))).cell (j:=2) rfl;have HO':=aq hO';have HG:=aq hg;clear hO' hg;refine hK _ _ ?_;clear hK K);go_roundw
       case rel=>exact⟨q+1,A',c',by omega,by go_num,by first | rfl | simp only [Nat.zero_add],Own.of_eq HO'.o (by omega) (by rw [<- Nat.add_assoc,szL_succ,List.map_append,HS.o];rfl),HB2.o.grown HG.o HB2.o.size (fun k hk=>Ownv.ob' HO2.o hk),HK.o.grown HG.o (blk_ne_row HK.o HO2.o (by decide))⟩
       case measure=>simp [intOf];omega
     . obtain rfl:q=64:=by omega
       go_wp2;go_roundw
       case rel=>exact⟨4,A2,c2,by omega,by go_num,rfl,HO2.o,HB2.o⟩
       case measure=>simp [intOf]
  . go_wp2
    go_ret;exact⟨A,c,rfl,HO.o,HB.o⟩
def BsInv(n:Nat)(i j:Value):Prop:=∃ p q:Nat,p<=q/\q<=188/\i= .int .i64 p/\j= .int .i64 q/\(∀ t,t<p->SZ t<n)/\(q<188->n<=SZ q)
def BsPost(n:Nat)(w:World)(e:Ending)(w':World):Prop:=(∃ b:Bool,e= .returned (.tuple #[.int .i64 (ix n:Int),.bool b]))/\w=w'
theorem bsearch_any(A:Option Addr)(c n:Nat)(w:World)(hn:n<=6144)(h:Rd .i64 w A 188 c (szL 188)) :
 Calls prog 227 #[.slice A 188 c,.int .i64 n] w (BsPost n w):=by
 have H:=aq h;clear h;go_enter func227,ntmps227;go_wp2;go_loop [7,8] (fun i j=>BsInv n i j) (fun i j=>(intOf j).toNat - (intOf i).toNat)
 case atStart=>exact⟨0,188,by omega,by omega,rfl,rfl,fun t ht=>by omega,fun h=>by omega⟩
 case round =>
  obtain⟨p,q,hpq,hq,rfl,rfl,h1,h2⟩:=hrel;have H1:=aq h1;have H2:=aq h2;clear h1 h2;by_cases hlt:p<q
  . have hm:(p+q) / 2<188:=by omega
    have hc:=Rd.cell H.o hm;rw [gi_szL _ _ hm]at hc;have hix:=fun W=>Rdv.ixI H.o el34 hm .i64 (((p:Int)+q) / 2) (by omega) W;have hml:p<=(p+q) / 2/\(p+q) / 2<q:=by omega
    have hmi:((p:Int)+q) / 2=((p+q) / 2:Nat):=by omega
    have HMI:=aq hmi;clear hmi;by_cases hs:SZ ((p+q) / 2)<n
    . have hd:decide ((SZ ((p+q) / 2):Int)<(n:Int))=true:=by simp;exact hs
      go_wp2_with (go_at_call 285;refine(less_any _ _ _).mono ?_;rintro e w' ⟨rfl,rfl⟩;rw [hd]);go_round
      case rel=>exact⟨(p+q) / 2+1,q,by omega,hq,by rw [HMI.o];go_num,rfl,fun t ht=>Nat.lt_of_le_of_lt (SZ_le (by omega)) hs,H2.o⟩
      case measure=>simp [intOf];omega
    . have hd:decide ((SZ ((p+q) / 2):Int)<(n:Int))=false:=by simp;omega
      go_wp2_with (go_at_call 285;refine(less_any _ _ _).mono ?_;rintro e w' ⟨rfl,rfl⟩;rw [hd]);go_round
      case rel=>exact⟨p,(p+q) / 2,by omega,by omega,rfl,by rw [HMI.o],H1.o,fun _=>by omega⟩
      case measure=>simp [intOf];omega
  . obtain rfl:p=q:=by omega
    have e:p=ix n:=by
     have h3:=ix_lt hn;rcases Nat.lt_trichotomy p (ix n) with h4 | h4 | h4
     . have:=ix_below h4 hn
       have:=H2.o (by omega);omega
     . exact h4
     . have:=H1.o _ h4
       have:=ix_ge hn;omega
    have hm:=ix_lt hn;rw [<- e]at hm;have hc:=Rd.cell H.o hm;rw [gi_szL _ _ hm]at hc;have hix:=fun W=>Rdv.ix H.o el34 hm .i64 W;have HE:=aq e;clear e;by_cases hs:SZ p=n
    . have hd:((SZ p:Int) == (n:Int))=true:=beq_t (by omega)
      go_wp2;go_ret2;exact⟨⟨_,by rw [<- HE.o];rfl⟩,rfl⟩
    . have hd:((SZ p:Int) == (n:Int))=false:=beq_f (by omega)
      go_wp2_with (go_at_call 286;refine(nan1_any _ _).mono ?_;rintro e w' ⟨rfl,rfl⟩);go_ret2;exact⟨⟨_,by rw [<- HE.o];rfl⟩,rfl⟩
theorem must_ok(e:Int)(w:World):Calls prog 182 #[.bool true,.int .i64 e] w fun en w'=>en= .returned (.tuple #[])/\w=w':=by
 go_enter func182,ntmps182;go_wp2;go_end0;exact⟨rfl,rfl⟩
def pan(e:Int):List PanicEntry:=[{v:=.iface 30 (.int .i64 e),recovered:=false}]
theorem must_bad(e:Int)(w:World):Calls prog 182 #[.bool false,.int .i64 e] w fun en w'=>en= .panicked (pan e)/\w=w':=by
 go_enter func182,ntmps182;go_wp2;simp [bodyPost,pan]
theorem size_any(x0 x1 x2 x3 x4 x5 x6 i:Int)(w:World):Calls prog 111 #[.agg #[.int .i64 x0,.int .i64 x1,.int .i64 x2,.int .i64 x3,.int .i64 x4,.int .i64 x5,.int .i64 x6],.int .i64 i] w fun en w' =>
 en= .returned (.int .i64 (if i<x5 then x3 else x2))/\Below w.heap.size w w':=by
 by_cases h:i<x5
 . rw [if_pos h]
   go_enter func111,ntmps111;go_wp2;go_ret;exact⟨rfl,(Below.refl _ _).alloc (Nat.le_refl _) _⟩
 . rw [if_neg h]
   go_enter func111,ntmps111;go_wp2;go_ret;exact⟨rfl,(Below.refl _ _).alloc (Nat.le_refl _) _⟩
theorem check_lay(x0 x1 x2 x3 x4 x5 x6:Int)(w:World):Calls prog 185 #[.agg #[.int .i64 x0,.int .i64 x1,.int .i64 x2,.int .i64 x3,.int .i64 x4,.int .i64 x5,.int .i64 x6]] w fun en w' =>
 en= .returned (.int .i64 (if 1<x1 then 24 else 0))/\Below w.heap.size w w':=by
 by_cases h:1<x1
 . rw [if_pos h]
   go_enter func185,ntmps185;go_wp2;go_ret;exact⟨rfl,(Below.refl _ _).alloc (Nat.le_refl _) _⟩
 . rw [if_neg h]
   go_enter func185,ntmps185;go_wp2;go_ret;exact⟨rfl,(Below.refl _ _).alloc (Nat.le_refl _) _⟩
def LY(b:Nat):List Int:=[(b:Int),(bC b:Int),(lo b:Int),(sh b:Int),(los b:Int),(shs b:Int),(fi b:Int)]
def PlPost(b:Nat)(w:World)(e:Ending)(w':World):Prop:=e= .returned (.agg (ints8 (LY b)).toArray)/\Below w.heap.size w w'
theorem LY_one{b:Nat}(h1:b<=6144):LY b=[(b:Int),1,(nx b:Int),0,1,0,(nx b:Int) - b]:=by
 have e1:bC b=1:=bC_one h1;have e2:shs b=0:=by unfold shs;rw [if_pos h1]
 have e3:lo b=nx b:=by unfold lo;rw [av_one h1]
 have e4:sh b=0:=by unfold sh;rw [if_pos h1]
 have e5:los b=1:=by unfold los;rw [e1,e2]
 have e6:tl b=b:=by unfold tl ck;rw [if_pos h1];omega
 have e7:fi b=nx b - b:=by unfold fi;rw [e2,e3,e4,e5,e6];omega
 have:=nx_ge h1;unfold LY;rw [e1,e2,e3,e4,e5,e7];simp;omega
theorem info99:(prog.info? 175).map (·.size)=some 7:=by kernel_rfl
theorem info23:(prog.info? 122).map (·.size)=some 7:=by kernel_rfl
theorem res99{W:World}{b:Nat}{m:List Int}(h:Blk W b 175 (ints8 m))(hl:m.length=7):(loadVar 175 ⟨b,0,none⟩).run prog W= .ok (.agg (ints8 m).toArray) W :=
 run_loadVar_row (P:=prog) W b 175 175 _ (0,0) _ h underlying175 rfl (by rw [info99];simp [ints8,hl])
theorem res23{W:World}{b:Nat}{m:List Int}(h:Blk W b 122 (ints8 m))(hl:m.length=7):(loadVar 122 ⟨b,0,none⟩).run prog W= .ok (.agg (ints8 m).toArray) W :=
 run_loadVar_row (P:=prog) W b 122 122 _ (0,0) _ h underlying122 rfl (by rw [info23];simp [ints8,hl])
theorem Blk.seven{w:World}{b:Nat}{t:TypeId}{x0 x1 x2 x3 x4 x5 x6:Int}(h:Blk w b t (ints8 [x0,x1,x2,x3,x4,x5,x6])) :
 (w.cell? ⟨b,0,none⟩=some (.int .i64 x0)/\w.cell? ⟨b,1,none⟩=some (.int .i64 x1)/\w.cell? ⟨b,2,none⟩=some (.int .i64 x2)/\w.cell? ⟨b,3,none⟩=some (.int .i64 x3)/\w.cell? ⟨b,4,none⟩=some (.int .i64 x4)/\w.cell? ⟨b,5,none⟩=some (.int .i64 x5)/\w.cell? ⟨b,6,none⟩=some (.int .i64 x6)) /\
 (w.frozen? ⟨b,0,none⟩=false/\w.frozen? ⟨b,1,none⟩=false/\w.frozen? ⟨b,2,none⟩=false/\w.frozen? ⟨b,3,none⟩=false/\w.frozen? ⟨b,4,none⟩=false/\w.frozen? ⟨b,5,none⟩=false/\w.frozen? ⟨b,6,none⟩=false) :=
 ⟨⟨h.cell rfl,h.cell rfl,h.cell rfl,h.cell rfl,h.cell rfl,h.cell rfl,h.cell rfl⟩,h.frozen 0,h.frozen 1,h.frozen 2,h.frozen 3,h.frozen 4,h.frozen 5,h.frozen 6⟩
theorem plan_one(b:Nat)(w:World)(h1:1<=b)(h2:b<=6144):Calls prog 166 #[.int .i64 b] w (PlPost b w):=by
 have hlt:=ix_lt h2;have hd:decide ((b:Int)<=79560)=true:=by simp;omega
 go_enter func166,ntmps166;go_wp2_with (first
  | (go_at_call 182;refine(must_ok _ _).mono ?_;rintro e w' ⟨rfl,rfl⟩))
 have hR0:Blk ((w.alloc (.cells (ints8 [0,0,0,0,0,0,0]).toArray 175)).alloc (.cells (ints8 [(b:Int),1,0,0,0,0,0]).toArray 175)) w.heap.size 175 (ints8 [0,0,0,0,0,0,0]):=(Blk.new w _ 175 rfl).alloc _;have hL0:Blk ((w.alloc (.cells (ints8 [0,0,0,0,0,0,0]).toArray 175)).alloc (.cells (ints8 [(b:Int),1,0,0,0,0,0]).toArray 175)) (w.heap.size+1) 175 (ints8 [(b:Int),1,0,0,0,0,0]):=Blk.new _ _ 175 (by simp);have hB0:Below w.heap.size w ((w.alloc (.cells (ints8 [0,0,0,0,0,0,0]).toArray 175)).alloc (.cells (ints8 [(b:Int),1,0,0,0,0,0]).toArray 175)):=((Below.refl _ _).alloc (Nat.le_refl _) _).alloc (by simp) _;simp only [ints8,List.map_cons,List.map_nil]at hR0 hL0 hB0;generalize hW:(w.alloc (.cells #[.int .i64 0,.int .i64 0,.int .i64 0,.int .i64 0,.int .i64 0,.int .i64 0,.int .i64 0] 175)).alloc (.cells #[.int .i64 b,.int .i64 1,.int .i64 0,.int .i64 0,.int .i64 0,.int .i64 0,.int .i64 0] 175)=W at *;obtain⟨RB,hRB⟩:∃ RB,RB=w.heap.size:=⟨_,rfl⟩
 obtain⟨LB,hLB⟩:∃ LB,LB=w.heap.size+1:=⟨_,rfl⟩
 rw [<- hLB]at hL0 ⊢;rw [<- hRB]at hR0 ⊢;have HRB:=aq hRB;have HLB:=aq hLB;have HW:=aq hW;clear hRB hLB hW;obtain⟨⟨c0,c1,c2,c3,c4,c5,c6⟩,-⟩:=Blk.seven hL0;go_region_held3 (fun W=>W.cell? ⟨LB,0,none⟩=some (.int .i64 b)/\W.cell? ⟨LB,1,none⟩=some (.int .i64 1)/\W.cell? ⟨LB,2,none⟩=some (.int .i64 0)/\W.cell? ⟨LB,3,none⟩=some (.int .i64 0)/\W.cell? ⟨LB,4,none⟩=some (.int .i64 0)/\W.cell? ⟨LB,5,none⟩=some (.int .i64 0)/\W.cell? ⟨LB,6,none⟩=some (.int .i64 0))
  (first | exact⟨c0,c1,c2,c3,c4,c5,c6⟩ | exact(Blk.seven hL1).1)
  (first | (go_at_call 185;refine(check_lay _ _ _ _ _ _ _ _).mono ?_;rintro e w1 ⟨rfl,hB1⟩;have hL1:=(Blk.drew hL0).below hB1))
 clear c0 c1 c2 c3 c4 c5 c6;have hR1:=Blk.below (Blk.drew hR0) hB1;have HB1:=aq (hB0.trans (((Below.refl _ W).drew.trans hB1).mono hB0.size));clear hB0 hB1 hL0 hR0;have hw0:IntKind.i64.wrap ((b:Int)+IntKind.i64.wrap 0)=b:=by rw [IntKind.wrap_i64,IntKind.wrap_i64];omega
 have hw1:IntKind.i64.wrap 0=0:=by decide
 rw [hw0,hw1];clear hw0 hw1;have hne:LB≠RB:=by rw [HLB.o,HRB.o];omega
 have hne':RB≠LB:=hne.symm;have hN1:=nx_ge h2;have hN2:=nx_le h2;have e1:SZ (ix b)=nx b:=rfl;obtain⟨N,hN⟩:∃ N,N=nx b:=⟨_,rfl⟩
 rw [<- hN]at hN1 hN2 e1;have HN:=aq hN;clear hN;go_wp2_with (first
  | (go_at_call 226;refine(sizes_any _).mono ?_;rintro e w2 ⟨A,c,rfl,hO,hB2⟩;have hRd:=Own.rd hO;have hc:=Rd.cell hRd hlt;rw [gi_szL _ _ hlt,e1]at hc;have hix:=fun W=>Rdv.ix hRd el34 hlt .i64 W;have hL2:=hL1.below hB2;have hR2:=hR1.below hB2;obtain⟨⟨c0,c1,c2,c3,c4,c5,c6⟩,f0,f1,f2,f3,f4,f5,f6⟩:=Blk.seven hL2;obtain⟨⟨d0,d1,d2,d3,d4,d5,d6⟩,g0,g1,g2,g3,g4,g5,g6⟩:=Blk.seven hR2;have HB2:=aq (HB1.o.trans (hB2.mono HB1.o.size));clear hB2 e1)
  | (go_at_call 227;refine(bsearch_any A c b _ h2 hRd).mono ?_;rintro e w3 ⟨⟨fnd,rfl⟩,rfl⟩))
 have hF:Blk ((((((((((w2.setCell ⟨LB,2,none⟩ (.int .i64 N)).setCell ⟨LB,4,none⟩ (.int .i64 1)).setCell ⟨LB,6,none⟩ (.int .i64 ((N:Int) - b))).setCell ⟨RB,0,none⟩ (.int .i64 b)).setCell ⟨RB,1,none⟩ (.int .i64 1)).setCell ⟨RB,2,none⟩ (.int .i64 N)).setCell ⟨RB,3,none⟩ (.int .i64 0)).setCell ⟨RB,4,none⟩ (.int .i64 1)).setCell ⟨RB,5,none⟩ (.int .i64 0)).setCell ⟨RB,6,none⟩ (.int .i64 ((N:Int) - b))) RB 175 (ints8 [(b:Int),1,N,0,1,0,(N:Int) - b]) :=
  (((((((((hR2.other hne _ _).other hne _ _).other hne _ _).set 0 _).set 1 _).set 2 _).set 3 _).set 4 _).set 5 _).set 6 _
 have hl1:w.heap.size<=LB:=by rw [HLB.o];omega
 have hr1:w.heap.size<=RB:=by rw [HRB.o];omega
 have hBe:=(((((((((HB2.o.setCell (p:=⟨LB,2,none⟩) hl1 (.int .i64 N)).setCell (p:=⟨LB,4,none⟩) hl1 (.int .i64 1)).setCell (p:=⟨LB,6,none⟩) hl1 (.int .i64 ((N:Int) - b))).setCell (p:=⟨RB,0,none⟩) hr1 (.int .i64 b)).setCell (p:=⟨RB,1,none⟩) hr1 (.int .i64 1)).setCell (p:=⟨RB,2,none⟩) hr1 (.int .i64 N)).setCell (p:=⟨RB,3,none⟩) hr1 (.int .i64 0)).setCell (p:=⟨RB,4,none⟩) hr1 (.int .i64 1)).setCell (p:=⟨RB,5,none⟩) hr1 (.int .i64 0)).setCell (p:=⟨RB,6,none⟩) hr1 (.int .i64 ((N:Int) - b));have HF:=aq hF;have HBE:=aq hBe;clear hF hBe;generalize (((((((((w2.setCell ⟨LB,2,none⟩ (.int .i64 N)).setCell ⟨LB,4,none⟩ (.int .i64 1)).setCell ⟨LB,6,none⟩ (.int .i64 ((N:Int) - b))).setCell ⟨RB,0,none⟩ (.int .i64 b)).setCell ⟨RB,1,none⟩ (.int .i64 1)).setCell ⟨RB,2,none⟩ (.int .i64 N)).setCell ⟨RB,3,none⟩ (.int .i64 0)).setCell ⟨RB,4,none⟩ (.int .i64 1)).setCell ⟨RB,5,none⟩ (.int .i64 0)).setCell ⟨RB,6,none⟩ (.int .i64 ((N:Int) - b))=Wf at *;refine bodyPost_ret (v:=.agg (ints8 [(b:Int),1,N,0,1,0,(N:Int) - b]).toArray) ?_ rfl ⟨by rw [LY_one h2,HN.o],HBE.o⟩;rw [results_c rfl];have l1:=res99 HF.o rfl;simp [asAddr,l1,Sem.run_pure]
end Go.Proofs.YthmhogdceolkdaaGreat.Cr