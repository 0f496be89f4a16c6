/- Bundle. Conditions: none. -/
import Derived.Test.YthmhogdceolkdaaGreatBqbw
set_option linter.unusedVariables false
set_option linter.unusedSimpArgs false
namespace Go.Proofs.YthmhogdceolkdaaGreat.Cr
open Tryz
open Go.RowKit Go.Shelf
attribute [local go_sem] Oper.semAt_some
set_option maxRecDepth 100000
set_option maxHeartbeats 8000000
section
variable {ops : Array Oper} {rest : List Oper} {op : Oper} {a : Act} {w : World} {Q : Exit -> Act -> World -> Prop} {b : Nat} {t : TypeId} {cs suf : List Value}
theorem ldpre(hgd:op.guard=none)(ty:TypeId)(x:Operand)(ho:op.op= .load ty x)(hx:a.eval x= .pointer (some ⟨b,0,none⟩))(hB:Blk w b t (cs ++ suf))(d:TypeDesc)(hu:prog.underlying ty=some d)(hd:d.isRow=true)(hi:(prog.info? ty).map (·.size)=some cs.length)
 (h:wpList prog ops Q rest (a.put op.dst (.agg cs.toArray)) w):wpList prog ops Q (op :: rest) a w :=
 wpList_plain hgd fun _ hK=>wp_load_mid ty x ho b 0 hx cs d (fun j v hj=>by
  rw [Nat.zero_add]
  exact hB.cell (by rw [List.getElem?_append_left (List.getElem?_eq_some_iff.1 hj).1];exact hj)) hu hd hi (hK _ _ h)
theorem ldrowG(hgd:Region.wanted op (yielded ops a.tmps)=true)(ty:TypeId)(x:Operand)(ho:op.op= .load ty x)(hx:a.eval x= .pointer (some ⟨b,0,none⟩))(hB:Blk w b t cs)(d:TypeDesc)(hu:prog.underlying ty=some d)(hd:d.isRow=true)(hi:(prog.info? ty).map (·.size)=some cs.length)
 (h:wpList prog ops Q rest (a.put op.dst (.agg cs.toArray)) w):wpList prog ops Q (op :: rest) a w :=
 BigFrame.wpList_want hgd fun _ hK=>wp_ldrow ty x ho hx hB d hu hd hi (hK _ _ h)
end
theorem rm16a(W:World):Calls prog 11 #[.agg #[.int .i64 6,.int .i64 1,.int .i64 0,.int .i64 100000,.int .i64 8],.int .i64 0,.int .i64 1,.int .i64 2] W fun e w'=>e= .returned (.tuple #[.int .i64 300,.int .i64 0])/\Below W.heap.size W w':=by
 have h:=room_any 6 1 0 100000 8 0 1 2 W (by omega);rw [show okR 6 1 0 100000 8 0 1 2=true from by decide +kernel,if_pos rfl,if_pos rfl,dt16.1,show(2:Int)*((150:Nat):Int)=300 from rfl]at h;exact h
theorem rm16b(W:World):Calls prog 11 #[.agg #[.int .i64 6,.int .i64 1,.int .i64 0,.int .i64 100000,.int .i64 8],.int .i64 5,.int .i64 2,.int .i64 2] W fun e w'=>e= .returned (.tuple #[.int .i64 0,.int .i64 2])/\Below W.heap.size W w':=by
 have h:=room_any 6 1 0 100000 8 5 2 2 W (by omega);rw [show okR 6 1 0 100000 8 5 2 2=false from by decide +kernel,if_neg Bool.false_ne_true,if_neg Bool.false_ne_true]at h;exact h
theorem rm16c(W:World):Calls prog 11 #[.agg #[.int .i64 6,.int .i64 1,.int .i64 0,.int .i64 100000,.int .i64 8],.int .i64 0,.int .i64 1,.int .i64 3] W fun e w'=>e= .returned (.tuple #[.int .i64 0,.int .i64 2])/\Below W.heap.size W w':=by
 have h:=room_any 6 1 0 100000 8 0 1 3 W (by omega);rw [show okR 6 1 0 100000 8 0 1 3=false from by decide +kernel,if_neg Bool.false_ne_true,if_neg Bool.false_ne_true]at h;exact h
theorem lvB{W:World}{b:Nat}{x:Bool}(h:W.cell? ⟨b,0,none⟩=some (.bool x)):(loadVar 4 ⟨b,0,none⟩).run prog W= .ok (.bool x) W:=by
 simp [go_sem,h]
theorem fn_nil(fn:Fn)(first cap:Array Value)(w:World):(binOp .eql 47 (.func fn first cap) .nilFunc).run prog w= .ok (.bool false) w:=by rfl
theorem okT16:okT ((6:Nat):Int) 1 0 100000 8 7 0 0 1 ((2:Nat):Int) ((16:Nat):Int) 0=true:=by decide +kernel
theorem dl16:(dtL ((6:Nat):Int) 1 0 0 1).length=150:=dt16.1
theorem rm300:(300:Int)=((2:Nat):Int)*((dtL ((6:Nat):Int) 1 0 0 1).length:Int):=by rw [dl16];rfl
theorem tr16(W:World):Calls prog 13 #[.agg #[.int .i64 6,.int .i64 1,.int .i64 0,.int .i64 100000,.int .i64 8],.agg #[.int .i64 7,.int .i64 0,.int .i64 0,.int .i64 1,.int .i64 2,.int .i64 16,.int .i64 0,.bool false]] W fun e w'=>e= .returned (.tuple #[.agg #[.int .i64 16,.int .i64 300,.int .i64 2,.int .i64 100000,.int .i64 0],.int .i64 0])/\Below W.heap.size W w':=transK 6 1 0 100000 8 7 0 0 1 2 16 0 300 false okT16 rm300 W
theorem pt16(W:World)(EB TB:Nat)(h1:Blk W EB 30 [.int .i64 0])(h2:Blk W TB 36 (c5 16 300 2 100000 0)) :
 SeqX (0+2) 1 55 #[.pointer (some ⟨EB,0,none⟩),.pointer (some ⟨TB,0,none⟩)] encP (KpP (W.heap.size+2) EB TB [.int .i64 16,.int .i64 300,.int .i64 2,.int .i64 100000,.int .i64 0]) (fun ys=>ys=[((40:Int),(300:Int))]) (fun _=>True) (fun pre x _=>pre.length=0/\x=((40:Int),(300:Int))) W :=
 partsX 16 2 150 100000 0 40 (by omega) (by omega) (by rw [<- k16.1];rfl) (by omega) (by omega) (by omega) (by omega) W EB TB h1 h2
theorem gn16(w:World):Calls prog 27 #[.agg #[.int .i64 6,.int .i64 1,.int .i64 0]] w fun e w'=>∃ P A N cap ps,e= .returned (.tuple #[.pointer (some ⟨P,0,none⟩),.int .i64 0])/\GrS w' w.heap.size P 6 1 0 A N cap ps/\Below w.heap.size w w':=gnew_ok 6 1 0 w (by decide)
def y16:List Int:=exD 40 100000 1 150 2 0 xs16
theorem sd16(base P:Nat)(A:Option Addr)(N cap:Nat)(ps:List (Int × Int))(X:Option Addr)(cx:Nat)(w:World)(hG:GrS w base P 6 1 0 A N cap ps)(hX:Rd .u8 w X 16 cx xs16)(hA:blk A<w.heap.size) :
 Calls prog 26 #[.agg #[.int .i64 6,.int .i64 1,.int .i64 0,.int .i64 100000,.int .i64 8],.int .i64 3,.pointer (some ⟨P,0,none⟩),.agg #[.int .i64 7,.int .i64 0,.int .i64 0,.int .i64 1,.int .i64 2,.int .i64 16,.int .i64 0,.bool false],.slice X 16 cx] w fun e w'=>e= .returned (.int .i64 0)/\GrS w' base P 6 1 0 A N cap (putL (dtL ((6:Nat):Int) 1 0 0 1) (mdL 1 (sc8 (gIni 7 3 0) y16) 150) ps 150)/\w.grownBy w' (some (blk A)):=by
 have h:=send_ok 6 2 1 16 1 0 100000 8 7 0 0 1 0 3 300 false base P A N cap ps X cx xs16 y16 w okT16 rm300 (by omega) rfl hG hX (encD16 X cx) (by rw [dl16];exact exD16_len) exD16_bit (by decide) hA;rw [dl16]at h;exact h
theorem rv16(base P:Nat)(A:Option Addr)(N cap:Nat)(ps:List (Int × Int))(w:World)(hG:GrS w base P 6 1 0 A N cap (putL (dtL ((6:Nat):Int) 1 0 0 1) (mdL 1 (sc8 (gIni 7 3 0) y16) 150) ps 150)) :
 Calls prog 25 #[.agg #[.int .i64 6,.int .i64 1,.int .i64 0,.int .i64 100000,.int .i64 8],.int .i64 3,.pointer (some ⟨P,0,none⟩),.agg #[.int .i64 7,.int .i64 0,.int .i64 0,.int .i64 1,.int .i64 2,.int .i64 16,.int .i64 0,.bool false]] w fun e w'=>∃ A' c',e= .returned (.tuple #[.slice A' 16 c',.int .i64 0])/\Rd .u8 w' A' 16 c' xs16/\Below w.heap.size w w':=by
 have hps:ps.length=168*6:=by
  have h1:=hG.o.cases.1;rw [putL_len]at h1;rw [h1,hG.n]
 have hr:=rt_grid (ini:=gIni 7 3 0) (B:=6) (c:=1) (k:=0) (f:=0) (b:=1) (bits:=y16) (ps:=ps) (n:=150) dl16.symm dt16.2.1 hps exD16_len exD16_bit _ rfl;refine(recv_ok 6 2 1 16 1 0 100000 8 7 0 0 1 0 3 300 false base P A N cap (putL (dtL ((6:Nat):Int) 1 0 0 1) (mdL 1 (sc8 (gIni 7 3 0) y16) 150) ps 150) x40 xs16 w okT16 (by omega) rm300 (by omega) rfl hG (by rw [dl16];exact hr.2) (by decide) us16 ?_ (by decide) te16).mono ?_
 . rw [dl16]
   show DecD (kS 16) (fS 16) 0 100000 8 1 300 _ x40;rw [k16.1,k16.2.1];exact dec16 hr.1
 . rintro e w' ⟨A',n',c',rfl,hR,hB⟩
   obtain rfl:n'=16:=(Rd.len hR).symm;exact⟨A',c',rfl,hR,hB⟩
theorem works_any(w:World):Calls prog 10 #[] w fun e w'=>e= .returned (.bool true)/\Below w.heap.size w w':=by
 have hmf:∀ (fn:Fn) (first cap:Array Value) (w:World),(Instr.makeFunc fn first cap).run prog w= .ok (.func fn first cap) w:=fun _ _ _ _=>rfl;have hfn:=fn_nil;refine(callsIn_wide (n:=3)).1 ?_;refine callsIn_of_wp_marks func10 rfl trivial ?_;simp only [ntmps10,List.size_toArray,List.length_cons,List.length_nil,Nat.reduceAdd,Nat.reduceSub,Array.replicate_succ,Array.replicate_zero,List.push_toArray,List.append_toArray,List.nil_append,List.cons_append];refine wpIn_wide.2 ?_;go_wp2_with fail;obtain⟨RB,hRB⟩:∃ x,x=w.heap.size:=⟨_,rfl⟩
 have HR0:Hid (Blk (w.alloc (.cells #[.bool false] 4)) RB 4 [.bool false]):=aq (Blk.new w [.bool false] 4 hRB);have HB0:=aq (bal (Below.refl w.heap.size w) (.cells #[.bool false] 4));have HRB:Hid (w.heap.size<=RB):=aq (by omega);rw [<- hRB];clear hRB;refine(given_any _).mono ?_;rintro e w1 ⟨rfl,hwx⟩;have HR1:=aq (HR0.o.below hwx);have HB1:=aq (HB0.o.trans (hwx.mono HB0.o.size));clear hwx HR0 HB0;dsimp only;go_wp2_with fail;have HC2:Hid (Blk ((w1.alloc (.cells #[.int .i64 6,.int .i64 1,.int .i64 0,.int .i64 100000,.int .i64 8] 25)).alloc (.cells #[.int .i64 7,.int .i64 0,.int .i64 0,.int .i64 1,.int .i64 2,.int .i64 16,.int .i64 0,.bool false] 28)) w1.heap.size 25 (c5 6 1 0 100000 8)):=aq ((Blk.new w1 [.int .i64 6,.int .i64 1,.int .i64 0,.int .i64 100000,.int .i64 8] 25 rfl).alloc _);have HG2:Hid (Blk ((w1.alloc (.cells #[.int .i64 6,.int .i64 1,.int .i64 0,.int .i64 100000,.int .i64 8] 25)).alloc (.cells #[.int .i64 7,.int .i64 0,.int .i64 0,.int .i64 1,.int .i64 2,.int .i64 16,.int .i64 0,.bool false] 28)) (w1.heap.size+1) 28 (c8 7 0 0 1 2 16 0 false)):=aq (Blk.new _ [.int .i64 7,.int .i64 0,.int .i64 0,.int .i64 1,.int .i64 2,.int .i64 16,.int .i64 0,.bool false] 28 (by simp));have hba:=bal (bal (Below.refl w1.heap.size w1) (.cells #[.int .i64 6,.int .i64 1,.int .i64 0,.int .i64 100000,.int .i64 8] 25)) (.cells #[.int .i64 7,.int .i64 0,.int .i64 0,.int .i64 1,.int .i64 2,.int .i64 16,.int .i64 0,.bool false] 28);have HR2:=aq (HR1.o.below hba);have HB6:=aq (HB1.o.trans (hba.mono HB1.o.size));obtain⟨CB,hCB⟩:∃ x,x=w1.heap.size:=⟨_,rfl⟩
 obtain⟨GB,hGB⟩:∃ x,x=w1.heap.size+1:=⟨_,rfl⟩
 rw [<- hGB]at HG2 ⊢;rw [<- hCB]at HC2 ⊢;have HS6:Hid (Blk ((w1.alloc (.cells #[.int .i64 6,.int .i64 1,.int .i64 0,.int .i64 100000,.int .i64 8] 25)).alloc (.cells #[.int .i64 7,.int .i64 0,.int .i64 0,.int .i64 1,.int .i64 2,.int .i64 16,.int .i64 0,.bool false] 28)) RB 4 [.bool false]/\Blk ((w1.alloc (.cells #[.int .i64 6,.int .i64 1,.int .i64 0,.int .i64 100000,.int .i64 8] 25)).alloc (.cells #[.int .i64 7,.int .i64 0,.int .i64 0,.int .i64 1,.int .i64 2,.int .i64 16,.int .i64 0,.bool false] 28)) CB 25 (c5 6 1 0 100000 8)/\Blk ((w1.alloc (.cells #[.int .i64 6,.int .i64 1,.int .i64 0,.int .i64 100000,.int .i64 8] 25)).alloc (.cells #[.int .i64 7,.int .i64 0,.int .i64 0,.int .i64 1,.int .i64 2,.int .i64 16,.int .i64 0,.bool false] 28)) GB 28 (c8 7 0 0 1 2 16 0 false)):=aq ⟨HR2.o,HC2.o,HG2.o⟩;clear hba hCB hGB HR1 HB1 HR2 HC2 HG2;generalize ((w1.alloc (.cells #[.int .i64 6,.int .i64 1,.int .i64 0,.int .i64 100000,.int .i64 8] 25)).alloc (.cells #[.int .i64 7,.int .i64 0,.int .i64 0,.int .i64 1,.int .i64 2,.int .i64 16,.int .i64 0,.bool false] 28))=w6 at *
 go_wp2_with (first
  | (refine ldrow (cs:=[.int .i64 6,.int .i64 1,.int .i64 0,.int .i64 100000,.int .i64 8]) rfl 25 (.tmp 1) rfl rfl HS6.o.2.1 _ underlying25 rfl (by rw [infoPC];rfl) ?_)
  | fail)
 refine(rm16a _).mono ?_;rintro e w7 ⟨rfl,hwx⟩;have HS7:Hid (Blk w7 RB 4 [.bool false]/\Blk w7 CB 25 (c5 6 1 0 100000 8)/\Blk w7 GB 28 (c8 7 0 0 1 2 16 0 false)):=aq ⟨HS6.o.1.below hwx,HS6.o.2.1.below hwx,HS6.o.2.2.below hwx⟩;have HB7:=aq (HB6.o.trans (hwx.mono HB6.o.size));clear hwx HS6 HB6;dsimp only
 go_wp2_with (first
  | (refine ldrow (cs:=[.int .i64 6,.int .i64 1,.int .i64 0,.int .i64 100000,.int .i64 8]) rfl 25 (.tmp 1) rfl rfl HS7.o.2.1 _ underlying25 rfl (by rw [infoPC];rfl) ?_)
  | fail)
 refine(rm16b _).mono ?_;rintro e w8 ⟨rfl,hwx⟩;have HS8:Hid (Blk w8 RB 4 [.bool false]/\Blk w8 CB 25 (c5 6 1 0 100000 8)/\Blk w8 GB 28 (c8 7 0 0 1 2 16 0 false)):=aq ⟨HS7.o.1.below hwx,HS7.o.2.1.below hwx,HS7.o.2.2.below hwx⟩;have HB8:=aq (HB7.o.trans (hwx.mono HB7.o.size));clear hwx HS7 HB7;dsimp only
 go_wp2_with (first
  | (refine ldrow (cs:=[.int .i64 6,.int .i64 1,.int .i64 0,.int .i64 100000,.int .i64 8]) rfl 25 (.tmp 1) rfl rfl HS8.o.2.1 _ underlying25 rfl (by rw [infoPC];rfl) ?_)
  | fail)
 refine(rm16c _).mono ?_;rintro e w9 ⟨rfl,hwx⟩;have HS9:Hid (Blk w9 RB 4 [.bool false]/\Blk w9 CB 25 (c5 6 1 0 100000 8)/\Blk w9 GB 28 (c8 7 0 0 1 2 16 0 false)):=aq ⟨HS8.o.1.below hwx,HS8.o.2.1.below hwx,HS8.o.2.2.below hwx⟩;have HB9:=aq (HB8.o.trans (hwx.mono HB8.o.size));clear hwx HS8 HB8;dsimp only;have HN10:Hid (Blk (w9.alloc (.cells #[.int .i64 0] 3)) w9.heap.size 3 [.int .i64 0]):=aq (Blk.new w9 [.int .i64 0] 3 rfl)
 have HS10:Hid (Blk (w9.alloc (.cells #[.int .i64 0] 3)) RB 4 [.bool false]/\Blk (w9.alloc (.cells #[.int .i64 0] 3)) CB 25 (c5 6 1 0 100000 8)/\Blk (w9.alloc (.cells #[.int .i64 0] 3)) GB 28 (c8 7 0 0 1 2 16 0 false)):=aq (by
  have h1:=HS9.o.1.lt;have h2:=HS9.o.2.1.lt;have h3:=HS9.o.2.2.lt
  exact⟨HS9.o.1.alloc _,HS9.o.2.1.alloc _,HS9.o.2.2.alloc _⟩)
 have HB10:=aq (bal HB9.o (.cells #[.int .i64 0] 3))
 have HNS:Hid (w.heap.size<=w9.heap.size/\RB≠w9.heap.size/\CB≠w9.heap.size/\GB≠w9.heap.size):=aq (by
  have h1:=HS9.o.1.lt;have h2:=HS9.o.2.1.lt;have h3:=HS9.o.2.2.lt;have h4:=HB9.o.size
  omega)
 go_wp2_with (first
  | (refine ldrow (cs:=[.int .i64 6,.int .i64 1,.int .i64 0,.int .i64 100000,.int .i64 8]) rfl 25 (.tmp 1) rfl rfl HS10.o.2.1 _ underlying25 rfl (by rw [infoPC];rfl) ?_)
  | (refine ldrow (cs:=[.int .i64 7,.int .i64 0,.int .i64 0,.int .i64 1,.int .i64 2,.int .i64 16,.int .i64 0,.bool false]) rfl 28 (.tmp 2) rfl rfl HS10.o.2.2 _ underlying28 rfl (by rw [infoGT];rfl) ?_)
  | fail)
 clear HS9 HB9;obtain⟨NB,hNB⟩:∃ x,x=w9.heap.size:=⟨_,rfl⟩
 rw [<- hNB]at HN10 HNS ⊢;generalize (w9.alloc (.cells #[.int .i64 0] 3))=w10 at *;clear hNB;refine(parts_any 6 1 0 100000 8 7 0 0 1 2 16 0 300 false w10 tr16).mono ?_;rintro e w17 ⟨EB2,TB2,rfl,hE2,hT2,hE3,hT3,hwx⟩;have HSEQ:=aq (pt16 w17 EB2 TB2 hE2 hT2);have HS17:Hid (Blk w17 RB 4 [.bool false]/\Blk w17 CB 25 (c5 6 1 0 100000 8)/\Blk w17 GB 28 (c8 7 0 0 1 2 16 0 false)):=aq ⟨HS10.o.1.below hwx,HS10.o.2.1.below hwx,HS10.o.2.2.below hwx⟩;have HN17:=aq (HN10.o.below hwx);have HB17:=aq (HB10.o.trans (hwx.mono HB10.o.size));have HN2:Hid ((EB2≠NB/\TB2≠NB)/\NB<w17.heap.size):=aq (by have h1:=HN10.o.lt;have h2:=hwx.size;omega);clear hE2 hT2 hE3 hT3 hwx HS10 HN10 HB10;dsimp only;go_wp2_with fail;refine(wpIn_wide (n:=0+3)).1 ?_;refine' rangeX (d:=0) (y:=1) (w0:=w17) (gf:=55) (lb:=#[.pointer (some ⟨EB2,0,none⟩),.pointer (some ⟨TB2,0,none⟩)]) rfl (enters_of func55 (by kernel_rfl) rfl) HSEQ.o
  (fun pre x W l o o' h hl ho=>h) (fun h1 h2=>⟨Nat.le_trans h1.z h2.z,fun q o hq ho hc=>h2.k q o hq (h1.k q o hq ho hc) hc,fun h=>h2.e (h1.e h),fun h=>h2.t (h1.t h)⟩)
  (fun W o o' h1 h2=>⟨(grownBy_putObj' W _ o').size,fun q o9 hq ho _=>(World.putObj_heap_other (by omega)).trans ho,fun h=>Blk.put h o' h1 h2,fun h=>Blk.put h o' h1 h2⟩) (Below.refl _ _) (fun _=>rfl)
  (fun pre W=>Below w.heap.size w W/\w17.heap.size<=W.heap.size/\(Blk W RB 4 [.bool false]/\Blk W CB 25 (c5 6 1 0 100000 8)/\Blk W GB 28 (c8 7 0 0 1 2 16 0 false))/\Blk W NB 3 [.int .i64 (pre.length:Int)])
  (fun _ _ _=>False)
  (fun s X Y h hb=>⟨h.1.trans (hb.mono h.1.size),Nat.le_trans h.2.1 hb.size,⟨h.2.2.1.1.below hb,h.2.2.1.2.1.below hb,h.2.2.1.2.2.below hb⟩,h.2.2.2.below hb⟩) (fun cd s X Y h hb=>h)
  (fun s X l o o' h hl hk ho=>⟨h.1.grown (grownBy_putObj' X l o') h.1.size (fun q e=>by cases e;exact Nat.le_trans HB17.o.size hl),Nat.le_trans h.2.1 (grownBy_putObj' X l o').size,⟨h.2.2.1.1.put o' hk ho,h.2.2.1.2.1.put o' hk ho,h.2.2.1.2.2.put o' hk ho⟩,h.2.2.2.put o' hk ho⟩) (fun cd s X l o o' h hl hk ho=>h)
  ⟨HB17.o,Nat.le_refl _,HS17.o,HN17.o⟩ _ ?assign ?body ?done ?stop
 case assign =>
  intro l x W K hK;unfold encP;gi_wp2;exact hK
 case stop =>
  rintro D cd pre W hD _ h;exact h.elim
 case body =>
  rintro l pre it W4 ⟨hBw,hZw,hS4,hN4⟩ ⟨hp,hit⟩;rw [hp]at hN4;have hN4:Blk W4 NB 3 [.int .i64 0]:=hN4;have hl1:∀ z:Int × Int,((pre ++ [z]).length:Int)=1:=fun z=>by rw [List.length_append,hp];rfl
  have HPL:=aq hl1;have HBW:=aq hBw;have HZW:=aq hZw;have HS4:=aq hS4;have HN4:=aq hN4;have n0:=hN4.cell (j:=0) (v:=.int .i64 0) rfl;have n1:=hN4.frozen 0;clear hS4 hN4 hl1 hBw hp hZw;rw [hit];clear hit;gi_wp2_with fail;have hn2:=HN2.o;have hns:=HNS.o;have hkx:=Kx.set (OB:=NB) (FB:=NB) W4 0 (.int .i64 1) (Or.inl rfl);refine⟨hkx.from hn2.2 hn2.2,hkx.kp (by omega) (by omega) ⟨hn2.1.1,hn2.1.1,hn2.1.2,hn2.1.2⟩,HBW.o.setCell (p:=⟨NB,0,none⟩) (by exact hns.1) _,Nat.le_trans HZW.o hkx.1,⟨HS4.o.1.other (g:=NB) hns.2.1.symm 0 _,HS4.o.2.1.other (g:=NB) hns.2.2.1.symm 0 _,HS4.o.2.2.other (g:=NB) hns.2.2.2.symm 0 _⟩,?_⟩;rw [HPL.o];exact HN4.o.set 0 _
 case done =>
  rintro D xs W4 hD rfl ⟨hBw,hZw,hS4,hN4⟩ hK;have hN4:Blk W4 NB 3 [.int .i64 1]:=hN4;have HZ4:Hid (Blk W4 RB 4 [.bool false]/\Blk W4 CB 25 (c5 6 1 0 100000 8)/\Blk W4 GB 28 (c8 7 0 0 1 2 16 0 false)/\Blk W4 NB 3 [.int .i64 1]/\W4.heap[D]?=some (.deferred (some []))):=aq ⟨hS4.1,hS4.2.1,hS4.2.2,hN4,hK⟩;have HBW:=aq hBw;have HDN:Hid (w.heap.size<=D):=aq (Nat.le_trans HB17.o.size hD);clear hBw hZw hS4 hN4 hK hD
  go_wp2_with (first
   | (refine ldpre (cs:=[.int .i64 6,.int .i64 1,.int .i64 0]) (suf:=[.int .i64 100000,.int .i64 8]) rfl 23 (.tmp 54) rfl rfl HZ4.o.2.1 _ underlying23 rfl (by rw [infoGC];rfl) ?_)
   | fail)
  refine(gn16 W4).mono ?_;rintro e w5 ⟨P,A,N,cap,ps,rfl,hGr,hwx⟩;have HZ5:Hid (Blk w5 RB 4 [.bool false]/\Blk w5 CB 25 (c5 6 1 0 100000 8)/\Blk w5 GB 28 (c8 7 0 0 1 2 16 0 false)/\Blk w5 NB 3 [.int .i64 1]/\w5.heap[D]?=some (.deferred (some []))):=aq ⟨HZ4.o.1.below hwx,HZ4.o.2.1.below hwx,HZ4.o.2.2.1.below hwx,HZ4.o.2.2.2.1.below hwx,(hwx.block D (Array.getElem?_eq_some_iff.1 HZ4.o.2.2.2.2).1).trans HZ4.o.2.2.2.2⟩;have HB5:=aq (HBW.o.trans (hwx.mono HBW.o.size));have HGR5:=aq hGr;have HAB:Hid (W4.heap.size<=blk A/\blk A<w5.heap.size):=aq (by have h1:=hGr.o.blk_ge (by have:=hGr.n;omega);exact h1.2)
  have HNA:Hid (RB≠blk A/\CB≠blk A/\GB≠blk A/\NB≠blk A/\D≠blk A/\w.heap.size<=blk A):=aq (by
   have h1:=HZ4.o.1.lt;have h2:=HZ4.o.2.1.lt;have h3:=HZ4.o.2.2.1.lt;have h4:=HZ4.o.2.2.2.1.lt;have h5:=(Array.getElem?_eq_some_iff.1 HZ4.o.2.2.2.2).1;have h6:=HAB.o.1;have h7:=HBW.o.size
   omega)
  clear hGr hwx HZ4 HBW;dsimp only;go_wp2_with fail;have hba:=bal (Below.refl w5.heap.size w5) (.cells #[.int .u8 1,.int .u8 0,.int .u8 1,.int .u8 1,.int .u8 0,.int .u8 0,.int .u8 1,.int .u8 0,.int .u8 1,.int .u8 1,.int .u8 1,.int .u8 0,.int .u8 0,.int .u8 0,.int .u8 1,.int .u8 0] 5);have HX6:Hid (Rd .u8 (w5.alloc (.cells #[.int .u8 1,.int .u8 0,.int .u8 1,.int .u8 1,.int .u8 0,.int .u8 0,.int .u8 1,.int .u8 0,.int .u8 1,.int .u8 1,.int .u8 1,.int .u8 0,.int .u8 0,.int .u8 0,.int .u8 1,.int .u8 0] 5)) (some ⟨w5.heap.size,0,none⟩) 16 16 xs16):=aq (Ownv.lit (base:=w5.heap.size) w5 #[.int .u8 1,.int .u8 0,.int .u8 1,.int .u8 1,.int .u8 0,.int .u8 0,.int .u8 1,.int .u8 0,.int .u8 1,.int .u8 1,.int .u8 1,.int .u8 0,.int .u8 0,.int .u8 0,.int .u8 1,.int .u8 0] 5 rfl (Nat.le_refl _) (by show 16<=maxLen;unfold maxLen;omega)).rd
  have HZ6:Hid (Blk (w5.alloc (.cells #[.int .u8 1,.int .u8 0,.int .u8 1,.int .u8 1,.int .u8 0,.int .u8 0,.int .u8 1,.int .u8 0,.int .u8 1,.int .u8 1,.int .u8 1,.int .u8 0,.int .u8 0,.int .u8 0,.int .u8 1,.int .u8 0] 5)) RB 4 [.bool false]/\Blk (w5.alloc (.cells #[.int .u8 1,.int .u8 0,.int .u8 1,.int .u8 1,.int .u8 0,.int .u8 0,.int .u8 1,.int .u8 0,.int .u8 1,.int .u8 1,.int .u8 1,.int .u8 0,.int .u8 0,.int .u8 0,.int .u8 1,.int .u8 0] 5)) CB 25 (c5 6 1 0 100000 8)/\Blk (w5.alloc (.cells #[.int .u8 1,.int .u8 0,.int .u8 1,.int .u8 1,.int .u8 0,.int .u8 0,.int .u8 1,.int .u8 0,.int .u8 1,.int .u8 1,.int .u8 1,.int .u8 0,.int .u8 0,.int .u8 0,.int .u8 1,.int .u8 0] 5)) GB 28 (c8 7 0 0 1 2 16 0 false)/\Blk (w5.alloc (.cells #[.int .u8 1,.int .u8 0,.int .u8 1,.int .u8 1,.int .u8 0,.int .u8 0,.int .u8 1,.int .u8 0,.int .u8 1,.int .u8 1,.int .u8 1,.int .u8 0,.int .u8 0,.int .u8 0,.int .u8 1,.int .u8 0] 5)) NB 3 [.int .i64 1]/\(w5.alloc (.cells #[.int .u8 1,.int .u8 0,.int .u8 1,.int .u8 1,.int .u8 0,.int .u8 0,.int .u8 1,.int .u8 0,.int .u8 1,.int .u8 1,.int .u8 1,.int .u8 0,.int .u8 0,.int .u8 0,.int .u8 1,.int .u8 0] 5)).heap[D]?=some (.deferred (some []))):=aq (by
   have hwx:=hba
   exact⟨HZ5.o.1.below hwx,HZ5.o.2.1.below hwx,HZ5.o.2.2.1.below hwx,HZ5.o.2.2.2.1.below hwx,(hwx.block D (Array.getElem?_eq_some_iff.1 HZ5.o.2.2.2.2).1).trans HZ5.o.2.2.2.2⟩)
  have HGR6:=aq (HGR5.o.below hba);have HB6:=aq (HB5.o.trans (hba.mono HB5.o.size));have HAB6:Hid (blk A<(w5.alloc (.cells #[.int .u8 1,.int .u8 0,.int .u8 1,.int .u8 1,.int .u8 0,.int .u8 0,.int .u8 1,.int .u8 0,.int .u8 1,.int .u8 1,.int .u8 1,.int .u8 0,.int .u8 0,.int .u8 0,.int .u8 1,.int .u8 0] 5)).heap.size):=aq (Nat.lt_of_lt_of_le HAB.o.2 hba.size);have HXA:Hid (w5.heap.size≠blk A):=aq (by have:=HAB.o.2;omega);clear hba HZ5 HB5 HGR5;generalize (w5.alloc (.cells #[.int .u8 1,.int .u8 0,.int .u8 1,.int .u8 1,.int .u8 0,.int .u8 0,.int .u8 1,.int .u8 0,.int .u8 1,.int .u8 1,.int .u8 1,.int .u8 0,.int .u8 0,.int .u8 0,.int .u8 1,.int .u8 0] 5))=w6 at *;generalize w5.heap.size=XB at *;refine(num_any _ _).mono ?_;rintro e w7 ⟨rfl,rfl⟩;dsimp only
  go_wp2_with (first
   | (refine ldrowG (cs:=[.int .i64 6,.int .i64 1,.int .i64 0,.int .i64 100000,.int .i64 8]) (by rfl) 25 (.tmp 1) rfl rfl HZ6.o.2.1 _ underlying25 rfl (by rw [infoPC];rfl) ?_)
   | (refine ldrowG (cs:=[.int .i64 7,.int .i64 0,.int .i64 0,.int .i64 1,.int .i64 2,.int .i64 16,.int .i64 0,.bool false]) (by rfl) 28 (.tmp 2) rfl rfl HZ6.o.2.2.1 _ underlying28 rfl (by rw [infoGT];rfl) ?_)
   | fail)
  refine(sd16 _ P A N cap ps (some ⟨XB,0,none⟩) 16 _ HGR6.o HX6.o HAB6.o).mono ?_;rintro e w8 ⟨rfl,hGr,hg⟩;have hna:=HNA.o;have HZ8:Hid (Blk w8 RB 4 [.bool false]/\Blk w8 CB 25 (c5 6 1 0 100000 8)/\Blk w8 GB 28 (c8 7 0 0 1 2 16 0 false)/\Blk w8 NB 3 [.int .i64 1]/\w8.heap[D]?=some (.deferred (some []))):=aq ⟨HZ6.o.1.grown hg (fun e=>hna.1 (Option.some.inj e)),HZ6.o.2.1.grown hg (fun e=>hna.2.1 (Option.some.inj e)),HZ6.o.2.2.1.grown hg (fun e=>hna.2.2.1 (Option.some.inj e)),HZ6.o.2.2.2.1.grown hg (fun e=>hna.2.2.2.1 (Option.some.inj e)),(hg.block D (Array.getElem?_eq_some_iff.1 HZ6.o.2.2.2.2).1 (fun e=>hna.2.2.2.2.1 (Option.some.inj e))).trans HZ6.o.2.2.2.2⟩;have HX8:=aq (Rdv.grown HX6.o hg (fun _ e=>HXA.o (Option.some.inj e)));have HB8:=aq (HB6.o.grown hg HB6.o.size (fun q e=>by cases e;exact hna.2.2.2.2.2));have HGR8:=aq hGr;clear hna hg hGr HZ6 HX6 HB6 HGR6;dsimp only;go_wp2_with fail;refine(num_any _ _).mono ?_;rintro e w9 ⟨rfl,rfl⟩;dsimp only
  go_wp2_with (first
   | (refine ldrow (cs:=[.int .i64 6,.int .i64 1,.int .i64 0,.int .i64 100000,.int .i64 8]) rfl 25 (.tmp 1) rfl rfl HZ8.o.2.1 _ underlying25 rfl (by rw [infoPC];rfl) ?_)
   | (refine ldrow (cs:=[.int .i64 7,.int .i64 0,.int .i64 0,.int .i64 1,.int .i64 2,.int .i64 16,.int .i64 0,.bool false]) rfl 28 (.tmp 2) rfl rfl HZ8.o.2.2.1 _ underlying28 rfl (by rw [infoGT];rfl) ?_)
   | fail)
  refine(rv16 _ P A N cap ps _ HGR8.o).mono ?_;rintro e w10' ⟨A9,c9,rfl,hR,hwx⟩;have HZ9:Hid (Blk w10' RB 4 [.bool false]/\Blk w10' CB 25 (c5 6 1 0 100000 8)/\Blk w10' GB 28 (c8 7 0 0 1 2 16 0 false)/\Blk w10' NB 3 [.int .i64 1]/\w10'.heap[D]?=some (.deferred (some []))):=aq ⟨HZ8.o.1.below hwx,HZ8.o.2.1.below hwx,HZ8.o.2.2.1.below hwx,HZ8.o.2.2.2.1.below hwx,(hwx.block D (Array.getElem?_eq_some_iff.1 HZ8.o.2.2.2.2).1).trans HZ8.o.2.2.2.2⟩;have HX9:=aq (Rdv.below HX8.o hwx);have HB9:=aq (HB8.o.trans (hwx.mono HB8.o.size));have HSM:=aq (psame_any A9 (some ⟨XB,0,none⟩) 16 c9 16 16 xs16 xs16 w10' hR HX9.o (by decide) (by decide));rw [decide_eq_true rfl]at HSM;clear hR hwx HZ8 HB8 HGR8 HX8;dsimp only;have n0:=HZ9.o.2.2.2.1.cell (j:=0) (v:=.int .i64 1) rfl;have r0:=HZ9.o.1.cell (j:=0) (v:=.bool false) rfl;have r1:=HZ9.o.1.frozen 0;go_wp2_with fail;refine(num_any _ _).mono ?_;rintro e wa ⟨rfl,rfl⟩;dsimp only;go_wp2_with fail;refine(num_any _ _).mono ?_;rintro e wb ⟨rfl,rfl⟩;dsimp only;go_wp2_with fail;refine HSM.o.mono ?_;rintro e wc ⟨rfl,rfl⟩;dsimp only
  have HDR:Hid (D≠RB):=aq (by
   intro e;have h1:=HZ9.o.2.2.2.2;have h2:=HZ9.o.1;rw [e]at h1;rw [h2]at h1
   cases h1)
  go_wp2_with fail;have hd1:=((grownBy_set _ RB 0 (.bool true)).block D (Array.getElem?_eq_some_iff.1 HZ9.o.2.2.2.2).1 (fun e=>HDR.o (Option.some.inj e))).trans HZ9.o.2.2.2.2;have hr1:=(HZ9.o.1.set 0 (.bool true)).put (.deferred none) hd1 rfl;have HBF:=aq ((HB9.o.setCell (p:=⟨RB,0,none⟩) HRB.o (.bool true)).grown (grownBy_putObj' _ D (.deferred none)) (HB9.o.setCell (p:=⟨RB,0,none⟩) HRB.o (.bool true)).size (fun q e=>by cases e;exact HDN.o));have l1:=lvB (hr1.cell (j:=0) (v:=.bool true) rfl);refine⟨by simp,.inl ⟨_,_,rfl,run_takeDeferred hd1,?_⟩⟩;refine⟨.bool true,?_,rfl,HBF.o⟩;rw [results_c rfl];simp [asAddr,l1,Sem.run_pure,Result.andThen]
end Go.Proofs.YthmhogdceolkdaaGreat.Cr