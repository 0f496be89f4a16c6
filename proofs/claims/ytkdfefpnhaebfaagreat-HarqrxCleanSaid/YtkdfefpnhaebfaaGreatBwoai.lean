/- Bundle. Conditions: none. -/
import Derived.Test.YtkdfefpnhaebfaaGreatBwoah
set_option linter.unusedVariables false
set_option linter.unusedSimpArgs false
namespace Go.Proofs.YtkdfefpnhaebfaaGreat
open Go.RowKit
set_option maxRecDepth 100000
set_option maxHeartbeats 2000000
def swV(bo bb:Nat):Value:=.agg #[.pointer (some ⟨bo,0,none⟩),.slice (some ⟨bb,0,none⟩) 16 16]
structure SwAt (W:World) (bo bb:Nat) (o:Ob) (S P A:Option Addr) (cs cp ca:Nat):Prop where
 o:ObsAt W bo o S P A cs cp ca
 b:Blk W bb 319 brAll
theorem SwAt.below{W W':World}{bo bb:Nat}{o:Ob}{S P A:Option Addr}{cs cp ca:Nat}(h:SwAt W bo bb o S P A cs cp ca)(hB:Below W.heap.size W W'):SwAt W' bo bb o S P A cs cp ca:=⟨h.o.below hB,h.b.below hB⟩
theorem SwAt.alloc{W:World}{bo bb:Nat}{o:Ob}{S P A:Option Addr}{cs cp ca:Nat}(h:SwAt W bo bb o S P A cs cp ca)(x:Obj):SwAt (W.alloc x) bo bb o S P A cs cp ca:=⟨h.o.alloc x,h.b.alloc x⟩
theorem Blk.grown{w w':World}{b g:Nat}{t:TypeId}{cs:List Value}(h:Blk w b t cs)(hg:w.grownBy w' (some g))(hne:b≠g):Blk w' b t cs:=(hg.block b h.lt (by simpa using hne)).trans h
def StInv(w1:World)(nx:Nat→List Int)(kd:Value)(wr:World):Prop:=∃ j:Nat,j≤16∧kd= .int .i64 j∧Blk wr w1.heap.size 275 (ints8 (nx j))∧Below w1.heap.size w1 wr
theorem ix60(g n c:Nat){j:Nat}(hj:j<n)(kd:IntKind)(W:World):(Instr.indexAt 269 (.slice (some ⟨g,0,none⟩) n c) (.int kd (j:Int))).run Tryz.prog W= .ok (.pointer (some ⟨g,4*j,none⟩)) W:=by
 have h1:(0:Int)≤(j:Int)∧(j:Int)<(n:Int):=by omega
 have hs:(sizeOf 289).run Tryz.prog W= .ok 4 W:=by kernel_rfl
 simp only [Instr.indexAt,Sem.run_bind,run_underlying Tryz.underlying269,Result.andThen_ok,asIntOf,Sem.run_pure,if_pos h1,hs,Int.toNat_natCast]
 rw [add_lit,Nat.zero_add,Nat.mul_comm]
theorem brAll_get:∀ j,j<16→∀ q,q<4→brAll[4*j+q]?=(brV (brT.getD j ⟨0,0,0,0⟩))[q]?:=by
 intro j hj q hq
 rcases (by omega:j=0∨j=1∨j=2∨j=3∨j=4∨j=5∨j=6∨j=7∨j=8∨j=9∨j=10∨j=11∨j=12∨j=13∨j=14∨j=15) with rfl | rfl | rfl | rfl | rfl | rfl | rfl | rfl | rfl | rfl | rfl | rfl | rfl | rfl | rfl | rfl <;>
  (rcases (by omega:q=0∨q=1∨q=2∨q=3) with rfl | rfl | rfl | rfl<;>rfl)
def brN(j:Nat):Br:=brT.getD j ⟨0,0,0,0⟩
theorem brN_mem(j:Nat)(hj:j<16):brN j ∈ brT:=by
 have hl:j<brT.length:=hj
 unfold brN
 rw [List.getD_eq_getElem?_getD,List.getElem?_eq_getElem hl];exact List.getElem_mem hl
theorem br_take(j:Nat)(hj:j<16):brT.take (j+1)=brT.take j ++ [brN j]:=by
 have hl:j<brT.length:=hj
 rw [List.take_succ_eq_append_getElem hl]
 unfold brN
 rw [List.getD_eq_getElem?_getD,List.getElem?_eq_getElem hl];rfl
theorem br_cells{W:World}{bb:Nat}(h:Blk W bb 319 brAll)(j:Nat)(hj:j<16):W.rangeAt bb (4*j) (brV (brN j)):=fun q v hv=>by
 have hq:q<4:=(List.getElem?_eq_some_iff.1 hv).1
 exact h.cell (by rw [brAll_get j hj q hq];exact hv)
theorem ints8_set(m:List Int)(k:Nat)(v:Int):ints8 (m.set k v)=(ints8 m).set k (.int .i64 v):=by unfold ints8;rw [List.map_set]
theorem max_if(a b:Int):(if a<b then b else a)=max a b:=by
 by_cases h:a<b
 · rw [if_pos h];omega
 · rw [if_neg h];omega
def FwS(b9 bm b7 bs bo:Nat)(fr bt pr tt:Nat)(fi ti:Nat)(vm vn:Int)(W:World):Prop :=
 W.cell? ⟨b9,0,none⟩=some (.int .i64 (fr:Int))∧W.cell? ⟨b9,1,none⟩=some (.int .i64 (bt:Int))∧W.cell? ⟨b9,2,none⟩=some (.int .i64 (pr:Int))∧W.cell? ⟨b9,3,none⟩=some (.int .i64 (tt:Int)) ∧
  W.cell? ⟨bm,fi,none⟩=some (.int .i64 vm)∧W.cell? ⟨b7,ti,none⟩=some (.int .i64 vn)∧W.cell? ⟨bs,0,none⟩=some (.pointer (some ⟨bo,0,none⟩))
def fN(o:Ob)(i:Nat)(m:List Int)(j:Nat):List Int:=(brT.take j).foldl (o.fB i m) noneL
theorem fN_succ(o:Ob)(i:Nat)(m:List Int)(j:Nat)(hj:j<16):fN o i m (j+1)=o.fB i m (fN o i m j) (brN j):=by
 unfold fN;rw [br_take j hj,List.foldl_append];rfl
theorem fN_met{o:Ob}(h:o.ok)(i:Nat)(hi:i<o.s.length){B:Int}(hB:B≤50000000)(h0:0≤B){m:List Int}(hm:Met B m)(j:Nat):Met (B+381) (fN o i m j) :=
 fwd_met h i hi hB h0 hm _ (fun b hb=>List.mem_of_mem_take hb)
theorem forward_any(bo bb:Nat)(o:Ob)(S P A:Option Addr)(cs cp ca i:Nat)(m:List Int)(B:Int)(w:World)(h:SwAt w bo bb o S P A cs cp ca)(ho:o.ok)(hi:i<o.s.length)(hm:Met B m)(hB:B≤50000000)(h0:0≤B) :
 Calls Tryz.prog 220 #[swV bo bb,.int .i64 (i:Int),.agg (ints8 m).toArray] w fun e w'=>e= .returned (.agg (ints8 (o.fwd i m)).toArray)∧Below w.heap.size w w':=by
 have HM:=Lib.hid (fun j=>fN_met ho i hi hB h0 hm j)
 have HO:=Lib.hid ho
 have H:=Lib.hid h
 have HMET:=Lib.hid hm
 clear ho h hm
 unfold swV
 go_enter Tryz.func220,Tryz.ntmps220
 go_wp2_with fail
 refine(none_any _).mono ?_
 rintro e w1 ⟨rfl,hB1⟩
 have xs:Blk w1 w.heap.size 271 [.pointer (some ⟨bo,0,none⟩),.slice (some ⟨bb,0,none⟩) 16 16]:=(((Blk.new w [.pointer (some ⟨bo,0,none⟩),.slice (some ⟨bb,0,none⟩) 16 16] 271 rfl).alloc _).alloc _).below hB1
 have xm:Blk w1 (w.heap.size+1) 275 (ints8 m):=((Blk.new (w.alloc _) (ints8 m) 275 (by simp)).alloc _).below hB1
 have xr:Blk w1 (w.heap.size+1+1) 275 (ints8 (List.replicate 8 0)):=(Blk.new ((w.alloc _).alloc _) (ints8 (List.replicate 8 0)) 275 (by simp)).below hB1
 have sw:SwAt w1 bo bb o S P A cs cp ca:=(((H.out.alloc _).alloc _).alloc _).below hB1
 have hlt:w.heap.size+2<w1.heap.size:=by have:=hB1.size;simp at this;omega
 have hBw:Below w.heap.size w w1:=((((Below.refl _ w).alloc (Nat.le_refl _) _).alloc (by simp) _).alloc (by simp;omega) _).trans (hB1.mono (by simp;omega))
 have XS:=Lib.hid xs
 have XM:=Lib.hid xm
 have XR:=Lib.hid xr
 have SW:=Lib.hid sw
 have HBW:=Lib.hid hBw
 have HLT:=Lib.hid hlt
 have hb7:Blk (w1.alloc (.cells (ints8 (List.replicate 8 0)).toArray 275)) w1.heap.size 275 (ints8 (List.replicate 8 0)):=Blk.new w1 _ 275 rfl
 clear xm xr sw hBw hB1 hlt H
 go_wp2_with (refine strow rfl 275 (.tmp 7) (.tmp 10) rfl rfl rfl hb7 rfl (i66 rfl) (ints8_one _) ?_;intro W' h1 h2;have hc0:=h1.icell (j:=0) (by decide);have hf0:=h1.frozen 0;have k1:=(((xs.alloc _).grown h2 (Nat.ne_of_lt xs.lt)).other (Nat.ne_of_gt xs.lt) 0 (.int .i64 (-1125899906842624))).cell (j:=1) rfl;have H1:=Lib.hid h1;have H2:=Lib.hid h2;clear h1 h2 hb7)
 clear xs
 go_loopw [15] (fun kd wr=>StInv w1 (fN o i m) kd wr) (fun kd _=>16 - (intOf kd).toNat)
 case atStart =>
  refine⟨0,by omega,rfl,?_,?_⟩
  · exact H1.out.set 0 (.int .i64 UU)
  · exact(((Below.refl _ w1).alloc (Nat.le_refl _) _).grown H2.out (by simp) (fun k hk=>by cases hk;exact Nat.le_refl _)).setCell (Nat.le_refl _) _
 case round =>
  obtain⟨j,hj,rfl,hb,hB⟩:=hrel
  clear hc0 hf0 k1
  by_cases hlt:j<16
  · have xs:=XS.out.below hB
    have xm:=XM.out.below hB
    have sw:=SW.out.below hB
    have hix:=fun W=>ix60 bb 16 16 hlt .i64 W
    have hmem:=brN_mem j hlt
    have hcl:=br_cells sw.b j hlt
    have hb9:Blk (wr.alloc (.cells (zer 4).toArray 289)) wr.heap.size 289 (zer 4):=Blk.new wr _ 289 rfl
    have HNX:=Lib.hid (fN_succ o i m j hlt)
    have hmt:=HM.out j
    generalize fN o i m j=nx at *
    generalize brN j=b at *
    have XS':=Lib.hid xs
    have XM':=Lib.hid xm
    have SW':=Lib.hid sw
    have HBK:=Lib.hid hb
    have HBB:=Lib.hid hB
    have HMT:=Lib.hid hmt
    clear xm sw hb hB hmt
    go_wp2_with (first
     | (refine wpList_load_mid rfl 289 (.tmp 17) rfl bb (4*j) rfl (brV b) _ hcl Tryz.underlying289 rfl (by rw [info77];rfl) ?_)
     | (refine strow rfl 289 (.tmp 9) (.tmp 18) rfl rfl rfl hb9 rfl (by rw [info77];rfl) (ints8_one _) ?_;intro W2 h1 h2;have k0:=((xs.alloc _).grown h2 (Nat.ne_of_lt xs.lt)).cell (j:=0) rfl;have h77:=h1;have H1:=Lib.hid h1;have H2:=Lib.hid h2;clear h1 h2 hb9 hcl)
     | (refine ldrow rfl 289 (.tmp 9) rfl rfl h77 _ Tryz.underlying289 rfl (by rw [info77];rfl) ?_))
    have hB2:Below wr.heap.size wr W2:=((Below.refl _ wr).alloc (Nat.le_refl _) _).grown H2.out (by simp) (fun k hk=>by cases hk;exact Nat.le_refl _)
    refine(allows_any bo o S P A cs cp ca i b _ (SW'.out.below hB2).o hmem).mono ?_
    rintro e w3 ⟨rfl,hB3⟩
    have hB23:Below wr.heap.size wr w3:=hB2.trans (hB3.mono hB2.size)
    have hb9:Blk w3 wr.heap.size 289 (brV b):=H1.out.below hB3
    have s0:=hb9.cell (j:=0) (v:=.int .i64 (b.fr:Int)) rfl
    have s1:=hb9.cell (j:=1) (v:=.int .i64 (b.bt:Int)) rfl
    have s2:=hb9.cell (j:=2) (v:=.int .i64 (b.pr:Int)) rfl
    have s3:=hb9.cell (j:=3) (v:=.int .i64 (b.tt:Int)) rfl
    obtain⟨b1,-,-,b4⟩:=br_bd b hmem
    have s4:=(XM'.out.below hB23).icell (j:=b.fr) (by have:=HMET.out.len;omega)
    have s5:=(HBK.out.below hB23).icell (j:=b.tt) (by have:=HMT.out.len;omega)
    have s6:=(XS'.out.below hB23).cell (j:=0) (v:=.pointer (some ⟨bo,0,none⟩)) rfl
    have HB23:=Lib.hid hB23
    have HB9:=Lib.hid hb9
    clear hB2 hB3 hB23 k0 h77 hb9 xs
    have HFB:=Lib.hid (show o.fB i m nx b=if o.allow i b=true∧UU<gi m b.fr then nx.set b.tt (max (gi nx b.tt) (gi m b.fr+o.term i b)) else nx from rfl)
    cases hal:o.allow i b with
    | false =>
      have HFN:Hid (o.fB i m nx b=nx):=Lib.hid (by rw [HFB.out,hal,if_neg (by simp)])
      clear hal
      go_wp2
      go_roundw
      case rel=>exact⟨j+1,by omega,by go_num,by rw [HNX.out,HFN.out];exact HBK.out.below HB23.out,HBB.out.trans (HB23.out.mono HBB.out.size)⟩
      case measure=>simp [intOf];omega
    | true =>
      by_cases hu:-1125899906842624<gi m b.fr
      · have HFN:Hid (o.fB i m nx b=nx.set b.tt (max (gi nx b.tt) (gi m b.fr+o.term i b))):=Lib.hid (by rw [HFB.out,hal,if_pos ⟨rfl,by rw [UU_eq];exact hu⟩])
        clear hal
        go_wp2_with fail
        have hS0:FwS wr.heap.size (w.heap.size+1) w1.heap.size w.heap.size bo b.fr b.bt b.pr b.tt b.fr b.tt (gi m b.fr) (gi nx b.tt) w3.drew:=⟨s0,s1,s2,s3,s4,s5,s6⟩
        have hmf:=HMET.out.bd b.fr b1
        have hmf:-B≤gi m b.fr∧gi m b.fr≤B:=hmf.resolve_left (by rw [UU_eq];omega)
        have hnf:=HMT.out.bd b.tt b4
        rw [UU_eq]at hnf
        have HBD:=Lib.hid (o.term_bd HO.out i hi b hmem)
        have HTE:=Lib.hid (term_any bo o S P A cs cp ca i b)
        clear s0 s1 s2 s3 s4 s5 s6
        refine wp_region_Z (FwS wr.heap.size (w.heap.size+1) w1.heap.size w.heap.size bo b.fr b.bt b.pr b.tt b.fr b.tt (gi m b.fr) (gi nx b.tt)) 18 (by kernel_rfl) ?_
        refine wpAnyZ_take (i:=0) (v:=.pointer (some ⟨wr.heap.size,3,none⟩)) rfl (by kernel_rfl) (by kernel_rfl) (by kernel_rfl) (by kernel_rfl) (fun _ _ _ h=>h) (Or.inl ⟨by rfl,fun W hS=>by go_simp⟩) hS0 ?_
        simp only [Act.put,yq0,yq1,yq2]
        refine wpAnyZ_take (i:=1) (v:=.int .i64 (b.tt:Int)) rfl (by kernel_rfl) (by kernel_rfl) (by kernel_rfl) (by kernel_rfl) (fun _ _ _ h=>h) (Or.inl ⟨by rfl,fun W hS=>by obtain⟨s0,s1,s2,s3,s4,s5,s6⟩:=hS;go_simp⟩) hS0 ?_
        simp only [Act.put,yq0,yq1,yq2]
        refine wpAnyZ_take (i:=2) (v:=.pointer (some ⟨wr.heap.size,3,none⟩)) rfl (by kernel_rfl) (by kernel_rfl) (by kernel_rfl) (by kernel_rfl) (fun _ _ _ h=>h) (Or.inl ⟨by rfl,fun W hS=>by go_simp⟩) hS0 ?_
        simp only [Act.put,yq0,yq1,yq2]
        refine wpAnyZ_take (i:=3) (v:=.int .i64 (b.tt:Int)) rfl (by kernel_rfl) (by kernel_rfl) (by kernel_rfl) (by kernel_rfl) (fun _ _ _ h=>h) (Or.inl ⟨by rfl,fun W hS=>by obtain⟨s0,s1,s2,s3,s4,s5,s6⟩:=hS;go_simp⟩) hS0 ?_
        simp only [Act.put,yq0,yq1,yq2]
        refine wpAnyZ_take (i:=4) (v:=.pointer (some ⟨w1.heap.size,b.tt,none⟩)) rfl (by kernel_rfl) (by kernel_rfl) (by kernel_rfl) (by kernel_rfl) (fun _ _ _ h=>h) (Or.inl ⟨by rfl,fun W hS=>by go_simp;intro h9;omega⟩) hS0 ?_
        simp only [Act.put,yq0,yq1,yq2]
        refine wpAnyZ_take (i:=5) (v:=.int .i64 (gi nx b.tt)) rfl (by kernel_rfl) (by kernel_rfl) (by kernel_rfl) (by kernel_rfl) (fun _ _ _ h=>h) (Or.inl ⟨by rfl,fun W hS=>by obtain⟨s0,s1,s2,s3,s4,s5,s6⟩:=hS;go_simp⟩) hS0 ?_
        simp only [Act.put,yq0,yq1,yq2]
        refine wpAnyZ_take (i:=6) (v:=.pointer (some ⟨wr.heap.size,0,none⟩)) rfl (by kernel_rfl) (by kernel_rfl) (by kernel_rfl) (by kernel_rfl) (fun _ _ _ h=>h) (Or.inl ⟨by rfl,fun W hS=>by go_simp⟩) hS0 ?_
        simp only [Act.put,yq0,yq1,yq2]
        refine wpAnyZ_take (i:=7) (v:=.int .i64 (b.fr:Int)) rfl (by kernel_rfl) (by kernel_rfl) (by kernel_rfl) (by kernel_rfl) (fun _ _ _ h=>h) (Or.inl ⟨by rfl,fun W hS=>by obtain⟨s0,s1,s2,s3,s4,s5,s6⟩:=hS;go_simp⟩) hS0 ?_
        simp only [Act.put,yq0,yq1,yq2]
        refine wpAnyZ_take (i:=8) (v:=.pointer (some ⟨w.heap.size+1,b.fr,none⟩)) rfl (by kernel_rfl) (by kernel_rfl) (by kernel_rfl) (by kernel_rfl) (fun _ _ _ h=>h) (Or.inl ⟨by rfl,fun W hS=>by go_simp;intro h9;omega⟩) hS0 ?_
        simp only [Act.put,yq0,yq1,yq2]
        refine wpAnyZ_take (i:=9) (v:=.int .i64 (gi m b.fr)) rfl (by kernel_rfl) (by kernel_rfl) (by kernel_rfl) (by kernel_rfl) (fun _ _ _ h=>h) (Or.inl ⟨by rfl,fun W hS=>by obtain⟨s0,s1,s2,s3,s4,s5,s6⟩:=hS;go_simp⟩) hS0 ?_
        simp only [Act.put,yq0,yq1,yq2]
        refine wpAnyZ_take (i:=10) (v:=.pointer (some ⟨w.heap.size,0,none⟩)) rfl (by kernel_rfl) (by kernel_rfl) (by kernel_rfl) (by kernel_rfl) (fun _ _ _ h=>h) (Or.inl ⟨by rfl,fun W hS=>by go_simp⟩) hS0 ?_
        simp only [Act.put,yq0,yq1,yq2]
        refine wpAnyZ_take (i:=11) (v:=.pointer (some ⟨bo,0,none⟩)) rfl (by kernel_rfl) (by kernel_rfl) (by kernel_rfl) (by kernel_rfl) (fun _ _ _ h=>h) (Or.inl ⟨by rfl,fun W hS=>by obtain⟨s0,s1,s2,s3,s4,s5,s6⟩:=hS;go_simp⟩) hS0 ?_
        simp only [Act.put,yq0,yq1,yq2]
        refine wpAnyZ_take (i:=12) (v:=.int .i64 (i:Int)) rfl (by kernel_rfl) (by kernel_rfl) (by kernel_rfl) (by kernel_rfl) (fun _ _ _ h=>h) (Or.inl ⟨by rfl,fun W hS=>by go_simp⟩) hS0 ?_
        simp only [Act.put,yq0,yq1,yq2]
        refine wpAnyZ_take (i:=13) (v:=brA b) rfl (by kernel_rfl) (by kernel_rfl) (by kernel_rfl) (by kernel_rfl) (fun _ _ _ h=>h) (Or.inl ⟨by rfl,fun W hS=>by obtain⟨s0,s1,s2,s3,s4,s5,s6⟩:=hS;unfold brA;go_simp⟩) hS0 ?_
        simp only [Act.put,yq0,yq1,yq2]
        refine wpAnyZ_one (i:=14) rfl (by kernel_rfl) rfl (fun K hK=>?_)
        go_simp
        refine(HTE.out _ ((SW'.out.below HB23.out).o.below (Below.refl _ w3).drew) hmem HO.out hi).mono ?_
        rintro e w4 ⟨rfl,hB4⟩
        have hBD:=HBD.out
        have hB34:Below w3.heap.size w3 w4:=(Below.refl _ w3).drew.trans hB4
        have hb9:=HB9.out.below hB34
        have hb7:=(HBK.out.below HB23.out).below hB34
        have hs4:FwS wr.heap.size (w.heap.size+1) w1.heap.size w.heap.size bo b.fr b.bt b.pr b.tt b.fr b.tt (gi m b.fr) (gi nx b.tt) w4 :=
         ⟨hb9.cell rfl,hb9.cell rfl,hb9.cell rfl,hb9.cell rfl,((XM'.out.below HB23.out).below hB34).icell (by have:=HMET.out.len;omega),hb7.icell (by have:=HMT.out.len;omega),((XS'.out.below HB23.out).below hB34).cell rfl⟩
        have ht7:=hs4.2.2.2.2.2.1
        have hf7:=hb7.frozen b.tt
        have HB34:=Lib.hid hB34
        have HS4:=Lib.hid hs4
        have HS7:=Lib.hid (hb7.set b.tt (.int .i64 (max (gi nx b.tt) (gi m b.fr+o.term i b))))
        clear hB4 hB34 hb9 hb7 hs4 hS0
        generalize o.term i b=tm at *
        have hws:IntKind.i64.wrap (gi m b.fr+tm)=gi m b.fr+tm:=IntWalk.i64_in _ (by omega)
        go_wp2_with fail
        refine hK _ _ (fun _=>HS4.out) ?_
        clear hK K
        refine wpAnyZ_one (i:=15) rfl (by kernel_rfl) rfl (fun K hK=>?_)
        go_simp
        refine hK _ _ (fun _=>HS4.out) ?_
        clear hK K
        refine wpAnyZ_one (i:=16) rfl (by kernel_rfl) rfl (fun K hK=>?_)
        go_simp
        rw [max_if]
        refine hK _ _ (fun _=>HS4.out) ?_
        clear hK K
        refine wpAnyZ_take (i:=17) (v:=.pointer (some ⟨w1.heap.size,b.tt,none⟩)) rfl (by kernel_rfl) (by kernel_rfl) (by kernel_rfl) (by kernel_rfl) (fun _ _ _ h=>h) (Or.inl ⟨by rfl,fun W hS=>by go_simp;intro h9;omega⟩) HS4.out ?_
        simp only [Act.put,yq0,yq1,yq2]
        refine wpAnyZ_one (i:=18) rfl (by kernel_rfl) rfl (fun K hK=>?_)
        go_simp
        refine hK _ _ (fun h=>absurd rfl h) ?_
        clear hK K
        refine wpAnyZ_done (by kernel_rfl) ?_ _
        clear ht7 hf7 hws
        go_wp2
        go_roundw
        case rel=>exact⟨j+1,by omega,by go_num,by rw [HNX.out,HFN.out,ints8_set];exact HS7.out,(HBB.out.trans ((HB23.out.mono HBB.out.size).trans (HB34.out.mono (Nat.le_trans HBB.out.size HB23.out.size)))).setCell (Nat.le_refl _) _⟩
        case measure=>simp [intOf];omega
      · have HFN:Hid (o.fB i m nx b=nx):=Lib.hid (by rw [HFB.out,hal,if_neg (by rw [UU_eq];simp;omega)])
        clear hal
        go_wp2
        go_roundw
        case rel=>exact⟨j+1,by omega,by go_num,by rw [HNX.out,HFN.out];exact HBK.out.below HB23.out,HBB.out.trans (HB23.out.mono HBB.out.size)⟩
        case measure=>simp [intOf];omega
  · obtain rfl:j=16:=by omega
    have xr:=XR.out.below hB
    have hne:w.heap.size+1+1≠w1.heap.size:=by have:=HLT.out;omega
    have hml:=(HM.out 16).len
    have HBB:=Lib.hid hB
    have HEQ:Hid (fN o i m 16=o.fwd i m):=Lib.hid rfl
    clear hB
    go_wp2_with (first
     | (refine ldrow rfl 275 (.tmp 7) rfl rfl hb _ Tryz.underlying275 rfl (i66 hml) ?_)
     | (refine strow rfl 275 (.tmp 6) (.tmp 50) rfl rfl rfl xr (by simp [ints8,hml]) (i66 hml) (ints8_one _) ?_;intro W2 h1 h2;have H1:=Lib.hid h1;have H2:=Lib.hid h2;clear h1 h2 hb xr))
    have hfin:Below w.heap.size w W2:=(HBW.out.trans (HBB.out.mono HBW.out.size)).grown H2.out (Nat.le_trans HBW.out.size HBB.out.size) (fun k hk=>by cases hk;omega)
    have h1:=H1.out
    rw [HEQ.out]at h1 hml
    refine bodyPost_ret (v:=.agg (ints8 (o.fwd i m)).toArray) ?_ rfl ⟨rfl,hfin⟩
    rw [results_c rfl]
    have l1:=res66 h1 hml
    simp [Act.put,asAddr,l1,Sem.run_pure]
def bN(o:Ob)(i:Nat)(m:List Int)(j:Nat):List Int:=(brT.take j).foldl (o.bB i m) noneL
theorem bN_succ(o:Ob)(i:Nat)(m:List Int)(j:Nat)(hj:j<16):bN o i m (j+1)=o.bB i m (bN o i m j) (brN j):=by
 unfold bN;rw [br_take j hj,List.foldl_append];rfl
theorem bN_met{o:Ob}(h:o.ok)(i:Nat)(hi:i<o.s.length){B:Int}(hB:B≤50000000)(h0:0≤B){m:List Int}(hm:Met B m)(j:Nat):Met (B+381) (bN o i m j) :=
 bwd_met h i hi hB h0 hm _ (fun b hb=>List.mem_of_mem_take hb)
theorem backward_any(bo bb:Nat)(o:Ob)(S P A:Option Addr)(cs cp ca i:Nat)(m:List Int)(B:Int)(w:World)(h:SwAt w bo bb o S P A cs cp ca)(ho:o.ok)(hi:i<o.s.length)(hm:Met B m)(hB:B≤50000000)(h0:0≤B) :
 Calls Tryz.prog 222 #[swV bo bb,.int .i64 (i:Int),.agg (ints8 m).toArray] w fun e w'=>e= .returned (.agg (ints8 (o.bwd i m)).toArray)∧Below w.heap.size w w':=by
 have HM:=Lib.hid (fun j=>bN_met ho i hi hB h0 hm j)
 have HO:=Lib.hid ho
 have H:=Lib.hid h
 have HMET:=Lib.hid hm
 clear ho h hm
 unfold swV
 go_enter Tryz.func222,Tryz.ntmps222
 go_wp2_with fail
 refine(none_any _).mono ?_
 rintro e w1 ⟨rfl,hB1⟩
 have xs:Blk w1 w.heap.size 271 [.pointer (some ⟨bo,0,none⟩),.slice (some ⟨bb,0,none⟩) 16 16]:=(((Blk.new w [.pointer (some ⟨bo,0,none⟩),.slice (some ⟨bb,0,none⟩) 16 16] 271 rfl).alloc _).alloc _).below hB1
 have xm:Blk w1 (w.heap.size+1) 275 (ints8 m):=((Blk.new (w.alloc _) (ints8 m) 275 (by simp)).alloc _).below hB1
 have xr:Blk w1 (w.heap.size+1+1) 275 (ints8 (List.replicate 8 0)):=(Blk.new ((w.alloc _).alloc _) (ints8 (List.replicate 8 0)) 275 (by simp)).below hB1
 have sw:SwAt w1 bo bb o S P A cs cp ca:=(((H.out.alloc _).alloc _).alloc _).below hB1
 have hlt:w.heap.size+2<w1.heap.size:=by have:=hB1.size;simp at this;omega
 have hBw:Below w.heap.size w w1:=((((Below.refl _ w).alloc (Nat.le_refl _) _).alloc (by simp) _).alloc (by simp;omega) _).trans (hB1.mono (by simp;omega))
 have XS:=Lib.hid xs
 have XM:=Lib.hid xm
 have XR:=Lib.hid xr
 have SW:=Lib.hid sw
 have HBW:=Lib.hid hBw
 have HLT:=Lib.hid hlt
 have hb7:Blk (w1.alloc (.cells (ints8 (List.replicate 8 0)).toArray 275)) w1.heap.size 275 (ints8 (List.replicate 8 0)):=Blk.new w1 _ 275 rfl
 clear xm xr sw hBw hB1 hlt H
 go_wp2_with (refine strow rfl 275 (.tmp 7) (.tmp 10) rfl rfl rfl hb7 rfl (i66 rfl) (ints8_one _) ?_;intro W' h1 h2;have hc0:=h1.icell (j:=0) (by decide);have hf0:=h1.frozen 0;have k1:=(((xs.alloc _).grown h2 (Nat.ne_of_lt xs.lt)).other (Nat.ne_of_gt xs.lt) 0 (.int .i64 (-1125899906842624))).cell (j:=1) rfl;have H1:=Lib.hid h1;have H2:=Lib.hid h2;clear h1 h2 hb7)
 clear xs
 go_loopw [15] (fun kd wr=>StInv w1 (bN o i m) kd wr) (fun kd _=>16 - (intOf kd).toNat)
 case atStart =>
  refine⟨0,by omega,rfl,?_,?_⟩
  · exact H1.out.set 0 (.int .i64 UU)
  · exact(((Below.refl _ w1).alloc (Nat.le_refl _) _).grown H2.out (by simp) (fun k hk=>by cases hk;exact Nat.le_refl _)).setCell (Nat.le_refl _) _
 case round =>
  obtain⟨j,hj,rfl,hb,hB⟩:=hrel
  clear hc0 hf0 k1
  by_cases hlt:j<16
  · have xs:=XS.out.below hB
    have xm:=XM.out.below hB
    have sw:=SW.out.below hB
    have hix:=fun W=>ix60 bb 16 16 hlt .i64 W
    have hmem:=brN_mem j hlt
    have hcl:=br_cells sw.b j hlt
    have hb9:Blk (wr.alloc (.cells (zer 4).toArray 289)) wr.heap.size 289 (zer 4):=Blk.new wr _ 289 rfl
    have HNX:=Lib.hid (bN_succ o i m j hlt)
    have hmt:=HM.out j
    generalize bN o i m j=nx at *
    generalize brN j=b at *
    have XS':=Lib.hid xs
    have XM':=Lib.hid xm
    have SW':=Lib.hid sw
    have HBK:=Lib.hid hb
    have HBB:=Lib.hid hB
    have HMT:=Lib.hid hmt
    clear xm sw hb hB hmt
    go_wp2_with (first
     | (refine wpList_load_mid rfl 289 (.tmp 17) rfl bb (4*j) rfl (brV b) _ hcl Tryz.underlying289 rfl (by rw [info77];rfl) ?_)
     | (refine strow rfl 289 (.tmp 9) (.tmp 18) rfl rfl rfl hb9 rfl (by rw [info77];rfl) (ints8_one _) ?_;intro W2 h1 h2;have k0:=((xs.alloc _).grown h2 (Nat.ne_of_lt xs.lt)).cell (j:=0) rfl;have h77:=h1;have H1:=Lib.hid h1;have H2:=Lib.hid h2;clear h1 h2 hb9 hcl)
     | (refine ldrow rfl 289 (.tmp 9) rfl rfl h77 _ Tryz.underlying289 rfl (by rw [info77];rfl) ?_))
    have hB2:Below wr.heap.size wr W2:=((Below.refl _ wr).alloc (Nat.le_refl _) _).grown H2.out (by simp) (fun k hk=>by cases hk;exact Nat.le_refl _)
    refine(allows_any bo o S P A cs cp ca i b _ (SW'.out.below hB2).o hmem).mono ?_
    rintro e w3 ⟨rfl,hB3⟩
    have hB23:Below wr.heap.size wr w3:=hB2.trans (hB3.mono hB2.size)
    have hb9:Blk w3 wr.heap.size 289 (brV b):=H1.out.below hB3
    have s0:=hb9.cell (j:=0) (v:=.int .i64 (b.fr:Int)) rfl
    have s1:=hb9.cell (j:=1) (v:=.int .i64 (b.bt:Int)) rfl
    have s2:=hb9.cell (j:=2) (v:=.int .i64 (b.pr:Int)) rfl
    have s3:=hb9.cell (j:=3) (v:=.int .i64 (b.tt:Int)) rfl
    obtain⟨b1,-,-,b4⟩:=br_bd b hmem
    have s4:=(XM'.out.below hB23).icell (j:=b.tt) (by have:=HMET.out.len;omega)
    have s5:=(HBK.out.below hB23).icell (j:=b.fr) (by have:=HMT.out.len;omega)
    have s6:=(XS'.out.below hB23).cell (j:=0) (v:=.pointer (some ⟨bo,0,none⟩)) rfl
    have HB23:=Lib.hid hB23
    have HB9:=Lib.hid hb9
    clear hB2 hB3 hB23 k0 h77 hb9 xs
    have HFB:=Lib.hid (show o.bB i m nx b=if o.allow i b=true∧UU<gi m b.tt then nx.set b.fr (max (gi nx b.fr) (gi m b.tt+o.term i b)) else nx from rfl)
    cases hal:o.allow i b with
    | false =>
      have HFN:Hid (o.bB i m nx b=nx):=Lib.hid (by rw [HFB.out,hal,if_neg (by simp)])
      clear hal
      go_wp2
      go_roundw
      case rel=>exact⟨j+1,by omega,by go_num,by rw [HNX.out,HFN.out];exact HBK.out.below HB23.out,HBB.out.trans (HB23.out.mono HBB.out.size)⟩
      case measure=>simp [intOf];omega
    | true =>
      by_cases hu:-1125899906842624<gi m b.tt
      · have HFN:Hid (o.bB i m nx b=nx.set b.fr (max (gi nx b.fr) (gi m b.tt+o.term i b))):=Lib.hid (by rw [HFB.out,hal,if_pos ⟨rfl,by rw [UU_eq];exact hu⟩])
        clear hal
        go_wp2_with fail
        have hS0:FwS wr.heap.size (w.heap.size+1) w1.heap.size w.heap.size bo b.fr b.bt b.pr b.tt b.tt b.fr (gi m b.tt) (gi nx b.fr) w3.drew:=⟨s0,s1,s2,s3,s4,s5,s6⟩
        have hmf:=HMET.out.bd b.tt b4
        have hmf:-B≤gi m b.tt∧gi m b.tt≤B:=hmf.resolve_left (by rw [UU_eq];omega)
        have hnf:=HMT.out.bd b.fr b1
        rw [UU_eq]at hnf
        have HBD:=Lib.hid (o.term_bd HO.out i hi b hmem)
        have HTE:=Lib.hid (term_any bo o S P A cs cp ca i b)
        clear s0 s1 s2 s3 s4 s5 s6
        refine wp_region_Z (FwS wr.heap.size (w.heap.size+1) w1.heap.size w.heap.size bo b.fr b.bt b.pr b.tt b.tt b.fr (gi m b.tt) (gi nx b.fr)) 18 (by kernel_rfl) ?_
        refine wpAnyZ_take (i:=0) (v:=.pointer (some ⟨wr.heap.size,0,none⟩)) rfl (by kernel_rfl) (by kernel_rfl) (by kernel_rfl) (by kernel_rfl) (fun _ _ _ h=>h) (Or.inl ⟨by rfl,fun W hS=>by go_simp⟩) hS0 ?_
        simp only [Act.put,yq0,yq1,yq2]
        refine wpAnyZ_take (i:=1) (v:=.int .i64 (b.fr:Int)) rfl (by kernel_rfl) (by kernel_rfl) (by kernel_rfl) (by kernel_rfl) (fun _ _ _ h=>h) (Or.inl ⟨by rfl,fun W hS=>by obtain⟨s0,s1,s2,s3,s4,s5,s6⟩:=hS;go_simp⟩) hS0 ?_
        simp only [Act.put,yq0,yq1,yq2]
        refine wpAnyZ_take (i:=2) (v:=.pointer (some ⟨wr.heap.size,0,none⟩)) rfl (by kernel_rfl) (by kernel_rfl) (by kernel_rfl) (by kernel_rfl) (fun _ _ _ h=>h) (Or.inl ⟨by rfl,fun W hS=>by go_simp⟩) hS0 ?_
        simp only [Act.put,yq0,yq1,yq2]
        refine wpAnyZ_take (i:=3) (v:=.int .i64 (b.fr:Int)) rfl (by kernel_rfl) (by kernel_rfl) (by kernel_rfl) (by kernel_rfl) (fun _ _ _ h=>h) (Or.inl ⟨by rfl,fun W hS=>by obtain⟨s0,s1,s2,s3,s4,s5,s6⟩:=hS;go_simp⟩) hS0 ?_
        simp only [Act.put,yq0,yq1,yq2]
        refine wpAnyZ_take (i:=4) (v:=.pointer (some ⟨w1.heap.size,b.fr,none⟩)) rfl (by kernel_rfl) (by kernel_rfl) (by kernel_rfl) (by kernel_rfl) (fun _ _ _ h=>h) (Or.inl ⟨by rfl,fun W hS=>by go_simp;intro h9;omega⟩) hS0 ?_
        simp only [Act.put,yq0,yq1,yq2]
        refine wpAnyZ_take (i:=5) (v:=.int .i64 (gi nx b.fr)) rfl (by kernel_rfl) (by kernel_rfl) (by kernel_rfl) (by kernel_rfl) (fun _ _ _ h=>h) (Or.inl ⟨by rfl,fun W hS=>by obtain⟨s0,s1,s2,s3,s4,s5,s6⟩:=hS;go_simp⟩) hS0 ?_
        simp only [Act.put,yq0,yq1,yq2]
        refine wpAnyZ_take (i:=6) (v:=.pointer (some ⟨wr.heap.size,3,none⟩)) rfl (by kernel_rfl) (by kernel_rfl) (by kernel_rfl) (by kernel_rfl) (fun _ _ _ h=>h) (Or.inl ⟨by rfl,fun W hS=>by go_simp⟩) hS0 ?_
        simp only [Act.put,yq0,yq1,yq2]
        refine wpAnyZ_take (i:=7) (v:=.int .i64 (b.tt:Int)) rfl (by kernel_rfl) (by kernel_rfl) (by kernel_rfl) (by kernel_rfl) (fun _ _ _ h=>h) (Or.inl ⟨by rfl,fun W hS=>by obtain⟨s0,s1,s2,s3,s4,s5,s6⟩:=hS;go_simp⟩) hS0 ?_
        simp only [Act.put,yq0,yq1,yq2]
        refine wpAnyZ_take (i:=8) (v:=.pointer (some ⟨w.heap.size+1,b.tt,none⟩)) rfl (by kernel_rfl) (by kernel_rfl) (by kernel_rfl) (by kernel_rfl) (fun _ _ _ h=>h) (Or.inl ⟨by rfl,fun W hS=>by go_simp;intro h9;omega⟩) hS0 ?_
        simp only [Act.put,yq0,yq1,yq2]
        refine wpAnyZ_take (i:=9) (v:=.int .i64 (gi m b.tt)) rfl (by kernel_rfl) (by kernel_rfl) (by kernel_rfl) (by kernel_rfl) (fun _ _ _ h=>h) (Or.inl ⟨by rfl,fun W hS=>by obtain⟨s0,s1,s2,s3,s4,s5,s6⟩:=hS;go_simp⟩) hS0 ?_
        simp only [Act.put,yq0,yq1,yq2]
        refine wpAnyZ_take (i:=10) (v:=.pointer (some ⟨w.heap.size,0,none⟩)) rfl (by kernel_rfl) (by kernel_rfl) (by kernel_rfl) (by kernel_rfl) (fun _ _ _ h=>h) (Or.inl ⟨by rfl,fun W hS=>by go_simp⟩) hS0 ?_
        simp only [Act.put,yq0,yq1,yq2]
        refine wpAnyZ_take (i:=11) (v:=.pointer (some ⟨bo,0,none⟩)) rfl (by kernel_rfl) (by kernel_rfl) (by kernel_rfl) (by kernel_rfl) (fun _ _ _ h=>h) (Or.inl ⟨by rfl,fun W hS=>by obtain⟨s0,s1,s2,s3,s4,s5,s6⟩:=hS;go_simp⟩) hS0 ?_
        simp only [Act.put,yq0,yq1,yq2]
        refine wpAnyZ_take (i:=12) (v:=.int .i64 (i:Int)) rfl (by kernel_rfl) (by kernel_rfl) (by kernel_rfl) (by kernel_rfl) (fun _ _ _ h=>h) (Or.inl ⟨by rfl,fun W hS=>by go_simp⟩) hS0 ?_
        simp only [Act.put,yq0,yq1,yq2]
        refine wpAnyZ_take (i:=13) (v:=brA b) rfl (by kernel_rfl) (by kernel_rfl) (by kernel_rfl) (by kernel_rfl) (fun _ _ _ h=>h) (Or.inl ⟨by rfl,fun W hS=>by obtain⟨s0,s1,s2,s3,s4,s5,s6⟩:=hS;unfold brA;go_simp⟩) hS0 ?_
        simp only [Act.put,yq0,yq1,yq2]
        refine wpAnyZ_one (i:=14) rfl (by kernel_rfl) rfl (fun K hK=>?_)
        go_simp
        refine(HTE.out _ ((SW'.out.below HB23.out).o.below (Below.refl _ w3).drew) hmem HO.out hi).mono ?_
        rintro e w4 ⟨rfl,hB4⟩
        have hBD:=HBD.out
        have hB34:Below w3.heap.size w3 w4:=(Below.refl _ w3).drew.trans hB4
        have hb9:=HB9.out.below hB34
        have hb7:=(HBK.out.below HB23.out).below hB34
        have hs4:FwS wr.heap.size (w.heap.size+1) w1.heap.size w.heap.size bo b.fr b.bt b.pr b.tt b.tt b.fr (gi m b.tt) (gi nx b.fr) w4 :=
         ⟨hb9.cell rfl,hb9.cell rfl,hb9.cell rfl,hb9.cell rfl,((XM'.out.below HB23.out).below hB34).icell (by have:=HMET.out.len;omega),hb7.icell (by have:=HMT.out.len;omega),((XS'.out.below HB23.out).below hB34).cell rfl⟩
        have ht7:=hs4.2.2.2.2.2.1
        have hf7:=hb7.frozen b.fr
        have HB34:=Lib.hid hB34
        have HS4:=Lib.hid hs4
        have HS7:=Lib.hid (hb7.set b.fr (.int .i64 (max (gi nx b.fr) (gi m b.tt+o.term i b))))
        clear hB4 hB34 hb9 hb7 hs4 hS0
        generalize o.term i b=tm at *
        have hws:IntKind.i64.wrap (gi m b.tt+tm)=gi m b.tt+tm:=IntWalk.i64_in _ (by omega)
        go_wp2_with fail
        refine hK _ _ (fun _=>HS4.out) ?_
        clear hK K
        refine wpAnyZ_one (i:=15) rfl (by kernel_rfl) rfl (fun K hK=>?_)
        go_simp
        refine hK _ _ (fun _=>HS4.out) ?_
        clear hK K
        refine wpAnyZ_one (i:=16) rfl (by kernel_rfl) rfl (fun K hK=>?_)
        go_simp
        rw [max_if]
        refine hK _ _ (fun _=>HS4.out) ?_
        clear hK K
        refine wpAnyZ_take (i:=17) (v:=.pointer (some ⟨w1.heap.size,b.fr,none⟩)) rfl (by kernel_rfl) (by kernel_rfl) (by kernel_rfl) (by kernel_rfl) (fun _ _ _ h=>h) (Or.inl ⟨by rfl,fun W hS=>by go_simp;intro h9;omega⟩) HS4.out ?_
        simp only [Act.put,yq0,yq1,yq2]
        refine wpAnyZ_one (i:=18) rfl (by kernel_rfl) rfl (fun K hK=>?_)
        go_simp
        refine hK _ _ (fun h=>absurd rfl h) ?_
        clear hK K
        refine wpAnyZ_done (by kernel_rfl) ?_ _
        clear ht7 hf7 hws
        go_wp2
        go_roundw
        case rel=>exact⟨j+1,by omega,by go_num,by rw [HNX.out,HFN.out,ints8_set];exact HS7.out,(HBB.out.trans ((HB23.out.mono HBB.out.size).trans (HB34.out.mono (Nat.le_trans HBB.out.size HB23.out.size)))).setCell (Nat.le_refl _) _⟩
        case measure=>simp [intOf];omega
      · have HFN:Hid (o.bB i m nx b=nx):=Lib.hid (by rw [HFB.out,hal,if_neg (by rw [UU_eq];simp;omega)])
        clear hal
        go_wp2
        go_roundw
        case rel=>exact⟨j+1,by omega,by go_num,by rw [HNX.out,HFN.out];exact HBK.out.below HB23.out,HBB.out.trans (HB23.out.mono HBB.out.size)⟩
        case measure=>simp [intOf];omega
  · obtain rfl:j=16:=by omega
    have xr:=XR.out.below hB
    have hne:w.heap.size+1+1≠w1.heap.size:=by have:=HLT.out;omega
    have hml:=(HM.out 16).len
    have HBB:=Lib.hid hB
    have HEQ:Hid (bN o i m 16=o.bwd i m):=Lib.hid rfl
    clear hB
    go_wp2_with (first
     | (refine ldrow rfl 275 (.tmp 7) rfl rfl hb _ Tryz.underlying275 rfl (i66 hml) ?_)
     | (refine strow rfl 275 (.tmp 6) (.tmp 50) rfl rfl rfl xr (by simp [ints8,hml]) (i66 hml) (ints8_one _) ?_;intro W2 h1 h2;have H1:=Lib.hid h1;have H2:=Lib.hid h2;clear h1 h2 hb xr))
    have hfin:Below w.heap.size w W2:=(HBW.out.trans (HBB.out.mono HBW.out.size)).grown H2.out (Nat.le_trans HBW.out.size HBB.out.size) (fun k hk=>by cases hk;omega)
    have h1:=H1.out
    rw [HEQ.out]at h1 hml
    refine bodyPost_ret (v:=.agg (ints8 (o.bwd i m)).toArray) ?_ rfl ⟨rfl,hfin⟩
    rw [results_c rfl]
    have l1:=res66 h1 hml
    simp [Act.put,asAddr,l1,Sem.run_pure]
end Go.Proofs.YtkdfefpnhaebfaaGreat
