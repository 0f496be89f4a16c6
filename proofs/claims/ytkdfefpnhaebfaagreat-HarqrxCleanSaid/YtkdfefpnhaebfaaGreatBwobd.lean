/- Bundle. Conditions: none. -/
import Derived.Test.YtkdfefpnhaebfaaGreatBwobc
set_option linter.unusedVariables false
set_option linter.unusedSimpArgs false
namespace Go.Proofs.YtkdfefpnhaebfaaGreat.Cr
open Go.RowKit Go.Shelf
set_option maxRecDepth 100000
set_option maxHeartbeats 2000000
theorem sz_40(b i:Nat):40≤sz b i:=by
 unfold sz
 split
 · rename_i h
   by_cases hb:b≤6144
   · have:shs b=0:=by unfold shs;rw [if_pos hb]
     omega
   · have:=sh_lt hb;omega
 · exact SZ_lo _
def fl(b i:Nat):Nat:=if i=0 then fi b else 0
theorem fl_lt{b i:Nat}(h1:1≤b):fl b i<sz b i:=by
 have:=(sz_ge (i:=i) h1).1
 unfold fl
 omega
def uS(b:Nat)(lim:Int)(i:Nat):Nat:=usC ((bufL (sz b i) (fl b i)).take (szB (sz b i) lim))
theorem tsize_any(b i:Nat)(w:World):Calls Tryz.prog 69 #[.agg (ints8 (LY b)).toArray,.int .i64 i] w fun e w'=>e= .returned (.int .i64 (sz b i:Int))∧Below w.heap.size w w':=by
 rw [sz_if]
 simp only [LY,ints8,List.map_cons,List.map_nil]
 by_cases h:(i:Int)<(shs b:Int)
 · rw [if_pos h]
   go_enter Tryz.func69,Tryz.ntmps69
   go_wp2
   go_ret
   exact⟨rfl,(Below.refl _ _).alloc (Nat.le_refl _) _⟩
 · rw [if_neg h]
   go_enter Tryz.func69,Tryz.ntmps69
   go_wp2
   go_ret
   exact⟨rfl,(Below.refl _ _).alloc (Nat.le_refl _) _⟩
theorem tfil_any(b i:Nat)(w:World):Calls Tryz.prog 33 #[.agg (ints8 (LY b)).toArray,.int .i64 i] w fun e w'=>e= .returned (.int .i64 (fl b i:Int))∧Below w.heap.size w w':=by
 unfold fl
 simp only [LY,ints8,List.map_cons,List.map_nil]
 by_cases h:i=0
 · rw [if_pos h]
   have q:decide ((i:Int) > 0)=false:=by simp;omega
   subst h
   go_enter Tryz.func33,Tryz.ntmps33
   go_wp2
   go_ret
   exact⟨rfl,(Below.refl _ _).alloc (Nat.le_refl _) _⟩
 · rw [if_neg h]
   have q:0<i:=by omega
   clear h
   go_enter Tryz.func33,Tryz.ntmps33
   go_wp2
   go_ret
   exact⟨rfl,(Below.refl _ _).alloc (Nat.le_refl _) _⟩
def SqPost(bad:Prop)(m VB:Nat)(A:Option Addr)(n c:Nat)(ys:List Int)(W:World)(e:Ending)(w':World):Prop :=
 ((bad∧e= .returned (.tuple #[.slice none 0 0,.int .i64 10]))∨(¬ bad∧∃ A' c',e= .returned (.tuple #[.slice A' m c',.int .i64 0])∧Own .i64 3 w' W.heap.size A' m c' (ys.take m))) ∧
 Blk w' VB 39 [.slice (cut A c m) (n - m) (c - m)]∧W.grownBy w' (some VB)
theorem cl50_any(b i LB VB CB m:Nat)(A:Option Addr)(n c:Nat)(ys:List Int)(lim:Int)(W:World)(h1:1≤b)(h2:b≤79560)(hlim:1≤lim)
 (hL:Blk W LB 31 (ints8 (LY b))) (hV:Blk W VB 39 [.slice A n c]) (hC:W.cell? ⟨CB,3,none⟩=some (.int .i64 lim)) (hCV:CB≠VB) (hy:Rd .i64 W A n c ys) (hm:m≤n) (hn:n≤200000) :
 Calls Tryz.prog 66 #[.int .i64 i,.int .i64 m,.pointer (some ⟨VB,0,none⟩),.pointer (some ⟨LB,0,none⟩),.pointer (some ⟨CB,0,none⟩)] W (SqPost (uS b lim i=0∧0<m) m VB A n c ys W):=by
 have HU:=Lib.hid (fun W=>usable_ok (sz b i) (fl b i) lim W (sz_40 b i) (sz_ge (i:=i) h1).2 (fl_lt h1) hlim)
 have hle:=Rdv.le hy
 obtain⟨U,hU⟩:∃ U,U=uS b lim i:=⟨_,rfl⟩
 rw [show usC ((bufL (sz b i) (fl b i)).take (szB (sz b i) lim))=U from hU.symm]at HU
 rw [← hU]
 clear hU h1 h2 hlim
 have hLV:LB≠VB:=by
  intro e
  have h3:W.heap[LB]?=_:=hL
  have h4:W.heap[VB]?=_:=hV
  rw [e,h4]at h3
  injection h3 with h3
  injection h3 with _ h9
  exact absurd h9 (by decide)
 have hclt:CB<W.heap.size:=World.block_lt_of_cell? W _ hC
 have hvl:=hV.lt
 have r0:=hV.cell (j:=0) rfl
 have s1:=fun W=>Rdv.slh hy el34 .i64 (m:=m) (by omega) W
 have s2:=fun W=>Rdv.sll hy el34 .i64 hm W
 have hcl:=Lib.hid (cloneI_any A m c (ys.take m) W (Rd.upto hy hm) (by omega))
 go_enter Tryz.func66,Tryz.ntmps66
 go_wp2_with (go_at_call 67;refine hcl.out.mono ?_;rintro e w3 ⟨A3,c3',rfl,hO3,hB3⟩;have hR3:=hV.below hB3;have r3:=hR3.cell (j:=0) rfl;have rf3:=hR3.frozen 0;have HL3:=Lib.hid ((hL.below hB3).other (fun e=>hLV e.symm) 0 (.slice (cut A c m) (n - m) (c - m)));have HC3:=Lib.hid (cell_below hC hB3);have HB3:=Lib.hid hB3;have HR3:=Lib.hid (hR3.set 0 (.slice (cut A c m) (n - m) (c - m)));have HO3:=Lib.hid hO3;clear hO3 hB3 hcl)
 have HO4:=Lib.hid (Ownv.grown HO3.out (grownBy_set w3 VB 0 (.slice (cut A c m) (n - m) (c - m))) (fun hA he=>by have h8:=(Ownv.blk_of HO3.out hA).1;have h9:=Option.some.inj he;omega))
 have HG4:=Lib.hid (grownBy_below HB3.out (grownBy_set w3 VB 0 (.slice (cut A c m) (n - m) (c - m))))
 have HC4:Hid ((w3.setCell ⟨VB,0,none⟩ (.slice (cut A c m) (n - m) (c - m))).cell? ⟨CB,3,none⟩=some (.int .i64 lim)):=Lib.hid (by rw [cell_set_ne _ hCV];exact HC3.out)
 clear r0 s1 s2 hL hV hR3 r3 rf3 HB3 HO3 hC HC3 hy
 generalize w3.setCell ⟨VB,0,none⟩ (.slice (cut A c m) (n - m) (c - m))=W4 at *
 have HS4:Hid (Blk W4 LB 31 (ints8 (LY b))∧W4.cell? ⟨CB,3,none⟩=some (.int .i64 lim)):=Lib.hid ⟨HL3.out,HC4.out⟩
 clear HL3 HC4
 refine P_start (fun W=>Blk W LB 31 (ints8 (LY b))∧W.cell? ⟨CB,3,none⟩=some (.int .i64 lim)) 8 14 #[false,false,false,false,false,false,false,false,false,false,false,false,false,false] (by kernel_rfl) (by kernel_rfl) (by kernel_rfl) ?_
 refine P_takeT 0 20 (.agg (ints8 (LY b)).toArray) #[true,false,false,false,false,false,false,false,false,false,false,false,false,false] [2] rfl rfl (by kernel_rfl) (by kernel_rfl) (by kernel_rfl) (by kernel_rfl) (by kernel_rfl) (by kernel_rfl) (by kernel_rfl) (by decide) (fun _ _ _ h=>h) (yieldsIf_load_mid rfl 31 (.tmp 3) rfl LB (0) rfl (ints8 (LY b)) _ (fun W hS=>fun q v hv=>hS.1.cell (by rw [Nat.zero_add];exact hv)) Tryz.underlying31 rfl (by rw [info23];rfl)) HS4.out ?_
 simp only [yq0,yq1,yq2]
 refine P_takeW 1 21 (.int .i64 (i:Int)) #[true,true,false,false,false,false,false,false,false,false,false,false,false,false] rfl rfl (by kernel_rfl) (by kernel_rfl) (by kernel_rfl) (by kernel_rfl) (by decide) (fun _ _ _ h=>h) (Or.inl ⟨by rfl,fun W hS=>by go_simp⟩) HS4.out ?_
 simp only [yq0,yq1,yq2]
 refine P_takeT 3 23 (.agg (ints8 (LY b)).toArray) #[true,true,false,true,false,false,false,false,false,false,false,false,false,false] [5] rfl rfl (by kernel_rfl) (by kernel_rfl) (by kernel_rfl) (by kernel_rfl) (by kernel_rfl) (by kernel_rfl) (by kernel_rfl) (by decide) (fun _ _ _ h=>h) (yieldsIf_load_mid rfl 31 (.tmp 3) rfl LB (0) rfl (ints8 (LY b)) _ (fun W hS=>fun q v hv=>hS.1.cell (by rw [Nat.zero_add];exact hv)) Tryz.underlying31 rfl (by rw [info23];rfl)) HS4.out ?_
 simp only [yq0,yq1,yq2]
 refine P_takeW 4 24 (.int .i64 (i:Int)) #[true,true,false,true,true,false,false,false,false,false,false,false,false,false] rfl rfl (by kernel_rfl) (by kernel_rfl) (by kernel_rfl) (by kernel_rfl) (by decide) (fun _ _ _ h=>h) (Or.inl ⟨by rfl,fun W hS=>by go_simp⟩) HS4.out ?_
 simp only [yq0,yq1,yq2]
 refine P_takeW 6 26 (.pointer (some ⟨CB,3,none⟩)) #[true,true,false,true,true,false,true,false,false,false,false,false,false,false] rfl rfl (by kernel_rfl) (by kernel_rfl) (by kernel_rfl) (by kernel_rfl) (by decide) (fun _ _ _ h=>h) (Or.inl ⟨by rfl,fun W hS=>by go_simp⟩) HS4.out ?_
 simp only [yq0,yq1,yq2]
 refine P_take 7 27 (.int .i64 lim) #[true,true,false,true,true,false,true,true,false,false,false,false,false,false] rfl rfl (by kernel_rfl) (by kernel_rfl) (by kernel_rfl) (by kernel_rfl) (by kernel_rfl) (by kernel_rfl) (by decide) (fun _ _ _ h=>h) (Or.inl ⟨by rfl,fun W hS=>by obtain⟨hS1,hS2⟩:=hS;go_simp⟩) HS4.out ?_
 simp only [yq0,yq1,yq2]
 refine P_oneS 2 #[true,true,true,true,true,false,true,true,false,false,false,false,false,false] rfl (by kernel_rfl) (by kernel_rfl) rfl (fun K hK=>?_)
 go_simp
 refine(tsize_any b i _).mono ?_
 rintro e wa ⟨rfl,hBa⟩
 have HSa:Hid (Blk wa LB 31 (ints8 (LY b))∧wa.cell? ⟨CB,3,none⟩=some (.int .i64 lim)):=Lib.hid ⟨HS4.out.1.drew.below hBa,cell_below (w:=W4.drew) HS4.out.2 hBa⟩
 have HBa:=Lib.hid (((Below.refl W4.heap.size W4).drew).trans hBa)
 clear hBa
 refine hK _ _ HSa.out ?_
 clear hK K
 refine P_oneS 5 #[true,true,true,true,true,true,true,true,false,false,false,false,false,false] rfl (by kernel_rfl) (by kernel_rfl) rfl (fun K hK=>?_)
 go_simp
 refine(tfil_any b i _).mono ?_
 rintro e wb ⟨rfl,hBb⟩
 have HSb:Hid (Blk wb LB 31 (ints8 (LY b))∧wb.cell? ⟨CB,3,none⟩=some (.int .i64 lim)):=Lib.hid ⟨HSa.out.1.below hBb,cell_below HSa.out.2 hBb⟩
 have HBb:=Lib.hid (HBa.out.trans (hBb.mono HBa.out.size))
 clear hBb
 refine hK _ _ HSb.out ?_
 clear hK K
 refine P_one 8 #[true,true,true,true,true,true,true,true,true,false,false,false,false,false] rfl (by kernel_rfl) (by kernel_rfl) rfl (by kernel_rfl) (fun K hK=>?_)
 go_simp
 refine(HU.out _).mono ?_
 rintro e wc ⟨rfl,hBc⟩
 have HBc:=Lib.hid (HBb.out.trans (hBc.mono HBb.out.size))
 clear hBc
 refine hK _ _ ?_
 clear hK K
 refine P_one 9 #[true,true,true,true,true,true,true,true,true,true,false,false,false,false] rfl (by kernel_rfl) (by kernel_rfl) rfl (by kernel_rfl) (fun K hK=>?_)
 go_simp
 refine hK _ _ ?_
 clear hK K
 refine P_takeX 10 29 (.int .i64 (U:Int)) #[true,true,true,true,true,true,true,true,true,true,true,false,false,false] rfl rfl (by kernel_rfl) (by kernel_rfl) (by kernel_rfl) (by kernel_rfl) (by decide) (fun _ _ _ h=>h) (Or.inl ⟨by rfl,fun W hS=>by go_simp⟩) rfl ?_
 simp only [yq0,yq1,yq2]
 refine P_takeX 11 30 (.int .i64 0) #[true,true,true,true,true,true,true,true,true,true,true,true,false,false] rfl rfl (by kernel_rfl) (by kernel_rfl) (by kernel_rfl) (by kernel_rfl) (by decide) (fun _ _ _ h=>h) (Or.inl ⟨by rfl,fun W hS=>by go_simp⟩) rfl ?_
 simp only [yq0,yq1,yq2]
 refine P_one 12 #[true,true,true,true,true,true,true,true,true,true,true,true,true,false] rfl (by kernel_rfl) (by kernel_rfl) rfl (by kernel_rfl) (fun K hK=>?_)
 go_simp
 refine hK _ _ ?_
 clear hK K
 refine P_one 13 #[true,true,true,true,true,true,true,true,true,true,true,true,true,true] rfl (by kernel_rfl) (by kernel_rfl) rfl (by kernel_rfl) (fun K hK=>?_)
 go_simp
 refine hK _ _ ?_
 clear hK K
 refine P_done (by kernel_rfl) ?_ _
 have HR5:Hid (Blk wc VB 39 [.slice (cut A c m) (n - m) (c - m)]):=Lib.hid (HR3.out.below HBc.out)
 have HG5:=Lib.hid (grownBy_then HG4.out HBc.out)
 have HO5:=Lib.hid (Ownv.below HO4.out HBc.out)
 clear HR3 HG4 HO4 HBc HBb HBa HSa HSb HS4 HU
 unfold SqPost
 by_cases hu:U=0
 · have q:((U:Int) == 0)=true:=beq_t (by omega)
   by_cases hm0:0<m
   · have q2:decide ((m:Int) > 0)=true:=by simp;omega
     have HP:Hid (U=0∧0<m):=Lib.hid ⟨hu,hm0⟩
     clear hu
     go_wp2
     go_ret2
     exact⟨.inl ⟨HP.out,rfl⟩,HR5.out,HG5.out⟩
   · have q2:decide ((m:Int) > 0)=false:=by simp;omega
     have HP:Hid (¬ (U=0∧0<m)):=Lib.hid (fun h=>hm0 h.2)
     clear hu
     go_wp2
     go_ret2
     exact⟨.inr ⟨HP.out,A3,c3',rfl,HO5.out⟩,HR5.out,HG5.out⟩
 · have q:((U:Int) == 0)=false:=beq_f (by omega)
   have HP:Hid (¬ (U=0∧0<m)):=Lib.hid (fun h=>hu h.1)
   clear hu
   go_wp2
   go_ret2
   exact⟨.inr ⟨HP.out,A3,c3',rfl,HO5.out⟩,HR5.out,HG5.out⟩
def shN(C g m i:Nat):Nat:=if i+g % C<C then g / C*m else(g / C+1)*m
theorem shr_cast(C g m i:Nat):shr C g m i=(shN C g m i:Int):=by unfold shr shN;split<;>rfl
def offS(C g m:Nat):Nat→Nat
 | 0=>0
 | i+1=>offS C g m i+shN C g m i
theorem offS_lo(C g m:Nat):∀ k,k+g % C≤C→offS C g m k=k*(g / C*m)
 | 0,_=>by simp [offS]
 | k+1,h=>by
   simp only [offS]
   rw [offS_lo C g m k (by omega),shN,if_pos (by omega),Nat.add_mul k 1,Nat.one_mul]
theorem offS_hi(C g m:Nat)(hC:1≤C):∀ k,offS C g m (C - g % C+k)=(C - g % C)*(g / C*m)+k*((g / C+1)*m)
 | 0=>by
   have:=Nat.mod_lt g (show C > 0 by omega)
   rw [Nat.add_zero,offS_lo C g m _ (by omega)];simp
 | k+1=>by
   have:=Nat.mod_lt g (show C > 0 by omega)
   rw [← Nat.add_assoc]
   simp only [offS]
   rw [offS_hi C g m hC k,shN,if_neg (by omega),Nat.add_mul k 1,Nat.one_mul];omega
theorem offS_all(C g m:Nat)(hC:1≤C):offS C g m C=m*g:=by
 have h1:=Nat.mod_lt g (show C > 0 by omega)
 have h2:=Nat.div_add_mod g C
 have h3:=offS_hi C g m hC (g % C)
 rw [show C - g % C+g % C=C by omega]at h3
 rw [h3]
 generalize g / C=a at *
 generalize g % C=r at *
 have e1:(C - r)*a+r*(a+1)=g:=by
  rw [Nat.mul_add,Nat.mul_one,← Nat.add_assoc,← Nat.add_mul,show C - r+r=C by omega];exact h2
 rw [← Nat.mul_assoc,← Nat.mul_assoc,← Nat.add_mul,e1,Nat.mul_comm]
theorem offS_le{C g m i j:Nat}(h:i≤j):offS C g m i≤offS C g m j:=by
 induction j with
 | zero=>obtain rfl:i=0:=by omega
         exact Nat.le_refl _
 | succ j ih =>
   by_cases hj:i=j+1
   · subst hj;exact Nat.le_refl _
   · have:=ih (by omega);simp only [offS];omega
def prtS(ys:List Int)(C g m k:Nat):List (List Int):=(List.range k).map fun i=>(ys.drop (offS C g m i)).take (shN C g m i)
theorem prtS_succ(ys:List Int)(C g m k:Nat):prtS ys C g m (k+1)=prtS ys C g m k ++ [(ys.drop (offS C g m k)).take (shN C g m k)]:=by simp [prtS,List.range_succ]
theorem Rdv.grown0{w w':World}{A:Option Addr}{n c:Nat}{vs:List Value}(h:Rdv w A n c vs){row:Option Nat}(hg:w.grownBy w' row)(hne:0<c→some (blk A)≠row):Rdv w' A n c vs:=by
 by_cases hc:0<c
 · exact h.grown hg (fun _=>hne hc)
 · have h1:=h.le
   have h2:=h.len
   obtain rfl:vs=[]:=List.eq_nil_of_length_eq_zero (by omega)
   exact⟨h.len,h.le,h.cm,h.nil,fun h9=>absurd h9 hc,fun h9=>absurd h9 hc,by simp⟩
theorem el41:El Tryz.prog 89 39 (.slice none 0 0) 24:=⟨by kernel_rfl,by kernel_rfl,fun _=>by kernel_rfl,rfl⟩
structure BI (w:World) (base:Nat) (A:Option Addr) (c:Nat) (L:List Sv):Prop where
 o:Ownv 39 w base A L.length c (L.map Sv.v)
 r:∀ s ∈ L,Own .i64 3 w base s.A s.n s.c s.xs
 p:L.Pairwise (fun s t=>s.A≠none→t.A≠none→blk s.A≠blk t.A)
section
variable {w w' : World} {base base' c : Nat} {A : Option Addr} {L : List Sv}
theorem BI.nil(w:World)(base:Nat):BI w base none 0 []:=⟨Ownv.nilv 39 w base,by simp,List.Pairwise.nil⟩
theorem BI.mono(h:BI w base A c L)(hb:base'≤base):BI w base' A c L:=⟨h.o.mono hb,fun s hs=>Ownv.mono (h.r s hs) hb,h.p⟩
theorem BI.grownL(h:BI w base A c L){B:Nat}(hb:B<base)(hg:w.grownBy w' (some B)):BI w' base A c L :=
 ⟨h.o.grown hg (fun hA he=>by have h1:=(Ownv.blk_of h.o hA).1;have:=Option.some.inj he;omega),fun s hs=>Ownv.grown (h.r s hs) hg (fun hA he=>by have h1:=(Ownv.blk_of (h.r s hs) hA).1;have:=Option.some.inj he;omega),h.p⟩
theorem BI.push(h:BI w base A c L){s:Sv}(hs:Own .i64 3 w base s.A s.n s.c s.xs)(hp:∀ t ∈ L,t.A≠none→s.A≠none→blk t.A≠blk s.A){A':Option Addr}{c':Nat}
 (hO:Ownv 39 w' base A' (L.length+1) c' (L.map Sv.v ++ [s.v])) (hg:w.grownBy w' ((Value.slice A L.length c).ownBlock)):BI w' base A' c' (L ++ [s]):=by
 refine⟨by simpa using hO,fun t ht=>?_,?_⟩
 · rcases List.mem_append.1 ht with ht | ht
   · exact Ownv.grown (h.r t ht) hg (fun hA=>rows_ne (h.r t ht) h.o (by decide) hA)
   · simp at ht;subst ht
     exact Ownv.grown hs hg (fun hA=>rows_ne hs h.o (by decide) hA)
 · rw [List.pairwise_append]
   exact⟨h.p,List.pairwise_singleton _ _,fun t ht u hu=>by simp at hu;subst hu;exact hp t ht⟩
end
def bad49(b:Nat)(lim:Int)(C g m q:Nat):Prop:=uS b lim q=0∧0<shN C g m q
instance (b:Nat) (lim:Int) (C g m q:Nat):Decidable (bad49 b lim C g m q):=by unfold bad49;exact inferInstance
structure EzS (W:World) (b:Nat) (lim:Int) (C g m VB LB CB:Nat) (An:Option Addr) (cn:Nat) (ys:List Int) (j:Nat) (A:Option Addr) (c:Nat) (L:List Sv) (wr:World):Prop where
 bi:BI wr W.heap.size A c L
 xs:L.map (·.xs)=prtS ys C g m j
 lb:Blk wr LB 31 (ints8 (LY b))
 cb:wr.cell? ⟨CB,3,none⟩=some (.int .i64 lim)
 vb:∃ Ar cr,Blk wr VB 39 [.slice Ar (ys.length - offS C g m j) cr]∧Rd .i64 wr Ar (ys.length - offS C g m j) cr (ys.drop (offS C g m j))∧(0<cr→blk Ar≠VB∧blk Ar<W.heap.size)
 ns:Rd .i64 wr An C cn (shT C g m C)
 gr:W.grownBy wr (some VB)
 ok:∀ q,q<j→¬ bad49 b lim C g m q
def EzInv(W:World)(b:Nat)(lim:Int)(C g m VB LB CB:Nat)(An:Option Addr)(cn:Nat)(ys:List Int)(out i:Value)(wr:World):Prop :=
 ∃ (j:Nat) (A:Option Addr) (c:Nat) (L:List Sv),j≤C∧i= .int .i64 j∧out= .slice A L.length c∧L.length=j∧EzS W b lim C g m VB LB CB An cn ys j A c L wr
def EzPost(W:World)(b:Nat)(lim:Int)(C g m VB:Nat)(ys:List Int)(e:Ending)(w':World):Prop :=
 W.grownBy w' (some VB)∧(((∃ q,q<C∧bad49 b lim C g m q)∧e= .returned (.tuple #[.slice none 0 0,.int .i64 10])) ∨
  ((∀ q,q<C→¬ bad49 b lim C g m q)∧∃ A' c' L,e= .returned (.tuple #[.slice A' L.length c',.int .i64 0])∧BI w' W.heap.size A' c' L∧L.map (·.xs)=prtS ys C g m C))
theorem each49_any(b:Nat)(lim:Int)(C g m VB LB CB:Nat)(An:Option Addr)(cn:Nat)(A0:Option Addr)(n c0:Nat)(ys:List Int)(W:World)(h1:1≤b)(h2:b≤79560)(hlim:1≤lim)(hC:1≤C)(hC2:C≤13)
 (hn:n=m*g) (hn2:n≤200000) (hL:Blk W LB 31 (ints8 (LY b))) (hV:Blk W VB 39 [.slice A0 n c0]) (hK:W.cell? ⟨CB,3,none⟩=some (.int .i64 lim)) (hCV:CB≠VB) (hy:Rd .i64 W A0 n c0 ys) (hAV:0<c0→blk A0≠VB)
 (hns:Rd .i64 W An C cn (shT C g m C)) (hnV:An≠none→blk An≠VB) :
 Calls Tryz.prog 65 #[.slice An C cn,.func (.func 66) #[] #[.pointer (some ⟨VB,0,none⟩),.pointer (some ⟨LB,0,none⟩),.pointer (some ⟨CB,0,none⟩)]] W (EzPost W b lim C g m VB ys):=by
 have hfl:=hy.len
 have hoff:=offS_all C g m hC
 subst hfl
 have hAR':0<c0→blk A0≠VB∧blk A0<W.heap.size:=fun hA=>⟨hAV hA,by
  obtain⟨bb,oo,rfl,h9⟩:=Rdv.ptr hy hA
  exact h9⟩
 have hvb:=hV.lt
 have hlb:=hL.lt
 have hcb:=World.block_lt_of_cell? W _ hK
 have hLR:some LB≠some VB:=by
  intro e
  have e:=Option.some.inj e
  subst e
  have h3:W.heap[LB]?=_:=hL
  have h4:W.heap[LB]?=_:=hV
  rw [h4]at h3
  injection h3 with h3
  injection h3 with _ h9
  exact absurd h9 (by decide)
 have HNV:=Lib.hid (fun hA=>(⟨hnV hA,by have h8:=Rdv.le hns;obtain⟨bb,oo,rfl,h9⟩:=Rdv.ptr hns (by omega);exact h9⟩:blk An≠VB∧blk An<W.heap.size))
 have HS0:Hid (EzS W b lim C g m VB LB CB An cn ys 0 none 0 [] W):=Lib.hid ⟨BI.nil W _,rfl,hL,hK,⟨A0,c0,hV,hy,hAR'⟩,hns,World.grownBy.refl _ _,by omega⟩
 clear hnV hAR' hy hAV hL hV hK
 go_enter Tryz.func65,Tryz.ntmps65
 go_wp2
 go_loopw [6,13] (fun out i wr=>EzInv W b lim C g m VB LB CB An cn ys out i wr) (fun _ i _=>C - (intOf i).toNat)
 case atStart=>exact⟨0,none,0,[],by omega,rfl,rfl,rfl,HS0.out⟩
 case round =>
  obtain⟨j,A,c,L,hj,rfl,rfl,hlen,hS⟩:=hrel
  have HS:=Lib.hid hS
  clear hS HS0 hns
  subst hlen
  by_cases hlt:L.length<C
  · have hmono:=offS_le (C:=C) (g:=g) (m:=m) (show L.length+1≤C by omega)
    have hstep:offS C g m (L.length+1)=offS C g m L.length+shN C g m L.length:=rfl
    obtain⟨Ar,cr,hR1,hy1,hA1⟩:=HS.out.vb
    have hM:shN C g m L.length≤ys.length - offS C g m L.length:=by omega
    have hc:=Lib.hid (cl50_any b L.length LB VB CB (shN C g m L.length) Ar (ys.length - offS C g m L.length) cr (ys.drop (offS C g m L.length)) lim wr h1 h2 hlim HS.out.lb hR1 HS.out.cb hCV hy1 hM (by omega))
    have HR1:=Lib.hid hR1
    have HY1:=Lib.hid hy1
    have HA1:=Lib.hid hA1
    have cn1:=Rd.cell HS.out.ns (j:=L.length) hlt
    rw [shT_gi _ _ _ _ _ hlt,shr_cast]at cn1
    have ix1:=fun W=>Rdv.ix HS.out.ns el34 (j:=L.length) hlt .i64 W
    clear hR1 hy1 hA1
    unfold SqPost at hc
    obtain⟨M,hMe⟩:∃ M,M=shN C g m L.length:=⟨_,rfl⟩
    rw [← hMe]at hc cn1 hstep hM
    by_cases hbad:uS b lim L.length=0∧0<M
    · have HBD:Hid (∃ q,q<C∧bad49 b lim C g m q):=Lib.hid ⟨L.length,hlt,by unfold bad49;rw [← hMe];exact hbad⟩
      have hc':Hid (Calls Tryz.prog 66 #[.int .i64 L.length,.int .i64 M,.pointer (some ⟨VB,0,none⟩),.pointer (some ⟨LB,0,none⟩),.pointer (some ⟨CB,0,none⟩)] wr fun e w'=>e= .returned (.tuple #[.slice none 0 0,.int .i64 10])∧wr.grownBy w' (some VB)) :=
       Lib.hid (hc.out.mono (fun e w' h=>⟨by rcases h.1 with h | h;exact h.2;exact absurd hbad h.1,h.2.2⟩))
      clear hc hbad hMe
      go_wp2_with (go_at_call 66;refine hc'.out.mono ?_;rintro e w1 ⟨rfl,hG'⟩;have HG':=Lib.hid (grown_trans HS.out.gr hG');clear hG')
      go_ret2
      exact⟨HG'.out,.inl ⟨HBD.out,rfl⟩⟩
    · have HBD:Hid (¬ bad49 b lim C g m L.length):=Lib.hid (by unfold bad49;rw [← hMe];exact hbad)
      have hc':Hid (Calls Tryz.prog 66 #[.int .i64 L.length,.int .i64 M,.pointer (some ⟨VB,0,none⟩),.pointer (some ⟨LB,0,none⟩),.pointer (some ⟨CB,0,none⟩)] wr fun e w'=>(∃ A' c',e= .returned (.tuple #[.slice A' M c',.int .i64 0])∧Own .i64 3 w' wr.heap.size A' M c' ((ys.drop (offS C g m L.length)).take M))∧Blk w' VB 39 [.slice (cut Ar cr M) (ys.length - offS C g m L.length - M) (cr - M)]∧wr.grownBy w' (some VB)) :=
       Lib.hid (hc.out.mono (fun e w' h=>⟨by rcases h.1 with h | h;exact absurd h.1 hbad;exact h.2,h.2⟩))
      have HME:=Lib.hid hMe
      clear hc hbad hMe
      go_wp2_with (first
       | (go_at_call 66;refine hc'.out.mono ?_;rintro e w1 ⟨⟨A',c',rfl,hO'⟩,hR',hG'⟩;have HO':=Lib.hid hO';have HR':=Lib.hid hR';have HG':=Lib.hid hG';have HBI1:=Lib.hid (BI.grownL HS.out.bi hvb hG');have HZ1:=Lib.hid (Nat.le_trans HS.out.gr.size hG'.size);clear hO' hR' hG' hc')
       | (at_builtin;refine list_of rfl fun K hK=>wp_app1 (w:=w1) (base:=W.heap.size) _ _ 89 rfl el41 rfl (.slice A' M c') rfl rfl HBI1.out.o (by omega) (by omega) HZ1.out ?_;intro A2 c2 w2 hO2 hg2;have HO2:=Lib.hid hO2;have HG2:=Lib.hid hg2;clear hO2 hg2;refine hK _ _ ?_;clear hK K))
      have hge:A'≠none→wr.heap.size≤blk A':=fun hA=>(Ownv.blk_of HO'.out hA).1
      have hBL2:BI w2 W.heap.size A2 c2 (L ++ [⟨A',M,c',(ys.drop (offS C g m L.length)).take M⟩]) :=
       BI.push HBI1.out (s:=⟨A',M,c',(ys.drop (offS C g m L.length)).take M⟩) (Ownv.mono HO'.out HS.out.gr.size)
        (fun t ht h8 h9=>by have h10:=(Ownv.blk_of (HS.out.bi.r t ht) h8).2;exact Nat.ne_of_lt (Nat.lt_of_lt_of_le h10 (hge h9))) HO2.out HG2.out
      have hob:∀ k,(Value.slice A L.length c).ownBlock=some k→W.heap.size≤k:=fun k hk=>Ownv.ob' HBI1.out.o hk
      have hLn:some LB≠(Value.slice A L.length c).ownBlock:=fun he=>by have:=hob _ he.symm;omega
      have hRn:some VB≠(Value.slice A L.length c).ownBlock:=fun he=>by have:=hob _ he.symm;omega
      have hR2:=HR'.out.grown HG2.out hRn
      have e1:ys.length - offS C g m L.length - M=ys.length - offS C g m (L.length+1):=by omega
      rw [e1]at hR2
      have hcut:=Rdv.le HY1.out
      have hbk:=blk_cut HY1.out (l:=M) (by omega)
      have hy0:=Rd.cut_ HY1.out (l:=M) (m:=ys.length - offS C g m L.length) (by omega) (Nat.le_refl _)
      rw [List.take_of_length_le (by rw [List.length_drop];exact Nat.le_refl _),List.drop_drop,e1,← hstep]at hy0
      have hr5:∀ h:0<cr - M,blk (cut Ar cr M)≠VB∧blk (cut Ar cr M)<W.heap.size:=fun h=>by rw [hbk];exact HA1.out (by omega)
      have hy2:=Rdv.grown0 (Rdv.grown0 hy0 HG'.out (fun h9 h10=>(hr5 h9).1 (Option.some.inj h10))) HG2.out (fun h9 h10=>by have h11:=hob _ h10.symm;have h12:=(hr5 h9).2;omega)
      have hG3:=grownBy_own (grown_trans HS.out.gr HG'.out) HG2.out hob
      have hlb2:=(HS.out.lb.grown HG'.out hLR).grown HG2.out hLn
      have hns2:Rd .i64 w2 An C cn (shT C g m C):=Rdv.grown (Rdv.grown HS.out.ns HG'.out (fun h9 h10=>(HNV.out h9).1 (Option.some.inj h10))) HG2.out (fun h9 h10=>by have h11:=hob _ h10.symm;have h12:=(HNV.out h9).2;omega)
      have hcb2:w2.cell? ⟨CB,3,none⟩=some (.int .i64 lim):=by
       have h7:=World.block_lt_of_cell? _ _ HS.out.cb
       have h8:w1.cell? ⟨CB,3,none⟩=some (.int .i64 lim):=(World.cell?_of_block (HG'.out.block CB h7 (fun e=>hCV (Option.some.inj e)))).trans HS.out.cb
       exact(World.cell?_of_block (HG2.out.block CB (World.block_lt_of_cell? _ _ h8) (fun he=>by have:=hob _ he.symm;omega))).trans h8
      go_roundw
      case rel=>exact⟨L.length+1,A2,c2,L ++ [⟨A',M,c',(ys.drop (offS C g m L.length)).take M⟩],by omega,by go_num,by simp,by simp,⟨hBL2,by rw [List.map_append,HS.out.xs,prtS_succ,← HME.out];rfl,hlb2,hcb2,⟨_,_,hR2,hy2,hr5⟩,hns2,hG3,lt_succ_cases HS.out.ok HBD.out⟩⟩
      case measure=>simp [intOf];omega
  · have he:L.length=C:=by omega
    subst he
    have HX:=Lib.hid HS.out.xs
    go_wp2
    go_ret2
    exact⟨HS.out.gr,.inr ⟨HS.out.ok,A,c,L,rfl,HS.out.bi,HX.out⟩⟩
theorem VC_true{sz bt md lm rv:Int}(h:VC sz bt md lm rv=true):∃ s g m:Nat,sz=s∧md=m∧bt=((m*g:Nat):Int)∧1≤s∧s≤79536∧(m=2∨m=4∨m=6)∧m*g≤131072∧1≤lm∧0≤rv∧rv≤3:=by
 unfold VC at h
 rw [decide_eq_true_iff]at h
 obtain⟨h1,h2,h3,h4,h5,h6,h7,h8,h9⟩:=h
 have e:bt=md*(bt / md):=by have:=Int.emod_add_mul_ediv bt md;omega
 have hq:0≤bt / md:=Int.ediv_nonneg h4 (by omega)
 have e2:bt=((md.toNat*(bt / md).toNat:Nat):Int):=by
  rw [Int.natCast_mul,show((md.toNat:Nat):Int)=md by omega,show(((bt / md).toNat:Nat):Int)=bt / md by omega];exact e
 refine⟨sz.toNat,(bt / md).toNat,md.toNat,by omega,by omega,e2,by omega,by omega,by omega,?_,h7,h8,h9⟩
 rw [e2]at h5;exact Int.ofNat_le.1 h5
def TsBad(w:World)(e:Ending)(w':World):Prop:=e= .returned (.tuple #[.slice none 0 0,.int .i64 2])∧Below w.heap.size w w'
theorem tsplit_bad(sz bt md lm rv:Int)(A:Option Addr)(n c:Nat)(w:World)(h:VC sz bt md lm rv=false∨(n:Int)≠bt):Calls Tryz.prog 41 #[.agg #[.int .i64 sz,.int .i64 bt,.int .i64 md,.int .i64 lm,.int .i64 rv],.slice A n c] w (TsBad w):=by
 have HC0:=Lib.hid ((Blk.new w [.int .i64 sz,.int .i64 bt,.int .i64 md,.int .i64 lm,.int .i64 rv] 36 rfl).alloc (.cells #[.slice A n c] 39))
 have HV0:Hid (Blk ((w.alloc (.cells [Value.int .i64 sz,.int .i64 bt,.int .i64 md,.int .i64 lm,.int .i64 rv].toArray 36)).alloc (.cells #[.slice A n c] 39)) (w.heap.size+1) 39 [.slice A n c]):=Lib.hid (Blk.new (w.alloc _) [.slice A n c] 39 (by simp))
 have HB0:=Lib.hid (((Below.refl _ w).alloc (Nat.le_refl _) (.cells [Value.int .i64 sz,.int .i64 bt,.int .i64 md,.int .i64 lm,.int .i64 rv].toArray 36)).alloc (by simp) (.cells #[.slice A n c] 39))
 have hc0:=HC0.out
 by_cases hV:VC sz bt md lm rv=true
 · have hne:(n:Int)≠bt:=by rcases h with h | h;rw [hV]at h;cases h;exact h
   obtain⟨s,g,m,rfl,rfl,rfl,hs1,hs2,hm,hgm,hlm,hrv1,hrv2⟩:=VC_true hV
   have HS:=Lib.hid (fun W=>shares_ok s (bC (s+24)) g m lm rv W hs1 hs2 rfl hm hgm hlm ⟨hrv1,hrv2⟩)
   obtain⟨bt,hbt⟩:∃ bt,bt=((m*g:Nat):Int):=⟨_,rfl⟩
   rw [← hbt]at HS HC0 HV0 HB0 hne hc0 ⊢
   have q:((n:Int) != bt)=true:=bne_t hne
   clear h hV hbt hne
   go_enter Tryz.func41,Tryz.ntmps41
   go_wp2_with (first
    | (refine ldrow (cs:=[.int .i64 s,.int .i64 bt,.int .i64 m,.int .i64 lm,.int .i64 rv]) rfl 36 (.tmp 2) rfl rfl hc0 _ Tryz.underlying36 rfl (by kernel_rfl) ?_)
    | (go_at_call 28;refine(HS.out _).mono ?_;rintro e w1 ⟨A1,c1,rfl,hO1,hB1⟩;have k0:=(HV0.out.below hB1).cell (j:=0) rfl;have k1:=(HC0.out.below hB1).cell (j:=1) (v:=.int .i64 bt) rfl;have HB1:=Lib.hid (HB0.out.trans (hB1.mono HB0.out.size));clear hO1 hB1))
   go_ret2
   exact⟨rfl,HB1.out⟩
 · have HS:=Lib.hid (fun W=>shares_bad sz bt md lm rv W (by simpa using hV))
   clear h hV
   go_enter Tryz.func41,Tryz.ntmps41
   go_wp2_with (first
    | (refine ldrow (cs:=[.int .i64 sz,.int .i64 bt,.int .i64 md,.int .i64 lm,.int .i64 rv]) rfl 36 (.tmp 2) rfl rfl hc0 _ Tryz.underlying36 rfl (by kernel_rfl) ?_)
    | (go_at_call 28;refine(HS.out _).mono ?_;rintro e w1 ⟨rfl,hB1⟩;have HB1:=Lib.hid (HB0.out.trans (hB1.mono HB0.out.size));clear hB1))
   go_ret2
   exact⟨rfl,HB1.out⟩
def TsPost(b:Nat)(lim:Int)(C g m:Nat)(ys:List Int)(w:World)(e:Ending)(w':World):Prop :=
 Below w.heap.size w w'∧(((∃ q,q<C∧bad49 b lim C g m q)∧e= .returned (.tuple #[.slice none 0 0,.int .i64 10])) ∨
  ((∀ q,q<C→¬ bad49 b lim C g m q)∧∃ A' c' L,e= .returned (.tuple #[.slice A' L.length c',.int .i64 0])∧BI w' w.heap.size A' c' L∧L.map (·.xs)=prtS ys C g m C))
theorem tsplit_ok(s C g m:Nat)(lm rv:Int)(A:Option Addr)(n c:Nat)(ys:List Int)(w:World)(hs1:1≤s)(hs2:s≤79536)(hCe:C=bC (s+24))(hmm:m=2∨m=4∨m=6)(hgm:m*g≤131072)(hlm:1≤lm)(hrv:0≤rv∧rv≤3)
 (hn:n=m*g) (hy:Rd .i64 w A n c ys) :
 Calls Tryz.prog 41 #[.agg #[.int .i64 s,.int .i64 ((m*g:Nat):Int),.int .i64 m,.int .i64 lm,.int .i64 rv],.slice A n c] w (TsPost (s+24) lm C g m ys w):=by
 have hmf:∀ (fn:Fn) (first cap:Array Value) (w:World),(Instr.makeFunc fn first cap).run Tryz.prog w= .ok (.func fn first cap) w:=fun _ _ _ _=>rfl
 have HS:=Lib.hid (fun W=>shares_ok s C g m lm rv W hs1 hs2 hCe hmm hgm hlm hrv)
 have HLY:=Lib.hid (fun W=>lay_any s W)
 have hly:ly15 s=(LY (s+24),0):=by unfold ly15;rw [if_neg (by omega)];rfl
 rw [hly]at HLY
 have HEA:=Lib.hid (fun VB LB CB An cn A0 n c0 W h1 h2 h3 h4 h5 h6 h7 h8 h9 h10=>each49_any (s+24) lm C g m VB LB CB An cn A0 n c0 ys W (by omega) (by omega) hlm (by rw [hCe];exact bC_pos) (by rw [hCe];exact bC_le (by omega)) h1 h2 h3 h4 h5 h6 h7 h8 h9 h10)
 obtain⟨bt,hbt⟩:∃ bt,bt=((m*g:Nat):Int):=⟨_,rfl⟩
 have hnb:(n:Int)=bt:=by rw [hn,hbt]
 have hn2:n≤200000:=by omega
 rw [← hbt]at HS ⊢
 have q:((n:Int) != bt)=false:=bne_f hnb
 have HNE:=Lib.hid hn
 clear hbt hnb hly hCe hn
 have HC0:=Lib.hid ((Blk.new w [.int .i64 s,.int .i64 bt,.int .i64 m,.int .i64 lm,.int .i64 rv] 36 rfl).alloc (.cells #[.slice A n c] 39))
 have HV0:Hid (Blk ((w.alloc (.cells [Value.int .i64 s,.int .i64 bt,.int .i64 m,.int .i64 lm,.int .i64 rv].toArray 36)).alloc (.cells #[.slice A n c] 39)) (w.heap.size+1) 39 [.slice A n c]):=Lib.hid (Blk.new (w.alloc _) [.slice A n c] 39 (by simp))
 have HB0:=Lib.hid (((Below.refl _ w).alloc (Nat.le_refl _) (.cells [Value.int .i64 s,.int .i64 bt,.int .i64 m,.int .i64 lm,.int .i64 rv].toArray 36)).alloc (by simp) (.cells #[.slice A n c] 39))
 have HY0:=Lib.hid (Rdv.below hy (((Below.refl _ w).alloc (Nat.le_refl _) (.cells [Value.int .i64 s,.int .i64 bt,.int .i64 m,.int .i64 lm,.int .i64 rv].toArray 36)).alloc (by simp) (.cells #[.slice A n c] 39)))
 have HYB:Hid (0<c→blk A<w.heap.size):=Lib.hid (fun hc=>by obtain⟨bb,oo,rfl,h9⟩:=Rdv.ptr hy hc;exact h9)
 clear hy
 have hc0:=HC0.out
 go_enter Tryz.func41,Tryz.ntmps41
 go_wp2_with (first
  | (refine ldrow (cs:=[.int .i64 s,.int .i64 bt,.int .i64 m,.int .i64 lm,.int .i64 rv]) rfl 36 (.tmp 2) rfl rfl hc0 _ Tryz.underlying36 rfl (by kernel_rfl) ?_)
  | (go_at_call 28;refine(HS.out _).mono ?_;rintro e w1 ⟨A1,c1,rfl,hO1,hB1⟩;have k0:=(HV0.out.below hB1).cell (j:=0) rfl;have k1:=(HC0.out.below hB1).cell (j:=1) (v:=.int .i64 bt) rfl;have k2:=(HC0.out.below hB1).cell (j:=0) (v:=.int .i64 s) rfl;have HO1:=Lib.hid hO1;have HBw1:=Lib.hid hB1;clear hO1 hB1)
  | (go_at_call 12;refine(HLY.out _).mono ?_;rintro e w2 ⟨rfl,hB2⟩;have hL0:Blk (w2.alloc (.cells (ints8 zero7).toArray 31)) w2.heap.size 31 (ints8 zero7):=Blk.new w2 _ 31 rfl;have HBw2:=Lib.hid hB2;clear hB2;simp only [ints8,zero7,List.map_cons,List.map_nil]at hL0)
  | (refine strow (cs:=ints8 (LY (s+24))) rfl 31 (.tmp 8) (.tmp 28) rfl rfl rfl hL0 (by simp [ints8,LY]) (by rw [info23];simp [ints8,LY]) (ints8_one _) ?_
     intro W3 g1 g2
     have hq:=(Below.refl w2.heap.size w2).alloc (Nat.le_refl _) (.cells #[.int .i64 0,.int .i64 0,.int .i64 0,.int .i64 0,.int .i64 0,.int .i64 0,.int .i64 0] 31)
     have HB3:=Lib.hid (hq.grown g2 hq.size (fun k hk=>by cases hk;exact Nat.le_refl _))
     have HL3:=Lib.hid g1
     clear g1 g2 hq hL0))
 have d1:=HBw1.out.trans (HBw2.out.mono HBw1.out.size)
 have d:=d1.trans (HB3.out.mono d1.size)
 have dw:=HB0.out.trans (d.mono HB0.out.size)
 have hs0:((w.alloc (.cells [Value.int .i64 s,.int .i64 bt,.int .i64 m,.int .i64 lm,.int .i64 rv].toArray 36)).alloc (.cells #[.slice A n c] 39)).heap.size=w.heap.size+2:=by simp
 have HO3:=Lib.hid (Ownv.below HO1.out ((HBw2.out.trans (HB3.out.mono HBw2.out.size))))
 have HCL:=Lib.hid (HEA.out (w.heap.size+1) w2.heap.size w.heap.size A1 c1 A n c W3 HNE.out hn2 HL3.out (HV0.out.below d) ((HC0.out.below d).cell (j:=3) rfl) (by omega) (Rdv.below HY0.out d) (fun hc=>by have:=HYB.out hc;omega) (Own.rd HO3.out) (fun hA=>by have:=(Ownv.blk_of HO3.out hA).1;rw [hs0]at this;omega))
 have HDW:=Lib.hid dw
 clear hs0 d d1 dw HO3 HB3 HL3 HO1 HY0 HBw1 HBw2 HC0 HV0 HB0 HYB HNE HEA hn2 hc0 k0 k1 k2 q HLY HS
 have hz:=HDW.out.size
 refine HCL.out.mono ?_
 rintro e w4 ⟨hG,⟨hbad,rfl⟩ | ⟨hok,A',c',L,rfl,hBI,hxs⟩⟩
 · have HX:=Lib.hid hbad
   have HB4:=Lib.hid (HDW.out.grown hG hz (fun k hk=>by cases hk;omega))
   clear hbad hG
   go_wp2
   go_ret2
   exact⟨HB4.out,.inl ⟨HX.out,rfl⟩⟩
 · have HX:=Lib.hid hok
   have HBI:=Lib.hid (BI.mono hBI hz)
   have HXS:=Lib.hid hxs
   have HB4:=Lib.hid (HDW.out.grown hG hz (fun k hk=>by cases hk;omega))
   clear hok hG hBI hxs
   go_wp2
   go_ret2
   exact⟨HB4.out,.inr ⟨HX.out,A',c',L,rfl,HBI.out,HXS.out⟩⟩
end Go.Proofs.YtkdfefpnhaebfaaGreat.Cr
namespace Go.Proofs.YtkdfefpnhaebfaaGreat.Cr
open CM Go.RowKit
theorem validB_of_bit{xs:List Int}(h:Bit xs):ValidB xs=true:=validB_t fun q hq=>by rcases h _ (gi_mem xs q hq) with h1 | h1<;>omega
def bE(xs:List Int):Int:=if xs.length<1∨79536<xs.length then 2 else if ValidB xs=true then 0 else 3
def bD(xs:List Int):List (List Int):=if bE xs=0 then sD (xs ++ crcSum 1 xs) else []
def tE(sz:Int)(L:List Sv):Int:=if sz<1∨79536<sz then 2 else if jE (sz+24) L=0 then chkErr 1 (jR (sz+24) L) else jE (sz+24) L
def tR(sz:Int)(L:List Sv):List Int:=if sz<1∨79536<sz then [] else if jE (sz+24) L=0 then chkRes 1 (jR (sz+24) L) else []
theorem jErr_inv{b:Nat}{L:List Sv}(h:jErr b L=0):jV L=true∧L.length=bC b∧jS b L=true:=by
 unfold jErr at h
 split at h
 · cases h
 · rename_i h1
   split at h
   · cases h
   · rename_i h2
     split at h
     · cases h
     · rename_i h3
       exact⟨by simpa using h1,by simpa using h2,by simpa using h3⟩
theorem jS_inv{b:Nat}{L:List Sv}(h:jS b L=true):∀ q s,L[q]?=some s→s.n=sz b q:=by
 intro q s hq
 unfold jS at h
 rw [List.all_eq_true]at h
 have hl:=(List.getElem?_eq_some_iff.1 hq).1
 have h1:=h q (List.mem_range.2 hl)
 rw [hq]at h1
 simpa using h1
theorem jR_len{b:Int}{L:List Sv}(hx:∀ s ∈ L,s.xs.length=s.n):(jR b L).length≤90000:=by
 unfold jR
 split
 · simp
 · rename_i hb
   unfold jRes
   split
   · rename_i h
     obtain⟨h1,h2,h3⟩:=jErr_inv h
     rw [List.length_drop,jD_len hx (jS_inv h3) _ (Nat.le_refl _),h2,off_all (by omega)]
     omega
   · simp
theorem tjoin_any(sz:Int)(A:Option Addr)(n c:Nat)(L:List Sv)(w:World)(hL:RL w A n c L)(hs:∀ s ∈ L,s.n≤100000) :
 Calls Tryz.prog 77 #[.int .i64 sz,.slice A n c] w fun e w'=>∃ A' n' c',e= .returned (.tuple #[.slice A' n' c',.int .i64 (tE sz L)])∧Rd .u8 w' A' n' c' (tR sz L)∧Below w.heap.size w w':=by
 have HLY:=Lib.hid (fun W=>lay_any sz W)
 by_cases h:sz<1∨79536<sz
 · have e1:tE sz L=2:=by unfold tE;rw [if_pos h]
   have e2:tR sz L=[]:=by unfold tR;rw [if_pos h]
   have hly:ly15 sz=(zero7,2):=by unfold ly15;rw [if_pos h]
   rw [e1,e2]
   rw [hly]at HLY
   clear h e1 e2 hly
   simp only [ints8,zero7,List.map_cons,List.map_nil]at HLY
   go_enter Tryz.func77,Tryz.ntmps77
   go_wp2_with fail
   refine(HLY.out _).mono ?_
   rintro e w1 ⟨rfl,hB1⟩
   have HB2:=Lib.hid (bal hB1 (.cells #[.int .i64 0,.int .i64 0,.int .i64 0,.int .i64 0,.int .i64 0,.int .i64 0,.int .i64 0] 31))
   clear hB1
   go_wp2
   go_ret2
   exact⟨none,0,0,rfl,Rd.nilv _ _,HB2.out⟩
 · have hly:ly15 sz=(LY (sz+24).toNat,0):=by unfold ly15;rw [if_neg h]
   rw [hly]at HLY
   have hsw:IntKind.i64.wrap (sz+24)=sz+24:=by rw [IntKind.wrap_i64];omega
   have HJ:=Lib.hid (fun W h=>join_all (sz+24) A n c L W h hs)
   unfold JAll at HJ
   have hlen:=jR_len (b:=sz+24) (L:=L) (fun s hs=>Rd.len (hL.r s hs))
   have e1:tE sz L=if jE (sz+24) L=0 then chkErr 1 (jR (sz+24) L) else jE (sz+24) L:=by unfold tE;rw [if_neg h]
   have e2:tR sz L=if jE (sz+24) L=0 then chkRes 1 (jR (sz+24) L) else []:=by unfold tR;rw [if_neg h]
   rw [e1,e2]
   obtain⟨ly,hl2⟩:∃ ly,ly=LY (sz+24).toNat:=⟨_,rfl⟩
   have hl7:ly.length=7:=by rw [hl2];rfl
   rw [← hl2]at HLY
   obtain⟨E,hE⟩:∃ E,E=jE (sz+24) L:=⟨_,rfl⟩
   obtain⟨X,hX⟩:∃ X,X=jR (sz+24) L:=⟨_,rfl⟩
   rw [← hE,← hX]at HJ ⊢
   rw [← hX]at hlen
   clear hE hX h hly e1 e2 hl2
   have HL:=Lib.hid hL
   clear hL
   by_cases hE0:E=0
   · subst hE0
     rw [if_pos rfl,if_pos rfl]
     go_enter Tryz.func77,Tryz.ntmps77
     go_wp2_with fail
     refine(HLY.out _).mono ?_
     rintro e w1 ⟨rfl,hB1⟩
     have hL0:Blk (w1.alloc (.cells (ints8 zero7).toArray 31)) w1.heap.size 31 (ints8 zero7):=Blk.new w1 _ 31 rfl
     have HB1:=Lib.hid hB1
     clear hB1
     simp only [ints8,zero7,List.map_cons,List.map_nil]at hL0
     go_wp2_with (first
      | (refine strow (cs:=ints8 ly) rfl 31 (.tmp 6) (.tmp 13) rfl rfl rfl hL0 (by simp [ints8,hl7]) (by rw [info23];simp [ints8,hl7]) (ints8_one ly) ?_
         intro W2 g1 g2
         have hq:=(Below.refl w1.heap.size w1).alloc (Nat.le_refl _) (.cells #[.int .i64 0,.int .i64 0,.int .i64 0,.int .i64 0,.int .i64 0,.int .i64 0,.int .i64 0] 31)
         have HB2:=Lib.hid (hq.grown g2 hq.size (fun k hk=>by cases hk;exact Nat.le_refl _))
         clear g1 g2 hq hL0))
     have d:=HB1.out.trans (HB2.out.mono HB1.out.size)
     refine(HJ.out W2 (HL.out.below d)).mono ?_
     rintro e w3 ⟨A3,n3,c3,rfl,hR3,hB3⟩
     have hn3:n3≤100000:=by have:=hR3.len;omega
     have HR3:=Lib.hid hR3
     have HD:=Lib.hid (d.trans (hB3.mono d.size))
     clear d hR3 hB3
     go_wp2_with fail
     refine(check_any 1 A3 n3 c3 X w3 HR3.out hn3).mono ?_
     rintro e w4 ⟨A4,n4,c4,rfl,hO4,hB4⟩
     have HO4:=Lib.hid (Own.rd hO4)
     have HD4:=Lib.hid (HD.out.trans (hB4.mono HD.out.size))
     clear hO4 hB4
     go_wp2
     go_ret2
     exact⟨A4,n4,c4,rfl,HO4.out,HD4.out⟩
   · rw [if_neg hE0,if_neg hE0]
     have hq:(E != 0)=true:=bne_t hE0
     clear hE0
     go_enter Tryz.func77,Tryz.ntmps77
     go_wp2_with fail
     refine(HLY.out _).mono ?_
     rintro e w1 ⟨rfl,hB1⟩
     have hL0:Blk (w1.alloc (.cells (ints8 zero7).toArray 31)) w1.heap.size 31 (ints8 zero7):=Blk.new w1 _ 31 rfl
     have HB1:=Lib.hid hB1
     clear hB1
     simp only [ints8,zero7,List.map_cons,List.map_nil]at hL0
     go_wp2_with (first
      | (refine strow (cs:=ints8 ly) rfl 31 (.tmp 6) (.tmp 13) rfl rfl rfl hL0 (by simp [ints8,hl7]) (by rw [info23];simp [ints8,hl7]) (ints8_one ly) ?_
         intro W2 g1 g2
         have hq:=(Below.refl w1.heap.size w1).alloc (Nat.le_refl _) (.cells #[.int .i64 0,.int .i64 0,.int .i64 0,.int .i64 0,.int .i64 0,.int .i64 0,.int .i64 0] 31)
         have HB2:=Lib.hid (hq.grown g2 hq.size (fun k hk=>by cases hk;exact Nat.le_refl _))
         clear g1 g2 hq hL0))
     have d:=HB1.out.trans (HB2.out.mono HB1.out.size)
     refine(HJ.out W2 (HL.out.below d)).mono ?_
     rintro e w3 ⟨A3,n3,c3,rfl,hR3,hB3⟩
     have HD:=Lib.hid (d.trans (hB3.mono d.size))
     clear d hR3 hB3
     go_wp2
     go_ret2
     exact⟨none,0,0,rfl,Rd.nilv _ _,HD.out⟩
end Go.Proofs.YtkdfefpnhaebfaaGreat.Cr
