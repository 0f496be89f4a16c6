/- Bundle. Conditions: none. -/
import Derived.Test.YthmhogdceolkdaaGreatBqbl
import Derived.Test.YthmhogdceolkdaaGreatBqbf
set_option linter.unusedVariables false
set_option linter.unusedSimpArgs false
namespace Go.Proofs.YthmhogdceolkdaaGreat.Cr
open Tryz
open Go.RowKit Go.Shelf
attribute [local go_sem] Oper.semAt_some
set_option maxRecDepth 100000
set_option maxHeartbeats 4000000
def alL(n:Nat)(y:Int)(i:Nat)(v:Int):Nat->List Int
 | 0=>[]
 | m+1=>alL n y i v m ++ (if gi (gbL n m) i=v then [(y - 16*levI (gbL n m))*(y - 16*levI (gbL n m))] else [])
def dsI(n:Nat)(y:Int)(i:Nat)(v:Int):Int:=lsL (gi (alL n y i v (2 ^ n)) 0) ((alL n y i v (2 ^ n)).drop 1) ((alL n y i v (2 ^ n)).length - 1)
theorem sq_bd{D:Int}(h:-1048688<=D/\D<=1048688):0<=D*D/\D*D<=1100000000000:=by
 rcases Int.le_total 0 D with h0 | h0
 . have h1:D*D<=1048688*1048688:=Int.mul_le_mul h.2 h.2 h0 (by decide)
   have h2:0<=D*D:=Int.mul_nonneg h0 h0;omega
 . have e:D*D = -D*-D:=by rw [Int.neg_mul_neg]
   have h1:-D*-D<=1048688*1048688:=Int.mul_le_mul (by omega) (by omega) (by omega) (by decide);have h2:0<=-D*-D:=Int.mul_nonneg (by omega) (by omega);omega
theorem alL_len(n:Nat)(y:Int)(i:Nat)(v:Int):∀ m,(alL n y i v m).length=(alL n 0 i v m).length
 | 0=>rfl
 | m+1=>by
   show(alL n y i v m ++ _).length=(alL n 0 i v m ++ _).length;rw [List.length_append,List.length_append,alL_len n y i v m];split<;>rfl
theorem alL_le(n:Nat)(y:Int)(i:Nat)(v:Int):∀ m,(alL n y i v m).length<=m
 | 0=>Nat.le_refl _
 | m+1=>by
   have:=alL_le n y i v m;show(alL n y i v m ++ _).length<=_;rw [List.length_append];split<;>simp<;>omega
theorem alL_pos(n:Nat)(y:Int)(i:Nat)(v:Int)(hn:1<=n/\n<=3)(hi:i<n)(hv:v=0\/v=1):1<=(alL n y i v (2 ^ n)).length/\(alL n y i v (2 ^ n)).length<=8:=by
 rw [alL_len];rcases (by omega:(n=1/\i=0)\/(n=2/\i=0)\/(n=2/\i=1)\/(n=3/\i=0)\/(n=3/\i=1)\/(n=3/\i=2)) with⟨rfl,rfl⟩ | ⟨rfl,rfl⟩ | ⟨rfl,rfl⟩ | ⟨rfl,rfl⟩ | ⟨rfl,rfl⟩ | ⟨rfl,rfl⟩<;>rcases hv with rfl | rfl<;>decide +kernel
structure SfK (w:World) (NB XB EB IB YB VB i:Nat) (y v:Int) (l:List Int) (W:World):Prop where
 i:Blk W IB 3 [.int .i64 (i:Int)]
 y:Blk W YB 3 [.int .i64 y]
 v:Blk W VB 5 [.int .u8 v]
 o:∃ A' c',Blk W XB 51 [.slice A' l.length c']/\((l=[]/\c'=0/\A'=some ⟨EB,0,none⟩)\/Own .i64 3 W (NB+1) A' l.length c' l)
 bl:Below w.heap.size w W
 hs:NB<W.heap.size
section
variable {w W W' : World} {NB XB EB IB YB VB i : Nat} {y v : Int} {l : List Int}
theorem SfK.below(h:SfK w NB XB EB IB YB VB i y v l W)(hb:Below W.heap.size W W'):SfK w NB XB EB IB YB VB i y v l W':=by
 obtain⟨A',c',h1,h2⟩:=h.o;exact⟨h.i.below hb,h.y.below hb,h.v.below hb,⟨A',c',h1.below hb,h2.imp id (fun h3=>Ownv.below h3 hb)⟩,h.bl.trans (hb.mono h.bl.size),Nat.lt_of_lt_of_le h.hs hb.size⟩
theorem SfK.clP(h:SfK w NB XB EB IB YB VB i y v l W){k:Nat}{o:Obj}(o':Obj)(hk:W.heap[k]?=some o)(ho:o.isCells=false)(hw:w.heap.size<=k):SfK w NB XB EB IB YB VB i y v l (W.putObj k o'):=by
 obtain⟨A',c',h1,h2⟩:=h.o;exact⟨Blk.put h.i o' hk ho,Blk.put h.y o' hk ho,Blk.put h.v o' hk ho,⟨A',c',Blk.put h1 o' hk ho,h2.imp id (fun h3=>Ownv.put h3 o' hk ho)⟩,h.bl.grown (grownBy_putObj' W k o') h.bl.size (fun q e=>by cases e;exact hw),Nat.lt_of_lt_of_le h.hs (grownBy_putObj' W k o').size⟩
theorem SfK.next(h:SfK w NB XB EB IB YB VB i y v l W)(hd:IB<XB/\YB<XB/\VB<XB/\XB<NB/\w.heap.size<=XB){W2:World}{row:Option Nat}{A2:Option Addr}{c2:Nat}{d:Int}(hO:Own .i64 3 W2 (NB+1) A2 (l.length+1) c2 (l ++ [d]))(hg:W.grownBy W2 row)(hr:∀ r,row=some r->NB+1<=r)(hko:KeepsOthers W W2) :
 KeepsOthers W (W2.setCell ⟨XB,0,none⟩ (.slice A2 (l.length+1) c2))/\(∀ n,KpGr NB n W (W2.setCell ⟨XB,0,none⟩ (.slice A2 (l.length+1) c2)))/\SfK w NB XB EB IB YB VB i y v (l ++ [d]) (W2.setCell ⟨XB,0,none⟩ (.slice A2 (l.length+1) c2)):=by
 obtain⟨A',c',h1,h2⟩:=h.o;have go:∀ {b:Nat} {t:TypeId} {cs:List Value},b<=NB->b≠XB->Blk W b t cs->Blk (W2.setCell ⟨XB,0,none⟩ (.slice A2 (l.length+1) c2)) b t cs:=fun {b t cs} hb hbx hk =>
  Blk.other (hk.grown hg (fun e=>by have:=hr _ e.symm;omega)) (Ne.symm hbx) 0 _
 have hx2:Blk W2 XB 51 [.slice A' l.length c']:=h1.grown hg (fun e=>by have:=hr _ e.symm;omega);refine⟨hko.trans (KeepsOthers.setCell _ _ _),fun n hn=>go (Nat.le_refl _) (by omega) hn,⟨go (by omega) (by omega) h.i,go (by omega) (by omega) h.y,go (by omega) (by omega) h.v,⟨A2,c2,?_,.inr ?_⟩,?_,?_⟩⟩
 . rw [List.length_append];exact hx2.set 0 _
 . rw [List.length_append];exact own_set_blk hx2 hO (by decide) 0 _
 . exact(h.bl.grown hg h.bl.size (fun k e=>by have:=hr k e;omega)).setCell (p:=⟨XB,0,none⟩) hd.2.2.2.2 _
 . have:=hg.size;have:=h.hs;simp;omega
end
theorem qgroups_any(n:Nat)(w:World):Calls prog 271 #[.int .i64 (n:Int)] w fun e w'=>e= .returned (.func (.func 310) #[] #[.pointer (some ⟨w.heap.size,0,none⟩)])/\Blk w' w.heap.size 3 [.int .i64 (n:Int)]/\Below w.heap.size w w':=by
 have hmf:∀ (fn:Fn) (first cap:Array Value) (w:World),(Instr.makeFunc fn first cap).run prog w= .ok (.func fn first cap) w:=fun _ _ _ _=>rfl;have hX:=aq (Blk.new w [.int .i64 (n:Int)] 3 rfl);have hB:=aq (bal (Below.refl w.heap.size w) (.cells #[.int .i64 (n:Int)] 3));go_enter func271,ntmps271;go_wp2;go_ret;exact⟨rfl,hX.o,hB.o⟩
theorem dist_any(n i:Nat)(y v:Int)(PN IB YB:Nat)(w:World)(hn:1<=n/\n<=3)(hi:i<n)(hy:-1048576<=y/\y<=1048576)(hv:v=0\/v=1)
 (h1:Blk w PN 3 [.int .i64 (n:Int)]) (h2:Blk w IB 3 [.int .i64 (i:Int)]) (h3:Blk w YB 3 [.int .i64 y]) :
 Calls prog 270 #[.int .u8 v,.pointer (some ⟨PN,0,none⟩),.pointer (some ⟨IB,0,none⟩),.pointer (some ⟨YB,0,none⟩)] w fun e w'=>e= .returned (.int .i64 (dsI n y i v))/\Below w.heap.size w w':=by
 have hl1:=h1.lt;have hl2:=h2.lt;have hl3:=h3.lt;have p1:=(((h1.alloc (.cells #[.int .u8 v] 5)).alloc (.cells #[] 3)).alloc (.cells #[.slice (some ⟨w.heap.size+1,0,none⟩) 0 0] 51)).cell (j:=0) (v:=.int .i64 (n:Int)) rfl;have HV0:Hid (Blk (((w.alloc (.cells #[.int .u8 v] 5)).alloc (.cells #[] 3)).alloc (.cells #[.slice (some ⟨w.heap.size+1,0,none⟩) 0 0] 51)) w.heap.size 5 [.int .u8 v]):=aq (((Blk.new w [.int .u8 v] 5 rfl).alloc _).alloc _);have HX0:Hid (Blk (((w.alloc (.cells #[.int .u8 v] 5)).alloc (.cells #[] 3)).alloc (.cells #[.slice (some ⟨w.heap.size+1,0,none⟩) 0 0] 51)) (w.heap.size+1+1) 51 [.slice (some ⟨w.heap.size+1,0,none⟩) 0 0]):=aq (Blk.new _ [.slice (some ⟨w.heap.size+1,0,none⟩) 0 0] 51 (by simp));have HI0:=aq (((h2.alloc (.cells #[.int .u8 v] 5)).alloc (.cells #[] 3)).alloc (.cells #[.slice (some ⟨w.heap.size+1,0,none⟩) 0 0] 51));have HY0:=aq (((h3.alloc (.cells #[.int .u8 v] 5)).alloc (.cells #[] 3)).alloc (.cells #[.slice (some ⟨w.heap.size+1,0,none⟩) 0 0] 51));have HB0:=aq (bal (bal (bal (Below.refl w.heap.size w) (.cells #[.int .u8 v] 5)) (.cells #[] 3)) (.cells #[.slice (some ⟨w.heap.size+1,0,none⟩) 0 0] 51));clear h1 h2 h3;refine(callsIn_wide (n:=3)).1 ?_;refine callsIn_of_wp_marks func270 rfl trivial ?_;simp only [ntmps270,List.size_toArray,List.length_cons,List.length_nil,Nat.reduceAdd,Nat.reduceSub,Array.replicate_succ,Array.replicate_zero,List.push_toArray,List.append_toArray,List.nil_append,List.cons_append];refine wpIn_wide.2 ?_;go_wp2_with fail;refine(qgroups_any n _).mono ?_;rintro e w6 ⟨rfl,hN,hB6⟩;dsimp only;obtain⟨NB,hNB⟩:∃ NB,NB=(((w.alloc (.cells #[.int .u8 v] 5)).alloc (.cells #[] 3)).alloc (.cells #[.slice (some ⟨w.heap.size+1,0,none⟩) 0 0] 51)).heap.size:=⟨_,rfl⟩
 rw [<- hNB]at hN ⊢;have hNBs:NB=w.heap.size+3:=by rw [hNB];simp
 have hSz:=hN.lt;have HK:Hid (SfK w NB (w.heap.size+1+1) (w.heap.size+1) IB YB w.heap.size i y v [] w6):=aq ⟨HI0.o.below hB6,HY0.o.below hB6,HV0.o.below hB6,⟨_,0,HX0.o.below hB6,.inl ⟨rfl,rfl,rfl⟩⟩,HB0.o.trans (hB6.mono HB0.o.size),hSz⟩;have HN:=aq hN;clear hN hB6 HI0 HY0 HV0 HX0 HB0 p1 hNB;obtain⟨XB,hXB⟩:∃ XB,XB=w.heap.size+1+1:=⟨_,rfl⟩
 obtain⟨EB,hEB⟩:∃ EB,EB=w.heap.size+1:=⟨_,rfl⟩
 obtain⟨VB,hVB⟩:∃ VB,VB=w.heap.size:=⟨_,rfl⟩
 have HK:Hid (SfK w NB XB EB IB YB VB i y v [] w6):=aq (by rw [hXB,hEB,hVB];exact HK.o);rw [<- hXB,<- hEB,<- hVB];have HD:Hid ((IB<XB/\YB<XB/\VB<XB/\XB<NB/\w.heap.size<=XB)/\w.heap.size<=w6.heap.size):=aq ⟨by omega,HK.o.bl.size⟩;have HF6:Hid (∀ D,w6.heap.size<=D->w.heap.size<=D):=aq (fun D h=>Nat.le_trans HD.o.2 h);clear hXB hEB hVB hNBs hl1 hl2 hl3 hSz;have HSEQ:Hid (SeqW (0+2) 1 310 #[.pointer (some ⟨NB,0,none⟩)] (encGr n) (KpGr NB n) (fun xs=>xs.length=2 ^ n) (fun _=>True) (OkGr n) w6):=aq (fun l J Jx W hB hJ hJx hY h0=>groups_in 0 0 l n NB W hn (HN.o.below hB) J Jx hJ hJx hY h0);go_wp2_with fail;refine(wpIn_wide (n:=0+3)).1 ?_;refine' rangeW (d:=0) (y:=1) (w0:=w6) (gf:=310) (lb:=#[.pointer (some ⟨NB,0,none⟩)]) rfl (enters_of func310 (by kernel_rfl) rfl) HSEQ.o
  (fun pre x W l o o' h hl ho=>⟨h.1,Rdv.putO h.2 o' hl ho⟩) (fun h1 h2 h=>h2 (h1 h)) (fun W l o o' hl h1 h2 h=>Blk.put h o' h1 h2) (Below.refl _ _) (fun _=>rfl)
  (fun pre W=>pre.length<=2 ^ n/\SfK w NB XB EB IB YB VB i y v (alL n y i v pre.length) W)
  (fun _ _ _=>False)
  (fun s X Y h hb=>⟨h.1,h.2.below hb⟩) (fun cd s X Y h hb=>h)
  (fun s X l o o' h hl hk ho=>⟨h.1,h.2.clP o' hk ho (HF6.o _ hl)⟩) (fun cd s X l o o' h hl hk ho=>h)
  ⟨Nat.zero_le _,HK.o⟩ _ ?assign ?body ?done ?stop
 case assign =>
  intro l x W K hK;unfold encGr;gi_wp2;exact hK
 case stop =>
  rintro D cd pre W hD _ h;exact h.elim
 case done =>
  rintro D xs W hD hxs ⟨-,hI⟩ hK;obtain⟨A7,c7,hX7,h7⟩:=hI.o;rw [hxs]at hX7 h7;have hpos:=alL_pos n y i v hn hi hv;have HDS:=aq (show dsI n y i v=lsL (gi (alL n y i v (2 ^ n)) 0) ((alL n y i v (2 ^ n)).drop 1) ((alL n y i v (2 ^ n)).length - 1) from rfl);generalize alL n y i v (2 ^ n)=lz at *;have hO7:Own .i64 3 W (NB+1) A7 lz.length c7 lz:=by
   rcases h7 with⟨h0,-⟩ | h7
   . rw [h0]at hpos;exact absurd hpos.1 (by decide)
   . exact h7
  obtain⟨m,hm⟩:∃ m,m=lz.length:=⟨_,rfl⟩
  rw [<- hm]at hO7 hX7 hpos;have hm1:0<m:=by omega
  have hix:=fun W=>Rdv.ixI hO7.rd el22 (j:=0) hm1 .i64 0 rfl W;have hsl:∀ W,(Instr.sliceAt 51 (.slice A7 m c7) (some (.int .i64 1)) none none).run prog W= .ok (.slice (cut A7 c7 1) (m - 1) (c7 - 1)) W:=fun W=>Rdv.sll hO7.rd el22 .i64 (l:=1) (by omega) W;have HS7:Hid (Blk W.drew XB 51 [.slice A7 m c7]/\Rd .i64 W.drew A7 m c7 lz):=aq ⟨hX7.drew,Rdv.drew hO7.rd⟩
  have HLS:Hid (∀ W9,Rd .i64 W9 A7 m c7 lz->Calls prog 272 #[.int .i64 (gi lz 0),.slice (cut A7 c7 1) (m - 1) (c7 - 1)] W9 fun e w'=>e= .returned (.int .i64 (lsL (gi lz 0) (lz.drop 1) (m - 1)))/\w'=W9):=aq (fun W9 h9=>by
   have hc:=Rd.cut_ h9 (l:=1) (m:=m) (by omega) (Nat.le_refl _);rw [List.take_of_length_le (by rw [<- hm];exact Nat.le_refl _)]at hc
   exact least_any (gi lz 0) (cut A7 c7 1) (m - 1) (c7 - 1) (lz.drop 1) W9 hc)
  have HK9:=aq (show W.drew.heap[D]?=some (.deferred (some [])) from hK);have HB9:=aq ((hI.bl.drew).grown (grownBy_putObj' W.drew D (.deferred none)) (by have:=hI.bl.size;exact this) (fun k e=>by cases e;exact HF6.o _ hD));have hmz:=aq hm.symm;clear hX7 h7 hO7 hI hK hm;go_wp2_with fail;refine Q_start (fun W9=>Blk W9 XB 51 [.slice A7 m c7]/\Rd .i64 W9 A7 m c7 lz) 5 7 ?_;generalize W.drew=W8 at *;refine Q_T 0 30 1 (.slice A7 m c7) [2,1] rfl HS7.o (.inl ⟨by rfl,fun W hS=>by have s0:=Blk.cell hS.1 (j:=0) (v:=.slice A7 m c7) rfl;go_simp⟩) ?_;simp only [z0,z1,z2];refine Q_W 1 31 3 (.pointer (some (adr A7 0))) rfl HS7.o ?_;simp only [z0,z1,z2];refine Q_T 2 32 7 (.int .i64 (gi lz 0)) [] rfl HS7.o (.inl ⟨by rfl,fun W hS=>by have s0:=Rd.cell hS.2 (j:=0) hm1;go_simp⟩) ?_;simp only [z0,z1,z2];refine Q_T 3 33 15 (.slice A7 m c7) [4] rfl HS7.o (.inl ⟨by rfl,fun W hS=>by have s0:=Blk.cell hS.1 (j:=0) (v:=.slice A7 m c7) rfl;go_simp⟩) ?_;simp only [z0,z1,z2];refine Q_W 4 34 31 (.slice (cut A7 c7 1) (m - 1) (c7 - 1)) rfl HS7.o ?_;simp only [z0,z1,z2];refine Q_1 5 63 rfl (fun K hK'=>?_);go_simp;refine(HLS.o _ HS7.o.2).mono ?_;rintro e wy ⟨rfl,hwy⟩;rw [hwy];clear hwy;refine hK' _ _ ?_;clear hK' K;refine Q_1 6 127 rfl (fun K hK=>?_);go_simp;refine hK _ _ ?_;clear hK K;refine Q_end ?_;go_wp2;refine⟨by simp,.inl ⟨_,_,rfl,run_takeDeferred HK9.o,?_⟩⟩;exact⟨_,results_tmp rfl _ _ _,by rw [HDS.o,hmz.o,List.drop_one];rfl,HB9.o⟩
 case body =>
  rintro l pre x W ⟨-,hI⟩ ⟨hlt,hrd⟩;obtain⟨g,hg⟩:∃ g,g=pre.length:=⟨_,rfl⟩
  have hl1':(pre ++ [x]).length=g+1:=by rw [List.length_append,hg];rfl
  have HPL:=aq hl1';rw [<- hg]at hI hlt hrd;clear hg hl1';have hbt:=gbL_bit n g;have hLv:=fun W9 (h9:Rd .u8 W9 x n n (gbL n g))=>level_any n hn.2 x n (gbL n g) W9 h9 hbt;have hLb:=(hLv W hrd).1;have HLV:Hid (∀ W9,Rd .u8 W9 x n n (gbL n g)->Calls prog 221 #[.slice x n n] W9 fun e w'=>e= .returned (.int .i64 (levI (gbL n g)))/\Qt W9 w'):=aq (fun W9 h9=>(hLv W9 h9).2);have HAL:=aq (show alL n y i v (g+1)=alL n y i v g ++ (if gi (gbL n g) i=v then [(y - 16*levI (gbL n g))*(y - 16*levI (gbL n g))] else []) from rfl);have hin:=hi;obtain⟨b,hbv⟩:∃ b,gi (gbL n g) i=b:=⟨_,rfl⟩
  rw [hbv]at HAL;have hix:=fun W=>Rdv.ix hrd el53 hi .i64 W;have HI:=aq (hI.below (Below.refl _ W).drew);have HKO:=aq (KeepsOthers.drew W);have HKP:Hid (KpGr NB n W W.drew):=aq (fun h=>h.drew);have HS:Hid (Blk W.drew IB 3 [.int .i64 (i:Int)]/\Blk W.drew VB 5 [.int .u8 v]/\Rd .u8 W.drew x n n (gbL n g)):=aq ⟨HI.o.i,HI.o.v,Rdv.drew hrd⟩;clear hI hrd hLv hbt;generalize levI (gbL n g)=L at *;have w1:IntKind.i64.wrap (16*L)=16*L:=IntWalk.i64_in _ (by omega);have w2:IntKind.i64.wrap (y - 16*L)=y - 16*L:=IntWalk.i64_in _ (by omega);have hsq:=sq_bd (D:=y - 16*L) (by omega);gi_wp2_with fail;refine Q_startR (fun W9=>Blk W9 IB 3 [.int .i64 (i:Int)]/\Blk W9 VB 5 [.int .u8 v]/\Rd .u8 W9 x n n (gbL n g)) 5 6 (fun⟨_,_,h⟩=>h) ?_;generalize W.drew=wd at *;refine Q_W 0 13 1 (.slice x n n) rfl HS.o ?_;simp only [z0,z1,z2];refine Q_T 1 14 3 (.int .i64 (i:Int)) [3,2] rfl HS.o (.inl ⟨by rfl,fun W hS=>by have s0:=Blk.cell hS.1 (j:=0) (v:=.int .i64 (i:Int)) rfl;go_simp⟩) ?_;simp only [z0,z1,z2];refine Q_W 2 15 7 (.pointer (some (adr x i))) rfl HS.o ?_;simp only [z0,z1,z2];refine Q_T 3 16 15 (.int .u8 b) [] rfl HS.o (.inl ⟨by rfl,fun W hS=>by have s0:=Rd.cell hS.2.2 hin;rw [hbv]at s0;go_simp⟩) ?_;simp only [z0,z1,z2];refine Q_T 4 17 31 (.int .u8 v) [] rfl HS.o (.inl ⟨by rfl,fun W hS=>by have s0:=Blk.cell hS.2.1 (j:=0) (v:=.int .u8 v) rfl;go_simp⟩) ?_;simp only [z0,z1,z2];refine Q_1 5 63 rfl (fun K hK=>?_);go_simp;refine hK _ _ ?_;clear hK K;refine Q_end ?_;by_cases hbe:b=v
  . have hbq:(b == v)=true:=beq_t hbe
    rw [if_pos hbe]at HAL;have HB5:Hid (Below wd.heap.size wd wd.drew):=aq (Below.refl _ wd).drew;have HS5:Hid (Blk wd.drew YB 3 [.int .i64 y]/\Rd .u8 wd.drew x n n (gbL n g)):=aq ⟨HI.o.y.drew,Rdv.drew HS.o.2.2⟩;gi_wp2_with fail;refine Q_startR (fun W9=>Blk W9 YB 3 [.int .i64 y]/\Rd .u8 W9 x n n (gbL n g)) 4 6 (fun⟨_,_,h⟩=>h) ?_;generalize wd.drew=we at *;refine Q_T 0 19 1 (.int .i64 y) [] rfl HS5.o (.inl ⟨by rfl,fun W hS=>by have s0:=Blk.cell hS.1 (j:=0) (v:=.int .i64 y) rfl;go_simp⟩) ?_;simp only [z0,z1,z2];refine Q_W 1 20 3 (.slice x n n) rfl HS5.o ?_;simp only [z0,z1,z2];refine Q_1S 2 7 rfl (fun K hK=>?_);go_simp;refine(HLV.o _ HS5.o.2).mono ?_;rintro e wx ⟨rfl,hq⟩;have HBx:=aq (HB5.o.trans ((hq.below _).mono HB5.o.size));have HS6:Hid (Blk wx YB 3 [.int .i64 y]/\Rd .u8 wx x n n (gbL n g)):=aq ⟨HS5.o.1.below (hq.below _),Rdv.below HS5.o.2 (hq.below _)⟩;clear hq;refine hK _ _ HS6.o ?_;clear hK K;refine Q_W 3 22 15 (.int .i64 (16*L)) rfl HS6.o ?_;simp only [z0,z1,z2];refine Q_1 4 31 rfl (fun K hK=>?_);go_simp;refine hK _ _ ?_;clear hK K;refine Q_1 5 63 rfl (fun K hK=>?_);go_simp;refine hK _ _ ?_;clear hK K;refine Q_end ?_;have HIx:=aq (HI.o.below HBx.o);have HKOx:=aq (HKO.o.trans (KeepsOthers.of_grownBy (gb_below HBx.o none) (fun j o e=>by cases e)));have HKPx:Hid (KpGr NB n W wx):=aq (fun h=>(HKP.o h).below HBx.o);clear HI HKO HKP HS HS5 HS6 HB5 HLV w1 w2;obtain⟨A7,c7,hX7,h7⟩:=HIx.o.o;have HX7:=aq hX7;have cX:=hX7.cell (j:=0) (v:=.slice A7 (alL n y i v g).length c7) rfl;have hlen:=alL_le n y i v g;have hg8:g<8:=by
     rcases (by omega:n=1\/n=2\/n=3) with rfl | rfl | rfl<;>simp at hlt<;>omega
    clear hX7;obtain⟨dd,hdd⟩:∃ dd,dd=(y - 16*L)*(y - 16*L):=⟨_,rfl⟩
    have w3:wrap64 ((y - 16*L)*(y - 16*L))=dd:=by rw [hdd];exact IntWalk.wrap64_in _ (by omega)
    rw [<- hdd]at HAL hsq;clear hdd;obtain⟨n7,hn7⟩:∃ n7,n7=(alL n y i v g).length:=⟨_,rfl⟩
    rw [<- hn7]at h7 HX7 cX hlen;have HN7:=aq hn7;generalize alL n y i v g=lg at *;clear hn7;rcases h7 with h70 | hO7
    . have H70:=aq h70
      clear h70;gi_wp2_with ((with_reducible refine listAp ?hL2 ?hh2);(case hL2=>exact fun⟨_,_,h⟩=>h);intro K hK;refine wp_app1e (w:=wx) (g:=EB) _ _ 51 rfl el22 (by show Value.slice A7 n7 c7=_;rw [H70.o.2.2,H70.o.2.1,HN7.o,H70.o.1];rfl) (.int .i64 dd) rfl (by omega) ?_;intro A2 c2 W2 hO2 hB2;have HN:=aq (SfK.next (l:=[]) (H70.o.1 ▸ HIx.o) HD.o.1 (c2:=c2) (d:=dd) (Ownv.mono hO2 HIx.o.hs) (gb_below hB2 none) nofun (KeepsOthers.of_grownBy (gb_below hB2 none) (fun j o e=>by cases e)));have hx2:=HX7.o.below hB2;have c2':=hx2.cell (j:=0) (v:=.slice A7 n7 c7) rfl;have f2':=hx2.frozen 0;clear hO2 hB2;refine hK _ _ ?_;clear hK K);refine⟨HKOx.o.trans HN.o.1,fun h=>HN.o.2.1 n (HKPx.o h),?_⟩;show(pre ++ [x]).length<=2 ^ n/\SfK _ _ _ _ _ _ _ _ _ _ (alL n y i v (pre ++ [x]).length) _;rw [HPL.o,HAL.o,H70.o.1];exact⟨hlt,HN.o.2.2⟩
    . obtain rfl:=HN7.o
      have HO7:=aq hO7;clear hO7 HN7;gi_wp2_with ((with_reducible refine listAp ?hL3 ?hh3);(case hL3=>exact fun⟨_,_,h⟩=>h);intro K hK;refine wp_app1 (w:=wx) (base:=NB+1) _ _ 51 rfl el22 rfl (.int .i64 dd) rfl rfl HO7.o (by omega) (by omega) HIx.o.hs ?_;intro A2 c2 W2 hO2 hg2;have HN:=aq (HIx.o.next HD.o.1 (c2:=c2) (d:=dd) (Own.of_eq hO2 rfl (by rw [List.map_append];rfl)) hg2 (fun r e=>Ownv.ob' HO7.o e) (KeepsOthers.of_grownBy hg2 (fun j o hj=>row_cells HO7.o j o hj)));have hx2:=HX7.o.grown hg2 (fun e=>by have:=Ownv.ob' HO7.o e.symm;have:=HD.o.1;omega);have c2':=hx2.cell (j:=0) (v:=.slice A7 lg.length c7) rfl;have f2':=hx2.frozen 0;clear hO2 hg2;refine hK _ _ ?_;clear hK K);refine⟨HKOx.o.trans HN.o.1,fun h=>HN.o.2.1 n (HKPx.o h),?_⟩;show(pre ++ [x]).length<=2 ^ n/\SfK _ _ _ _ _ _ _ _ _ _ (alL n y i v (pre ++ [x]).length) _;rw [HPL.o,HAL.o];exact⟨hlt,HN.o.2.2⟩
  . have hbq:(b == v)=false:=beq_f hbe
    rw [if_neg hbe,List.append_nil]at HAL;gi_wp2;refine⟨HKO.o,HKP.o,?_⟩;show(pre ++ [x]).length<=2 ^ n/\SfK _ _ _ _ _ _ _ _ _ _ (alL n y i v (pre ++ [x]).length) _;rw [HPL.o,HAL.o];exact⟨hlt,HI.o⟩
def sfI(n:Nat)(y:Int)(i:Nat):Int:=clI ((dsI n y i 1 - dsI n y i 0).tdiv 64)
def sfP(n:Nat)(y:Int)(i:Nat):List Int:=(List.range n).map fun q=>if q<i then sfI n y q else 0
def sfL(n:Nat)(y:Int):List Int:=(List.range n).map (sfI n y)
theorem sfP_zero(n:Nat)(y:Int):sfP n y 0=List.replicate n 0:=by unfold sfP;simp [List.map_const']
theorem sfP_all(n:Nat)(y:Int):sfP n y n=sfL n y:=by
 unfold sfP sfL;exact List.map_congr_left fun q hq=>by rw [if_pos (List.mem_range.1 hq)]
theorem sfP_set(n:Nat)(y:Int)(i:Nat)(hi:i<n):(sfP n y i).set i (sfI n y i)=sfP n y (i+1):=by
 apply List.ext_getElem?;intro q;unfold sfP;rw [List.getElem?_set];by_cases hq:q<n
 . by_cases e:i=q
   . subst e;simp [hq]
   . rw [if_neg e]
     simp only [List.getElem?_map,List.getElem?_range hq,Option.map_some];congr 1;by_cases h1:q<i
     . rw [if_pos h1,if_pos (by omega)]
     . rw [if_neg h1,if_neg (by omega)]
 . by_cases e:i=q
   . omega
   . rw [if_neg e]
     simp [hq]
theorem lsL_bd{x:Int}{l:List Int}{b:Int}(hx:0<=x/\x<=b)(hl:∀ j,j<l.length->0<=gi l j/\gi l j<=b):∀ j,j<=l.length->0<=lsL x l j/\lsL x l j<=b
 | 0,_=>hx
 | j+1,h=>by
   have h1:=lsL_bd hx hl j (by omega);have h2:=hl j (by omega);show 0<=min (lsL x l j) (gi l j)/\min (lsL x l j) (gi l j)<=b;omega
theorem alL_bd(n:Nat)(y:Int)(i:Nat)(v:Int)(hn:n<=3)(hy:-1048576<=y/\y<=1048576):∀ m,∀ x ∈ alL n y i v m,0<=x/\x<=1100000000000
 | 0,x,hx=>by cases hx
 | m+1,x,hx=>by
   have hx:x ∈ alL n y i v m ++ (if gi (gbL n m) i=v then [(y - 16*levI (gbL n m))*(y - 16*levI (gbL n m))] else []):=hx;rcases List.mem_append.1 hx with h | h
   . exact alL_bd n y i v hn hy m x h
   . split at h
     . have hb:=levI_bd (gbL n m) (by rw [gbL_len];exact hn) (gbL_bit n m)
       have h8:(2:Int) ^ (gbL n m).length<=8:=by
        rw [gbL_len];rcases (by omega:n=0\/n=1\/n=2\/n=3) with rfl | rfl | rfl | rfl<;>decide
       obtain rfl:=List.mem_singleton.1 h;exact sq_bd (by omega)
     . cases h
theorem tdiv64_bd{x:Int}(h:-1100000000000<=x/\x<=1100000000000):-1100000000000<=x.tdiv 64/\x.tdiv 64<=1100000000000:=by
 rcases Int.le_total 0 x with h0 | h0
 . rw [Int.tdiv_eq_ediv_of_nonneg h0];omega
 . obtain⟨z,rfl⟩:∃ z,x = -z:=⟨-x,by omega⟩
   rw [Int.neg_tdiv,Int.tdiv_eq_ediv_of_nonneg (by omega)];omega
theorem dsI_bd(n:Nat)(y:Int)(i:Nat)(v:Int)(hn:1<=n/\n<=3)(hi:i<n)(hv:v=0\/v=1)(hy:-1048576<=y/\y<=1048576):0<=dsI n y i v/\dsI n y i v<=1100000000000:=by
 have hp:=alL_pos n y i v hn hi hv;have hb:=alL_bd n y i v hn.2 hy (2 ^ n);unfold dsI;generalize alL n y i v (2 ^ n)=l at *;refine lsL_bd (hb _ (gi_mem l 0 (by omega))) (fun j hj=>?_) _ (by simp);exact hb _ (List.mem_of_mem_drop (gi_mem _ j hj))
theorem softs_any(n:Nat)(y:Int)(w:World)(hn:1<=n/\n<=3)(hy:-1048576<=y/\y<=1048576) :
 Calls prog 209 #[.int .i64 (n:Int),.int .i64 y] w fun e w'=>∃ A,e= .returned (.slice A n n)/\Own .i64 3 w' w.heap.size A n n (sfL n y)/\Below w.heap.size w w':=by
 have hmf:∀ (fn:Fn) (first cap:Array Value) (w:World),(Instr.makeFunc fn first cap).run prog w= .ok (.func fn first cap) w:=fun _ _ _ _=>rfl;have HPN:=aq ((Blk.new w [.int .i64 (n:Int)] 3 rfl).alloc (.cells #[.int .i64 y] 3));have HYB:Hid (Blk ((w.alloc (.cells #[.int .i64 (n:Int)] 3)).alloc (.cells #[.int .i64 y] 3)) (w.heap.size+1) 3 [.int .i64 y]):=aq (Blk.new _ [.int .i64 y] 3 (by simp));have HB0:=aq (bal (bal (Below.refl w.heap.size w) (.cells #[.int .i64 (n:Int)] 3)) (.cells #[.int .i64 y] 3));have p0:=HPN.o.cell (j:=0) (v:=.int .i64 (n:Int)) rfl;have hn2:n<=3:=hn.2;go_enter func209,ntmps209;go_wp2_with (refine list_of rfl fun K hK=>wp_mk (n:=n) (.tmp 8) (.tmp 8) 51 rfl el22 rfl rfl (by omega) (by unfold maxLen;omega) ?_;intro A w2 hO2 hB2 hA2;have HPN2:=aq (HPN.o.below hB2);have HYB2:=aq (HYB.o.below hB2);have HO2:Hid (Own .i64 3 w2 (w.heap.size+2) A n n (sfP n y 0)):=aq (Own.of_eq (Ownv.mono hO2 (by simp)) rfl (by rw [sfP_zero,List.map_replicate]));have HB2:=aq (HB0.o.trans (hB2.mono HB0.o.size));clear hO2 hB2 hA2 p0;refine hK _ _ ?_;clear hK K);clear HPN HYB HB0;go_loopw [12] (fun iv wr=>∃ i:Nat,i<=n/\iv= .int .i64 (i:Int)/\Own .i64 3 wr (w.heap.size+2) A n n (sfP n y i)/\Blk wr w.heap.size 3 [.int .i64 (n:Int)]/\Blk wr (w.heap.size+1) 3 [.int .i64 y]/\Below w.heap.size w wr) (fun iv _=>n - (intOf iv).toNat)
 case atStart=>exact⟨0,Nat.zero_le _,rfl,HO2.o,HPN2.o,HYB2.o,HB2.o⟩
 case round =>
  obtain⟨i,hi,rfl,hO,hp,hyb,hB⟩:=hrel;have HO:=aq hO;have HP:=aq hp;have HY:=aq hyb;have HB:=aq hB;clear hO hp hyb hB;by_cases hlt:i<n
  . go_wp2_with fail
    have hyx:i<3:=by omega
    have HDI1:Hid (∀ W,Blk W w.heap.size 3 [.int .i64 (n:Int)]->Blk W (w.heap.size+1) 3 [.int .i64 y]->Blk W wr.heap.size 3 [.int .i64 (i:Int)]->Calls prog 270 #[.int .u8 1,.pointer (some ⟨w.heap.size,0,none⟩),.pointer (some ⟨wr.heap.size,0,none⟩),.pointer (some ⟨w.heap.size+1,0,none⟩)] W fun e w'=>e= .returned (.int .i64 (dsI n y i 1))/\Below W.heap.size W w'):=aq (fun W h1 h2 h3=>dist_any n i y 1 w.heap.size wr.heap.size (w.heap.size+1) W hn hlt hy (by decide) h1 h3 h2);have HDI0:Hid (∀ W,Blk W w.heap.size 3 [.int .i64 (n:Int)]->Blk W (w.heap.size+1) 3 [.int .i64 y]->Blk W wr.heap.size 3 [.int .i64 (i:Int)]->Calls prog 270 #[.int .u8 0,.pointer (some ⟨w.heap.size,0,none⟩),.pointer (some ⟨wr.heap.size,0,none⟩),.pointer (some ⟨w.heap.size+1,0,none⟩)] W fun e w'=>e= .returned (.int .i64 (dsI n y i 0))/\Below W.heap.size W w'):=aq (fun W h1 h2 h3=>dist_any n i y 0 w.heap.size wr.heap.size (w.heap.size+1) W hn hlt hy (by decide) h1 h3 h2);have HB1:=dsI_bd n y i 1 hn hlt (.inr rfl) hy;have HB2':=dsI_bd n y i 0 hn hlt (.inl rfl) hy;have HSF:=aq (show sfI n y i=clI ((dsI n y i 1 - dsI n y i 0).tdiv 64) from rfl);have HST:=aq (sfP_set n y i hlt);have hb0:Below wr.heap.size wr (wr.alloc (.cells #[.int .i64 (i:Int)] 3)).drew:=((Below.refl _ wr).alloc (Nat.le_refl _) _).drew;obtain⟨IB,hIB⟩:∃ IB,IB=wr.heap.size:=⟨_,rfl⟩
    have hX:Blk (wr.alloc (.cells #[.int .i64 (i:Int)] 3)).drew IB 3 [.int .i64 (i:Int)]:=(Blk.new wr [.int .i64 (i:Int)] 3 hIB).drew;have HS0:Hid (Blk (wr.alloc (.cells #[.int .i64 (i:Int)] 3)).drew w.heap.size 3 [.int .i64 (n:Int)]/\Blk (wr.alloc (.cells #[.int .i64 (i:Int)] 3)).drew (w.heap.size+1) 3 [.int .i64 y]/\Blk (wr.alloc (.cells #[.int .i64 (i:Int)] 3)).drew IB 3 [.int .i64 (i:Int)]/\Own .i64 3 (wr.alloc (.cells #[.int .i64 (i:Int)] 3)).drew (w.heap.size+2) A n n (sfP n y i)):=aq ⟨HP.o.below hb0,HY.o.below hb0,hX,Ownv.below HO.o hb0⟩;have HG0:=aq (HB.o.trans (hb0.mono HB.o.size));have HNE:Hid (w.heap.size≠blk A/\w.heap.size+1≠blk A):=aq (by have:=(Ownv.blk_ge HO.o (by omega)).1;omega);have hix:=fun W=>Rdv.ix HO.o.rd el22 hlt .i64 W;rw [<- hIB]at HDI1 HDI0 ⊢;clear hX hIB hb0 HO HP HY HB HO2 HPN2 HYB2 HB2;generalize dsI n y i 1=d1 at *;generalize dsI n y i 0=d0 at *;have w1:IntKind.i64.wrap (d1 - d0)=d1 - d0:=IntWalk.i64_in _ (by omega);obtain⟨qq,hqq⟩:∃ qq,qq=(d1 - d0).tdiv 64:=⟨_,rfl⟩
    have w2:(d1 - d0).tdiv 64=qq:=hqq.symm;have w2':IntKind.i64.wrap qq=qq:=IntWalk.i64_in _ (by have:=tdiv64_bd (x:=d1 - d0) (by omega);rw [hqq];omega);rw [<- hqq]at HSF;clear hqq;refine Q_start (fun W9=>Blk W9 w.heap.size 3 [.int .i64 (n:Int)]/\Blk W9 (w.heap.size+1) 3 [.int .i64 y]/\Blk W9 IB 3 [.int .i64 (i:Int)]/\Own .i64 3 W9 (w.heap.size+2) A n n (sfP n y i)) 10 11 ?_;generalize (wr.alloc (.cells #[.int .i64 (i:Int)] 3)).drew=w4 at *;refine Q_W 0 16 1 (.slice A n n) rfl HS0.o ?_;simp only [z0,z1,z2];refine Q_T 1 17 3 (.int .i64 (i:Int)) [9] rfl HS0.o (.inl ⟨by rfl,fun W hS=>by have s0:=Blk.cell hS.2.2.1 (j:=0) (v:=.int .i64 (i:Int)) rfl;go_simp⟩) ?_;simp only [z0,z1,z2];refine Q_W 2 18 7 (.func (.func 270) #[] #[.pointer (some ⟨w.heap.size,0,none⟩),.pointer (some ⟨IB,0,none⟩),.pointer (some ⟨w.heap.size+1,0,none⟩)]) rfl HS0.o ?_;simp only [z0,z1,z2];refine Q_W 4 20 23 (.func (.func 270) #[] #[.pointer (some ⟨w.heap.size,0,none⟩),.pointer (some ⟨IB,0,none⟩),.pointer (some ⟨w.heap.size+1,0,none⟩)]) rfl HS0.o ?_;simp only [z0,z1,z2];refine Q_1S 3 31 rfl (fun K hK=>?_);go_simp;refine(HDI1.o _ HS0.o.1 HS0.o.2.1 HS0.o.2.2.1).mono ?_;rintro e w5 ⟨rfl,hwx⟩;have HS5:Hid (Blk w5 w.heap.size 3 [.int .i64 (n:Int)]/\Blk w5 (w.heap.size+1) 3 [.int .i64 y]/\Blk w5 IB 3 [.int .i64 (i:Int)]/\Own .i64 3 w5 (w.heap.size+2) A n n (sfP n y i)):=aq ⟨HS0.o.1.below hwx,HS0.o.2.1.below hwx,HS0.o.2.2.1.below hwx,Ownv.below HS0.o.2.2.2 hwx⟩;have HG5:=aq (HG0.o.trans (hwx.mono HG0.o.size));clear hwx;refine hK _ _ HS5.o ?_;clear hK K;refine Q_1S 5 63 rfl (fun K hK=>?_);go_simp;refine(HDI0.o _ HS5.o.1 HS5.o.2.1 HS5.o.2.2.1).mono ?_;rintro e w6 ⟨rfl,hwx⟩;have HS6:Hid (Blk w6 w.heap.size 3 [.int .i64 (n:Int)]/\Blk w6 (w.heap.size+1) 3 [.int .i64 y]/\Blk w6 IB 3 [.int .i64 (i:Int)]/\Own .i64 3 w6 (w.heap.size+2) A n n (sfP n y i)):=aq ⟨HS5.o.1.below hwx,HS5.o.2.1.below hwx,HS5.o.2.2.1.below hwx,Ownv.below HS5.o.2.2.2 hwx⟩;have HG6:=aq (HG5.o.trans (hwx.mono HG5.o.size));clear hwx;refine hK _ _ HS6.o ?_;clear hK K;refine Q_W 6 22 127 (.int .i64 (d1 - d0)) rfl HS6.o ?_;simp only [z0,z1,z2];refine Q_W 7 23 255 (.int .i64 qq) rfl HS6.o ?_;simp only [z0,z1,z2];refine Q_1S 8 511 rfl (fun K hK=>?_);go_simp;refine(clamp_any qq _).mono ?_;rintro e w7 ⟨rfl,hwx⟩;have HS7:Hid (Blk w7 w.heap.size 3 [.int .i64 (n:Int)]/\Blk w7 (w.heap.size+1) 3 [.int .i64 y]/\Blk w7 IB 3 [.int .i64 (i:Int)]/\Own .i64 3 w7 (w.heap.size+2) A n n (sfP n y i)):=aq ⟨HS6.o.1.below hwx,HS6.o.2.1.below hwx,HS6.o.2.2.1.below hwx,Ownv.below HS6.o.2.2.2 hwx⟩;have HG7:=aq (HG6.o.trans (hwx.mono HG6.o.size));have hc:=Rd.cell HS7.o.2.2.2.rd hlt;have hf:=Ownv.frozen HS7.o.2.2.2 (by omega) i;have HW:=aq (Own.set_ HS7.o.2.2.2 hlt (clI qq));have HPW:=aq (HS7.o.1.grown HW.o.2 (fun e=>HNE.o.1 (Option.some.inj e)));have HYW:=aq (HS7.o.2.1.grown HW.o.2 (fun e=>HNE.o.2 (Option.some.inj e)));have HBW:=aq (HG7.o.grown HW.o.2 HG7.o.size (fun k hk=>by cases hk;have:=(Ownv.blk_ge HS7.o.2.2.2 (by omega)).1;omega));clear hwx;refine hK _ _ HS7.o ?_;clear hK K;refine Q_W 9 25 1023 (.pointer (some (adr A i))) rfl HS7.o ?_;simp only [z0,z1,z2];refine Q_1 10 2047 rfl (fun K hK=>?_);go_simp;refine hK _ _ ?_;clear hK K;refine Q_end ?_;go_wp2;go_roundw
    case rel=>exact⟨i+1,by omega,by go_num,by rw [<- HST.o,HSF.o];exact HW.o.1,HPW.o,HYW.o,HBW.o⟩
    case measure=>simp [intOf];omega
  . obtain rfl:i=n:=by omega
    go_wp2;go_ret;exact⟨A,rfl,by rw [<- sfP_all];exact Ownv.mono HO.o (by omega),HB.o⟩
end Go.Proofs.YthmhogdceolkdaaGreat.Cr
namespace Go.Proofs.YthmhogdceolkdaaGreat
open Tryz
open Go.RowKit
section
variable {w w' : World} {A B : Option Addr} {n c m d base : Nat} {tt : TypeId} {vs us : List Value} {P : Program} {e : TypeId}
theorem two_lit(w:World)(u v:Value)(e:TypeId):Rdv (w.alloc (.cells #[u,v] e)) (some ⟨w.heap.size,0,none⟩) 2 2 [u,v]:=(Ownv.lit (base:=0) w #[u,v] e rfl (Nat.zero_le _) (by show 2<=maxLen;unfold maxLen;omega)).rd
theorem wp_appF{o:Oper}{a:Act}{K:Act->World->Prop}{Q:Exit->Act->World->Prop}(s x:Operand)(t:TypeId)
 (ho:o.op= .call {callee:=.builtin .append,args:=#[s,x],argTypes:=#[t,t]}) {z:Value} {bytes:Nat} (hE:El P t e z bytes) (hs:a.eval s= .slice A n c) (hx:a.eval x= .slice B m d)
 (hO:Ownv e w base A n c vs) (hR:Rdv w B m d us) (h1:∀ u ∈ us,u.oneCell'=true) (hby:(n+m)*bytes<=140737488355328) (hm:n+m<=maxLen) (hm0:0<m) (hbase:base<=w.heap.size)
 (h:∀ A' c' w',Ownv e w' base A' (n+m) c' (vs ++ us)->w.grownBy w' ((Value.slice A n c).ownBlock)->(A'=A\/w.heap.size<=blk A')->K (a.put o.dst (.slice A' (n+m) c')) w'):o.wp P a w K Q:=by
 obtain⟨A',c',w',hr,h2,h3⟩:=run_append_rd ⟨t,z,bytes,hE,hby,hm,rfl⟩ hO hR h1 hbase o.type;have h4:A'=A\/w.heap.size<=blk A':=by
  obtain⟨i,hi,hz0,hz1,hz2⟩:=info_parts hE.i;obtain⟨b,oo,rfl,-⟩:=hR.ptr (by have:=hR.le;omega);have hcell:∀ j u,us[j]?=some u->w.cell? ((⟨b,oo,none⟩:Addr).add j)=some u:=fun j u hj=>by
   have h8:=hR.at_ j u hj;rwa [adr_some,<- add_lit]at h8
  have hul:us.length=m*i.size:=by rw [hz1,hR.len];omega
  obtain⟨hl,hc⟩:=hO.cases;rcases hc with⟨rfl,rfl,rfl⟩ | ⟨g,cur,rfl,hb,hh,hnc,hcm,hsz,ht⟩
  . have hq:=run_append_nil (P:=P) w t o.type e i z hE.u hi hz0 ⟨b,oo,none⟩ m d us hul hcell (by omega) (by unfold maxLen at hm;omega) (by rw [hz2];rw [Nat.zero_add]at hby;omega)
    rw [hq]at hr;simp only [Result.ok.injEq,Value.slice.injEq]at hr;obtain⟨⟨rfl,-⟩,-⟩:=hr;exact .inr (Nat.le_refl _)
  . by_cases hroom:n+m<=c
    . have hq:=run_append_room (P:=P) w t o.type e i hE.u hi g n c cur hh ⟨b,oo,none⟩ m d us hul hcell h1 hroom (by rw [hul,hsz,hz1];omega)
      rw [hq]at hr;simp only [Result.ok.injEq,Value.slice.injEq]at hr;obtain⟨⟨rfl,-⟩,-⟩:=hr;exact .inl rfl
    . have hq:=run_append_grow (P:=P) w t o.type e i z hE.u hi hz0 ⟨g,0,none⟩ n c vs (by rw [hz1,hl];omega) (hO.ow.cells (g:=g) rfl) ⟨b,oo,none⟩ m d us hul hcell (by omega) (by unfold maxLen at hm;omega) (growslice_fits (by omega) (by rw [hz2];omega))
      rw [hq]at hr;simp only [Result.ok.injEq,Value.slice.injEq]at hr;obtain⟨⟨rfl,-⟩,-⟩:=hr;exact .inr (Nat.le_refl _)
 unfold Oper.wp;simp only [execOp,ho,resolve,invoke,builtin,Sem.run_bind,Sem.run_pure,Result.andThen_ok,List.map_toArray,List.map_cons,List.map_nil,hs,hx,hr];exact h A' c' w' h2 h3 h4
end
end Go.Proofs.YthmhogdceolkdaaGreat