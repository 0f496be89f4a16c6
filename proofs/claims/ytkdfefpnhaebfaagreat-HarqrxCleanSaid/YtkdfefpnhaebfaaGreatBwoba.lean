/- Bundle. Conditions: none. -/
import Derived.Test.YtkdfefpnhaebfaaGreatBwoaz
set_option linter.unusedVariables false
set_option linter.unusedSimpArgs false
namespace Go.Proofs.YtkdfefpnhaebfaaGreat.Cr
open Go.RowKit Go.Shelf
attribute [local go_sem] Oper.semAt_some
set_option maxRecDepth 100000
set_option maxHeartbeats 4000000
def filL(d s N n:Nat):List Int:=ordT d s n ++ List.replicate (N - n) 0
theorem filL_set{d s N n:Nat}(h:n<N):(filL d s N n).set n (ordV d s n)=filL d s N (n+1):=by
 unfold filL
 rw [List.set_append_right _ _ (by rw [ordT_len];exact Nat.le_refl _),ordT_len,Nat.sub_self,ordT_succ,List.append_assoc]
 congr 1
 rw [show N - n=(N - (n+1))+1 by omega,List.replicate_succ]
 rfl
theorem filL_all{d s N:Nat}:filL d s N N=ordT d s N:=by simp [filL]
structure OrK (w:World) (base DB OB d s N:Nat) (A:Option Addr) (n:Nat) (W:World):Prop where
 le:n≤N
 o:Own .i64 3 W base A N N (filL d s N n)
 x:Blk W OB 39 [.slice A N N]
 dd:Blk W DB 3 [.int .i64 d]
 bl:Below w.heap.size w W
theorem OrK.cl{w:World}{B base DB OB d s N:Nat}{A:Option Addr}(hA:A≠none→blk A<B)(hO:OB<B)(hD:DB<B)(hw:w.heap.size≤B):Cl B (fun(pre:List (Int × Int)) W=>OrK w base DB OB d s N A pre.length W):=fun pre W W' row h hg hr =>
 ⟨h.le,Ownv.grown h.o hg (fun hn=>fun e=>by have:=hr _ e.symm;have:=hA hn;omega),h.x.grown hg (fun e=>by have:=hr _ e.symm;omega),h.dd.grown hg (fun e=>by have:=hr _ e.symm;omega),h.bl.grown hg h.bl.size (fun k e=>Nat.le_trans hw (hr k e))⟩
theorem OrK.next{w W:World}{base DB OB d s N:Nat}{A:Option Addr}{n:Nat}(h:OrK w base DB OB d s N A n W)(hn:n<N)(hO:blk A≠OB)(hD:blk A≠DB)(hw:w.heap.size≤blk A){v:Int}(hv:ordV d s n=v) :
 KeepsOthers W (W.setCell (adr A n) (.int .i64 v))∧KpB [blk A] W (W.setCell (adr A n) (.int .i64 v))∧OrK w base DB OB d s N A (n+1) (W.setCell (adr A n) (.int .i64 v)):=by
 have h2:=Own.set_ h.o hn v
 refine⟨KeepsOthers.setCell _ _ _,KpB.set h2.2 (by simp),⟨hn,?_,h.x.grown h2.2 (fun e=>hO (Option.some.inj e).symm),h.dd.grown h2.2 (fun e=>hD (Option.some.inj e).symm),h.bl.grown h2.2 h.bl.size (fun k e=>by cases e;exact hw)⟩⟩
 have h3:=h2.1
 rw [← hv,filL_set hn]at h3
 rw [hv]at h3
 exact h3
theorem mxV_max{d m:Nat}(hd:d≤32*rwS d):max ((m:Int) - (((32*rwS d:Nat):Int) - (d:Int))) (-1)=mxV d m:=by
 unfold mxV
 split
 · rw [Int.max_eq_right (by omega)]
 · rw [Int.max_eq_left (by omega)];omega
theorem order_ok(d s:Nat)(w:World)(h1:1≤d)(h2:d≤6148)(hs:s≤2):Calls Tryz.prog 212 #[.int .i64 d,.int .i64 s] w fun e w'=>∃ A,e= .returned (.tuple #[.slice A (32*rwS d) (32*rwS d),.int .i64 0])∧Own .i64 3 w' w.heap.size A (32*rwS d) (32*rwS d) (ordL d s)∧Below w.heap.size w w':=by
 have hR:=rwS_le h2
 have hR1:=rwS_pos h1
 have hge:=rwS_ge d
 have HMX:=Lib.hid (fun m=>mxV_max (d:=d) (m:=m) hge)
 have HOF:=Lib.hid (fun W=>of_ok d s W h1 h2 hs)
 have HSQ:=Lib.hid (fun IB SB sv bs W=>ind_seq d s IB SB sv h1 h2 hs bs W)
 have HPL:=Lib.hid (psO_len d s)
 have HPG:=Lib.hid (psO_get d s)
 have HOV:=Lib.hid (fun k=>show ordV d s k=mxV d (mx0 d s (k / rwS d) (k % rwS d)) from rfl)
 have HXL:=Lib.hid (fun c r (h:r<rwS d)=>mx0_lt (d:=d) (s:=s) (c:=c) h)
 have HL:=Lib.hid (show ordL d s=ordT d s (32*rwS d) from rfl)
 unfold OfPost at HOF
 generalize rwS d=R at *
 obtain⟨N,hN⟩:∃ N,N=32*R:=⟨_,rfl⟩
 have hNI:IntKind.i64.wrap (32*(R:Int))=(N:Int):=by rw [IntKind.wrap_i64,hN];push_cast;omega
 rw [← hN]at HMX HPL HL HXL hge ⊢
 have hN2:N≤6176:=by omega
 have hN1:1≤N:=by omega
 clear hN
 refine(callsIn_wide (n:=3)).1 ?_
 refine callsIn_of_wp_marks Tryz.func212 rfl trivial ?_
 simp only [Tryz.ntmps212,List.size_toArray,List.length_cons,List.length_nil,Nat.reduceAdd,Nat.reduceSub,Array.replicate_succ,Array.replicate_zero,List.push_toArray,List.append_toArray,List.nil_append,List.cons_append]
 refine wpIn_wide.2 ?_
 have hd0:=Blk.new w [.int .i64 d] 3 rfl
 have hb0:=bal (Below.refl _ w) (.cells [Value.int .i64 d].toArray 3)
 have HD0:=Lib.hid hd0
 have HB0:=Lib.hid hb0
 clear hd0 hb0
 go_wp2_with fail
 refine(HOF.out _).mono ?_
 rintro e w1 ⟨sv,SB,rfl,hV,hSB,hSB2,hone,hB1⟩
 have HV1:=Lib.hid hV
 have HD1:=Lib.hid (HD0.out.below hB1)
 have HB1:=Lib.hid (HB0.out.trans (hB1.mono HB0.out.size))
 have HSB:=Lib.hid hSB2
 have HONE:=Lib.hid hone
 clear hV hB1 hSB hSB2 HD0 HB0 HOF hone
 have hs0:Blk (w1.alloc (.cells #[.int .i64 0,.nilFunc] 296)) w1.heap.size 296 [.int .i64 0,.nilFunc]:=Blk.new w1 _ 296 rfl
 go_wp2_with (first
  | (refine strow (cs:=[.int .i64 R,sv]) rfl 296 (.tmp 6) (.tmp 15) rfl rfl rfl hs0 rfl info138 (by intro v hv;simp at hv;rcases hv with rfl | rfl;rfl;exact HONE.out) ?_
     intro W2 g1 g2
     have HS2:=Lib.hid g1
     have hq:=(Below.refl w1.heap.size w1).alloc (Nat.le_refl _) (.cells #[.int .i64 0,.nilFunc] 296)
     have HB2:=Lib.hid (hq.grown g2 hq.size (fun k hk=>by cases hk;exact Nat.le_refl _))
     have c0:=g1.cell (j:=0) (v:=.int .i64 R) rfl
     clear g1 g2 hs0 hq)
  | (at_make;refine list_of rfl fun K hK=>wp_mk (n:=N) _ _ 39 rfl el34 rfl rfl (by omega) (by unfold maxLen;omega) ?_
     intro A w3 hO3 hB3 hA
     have HO3:=Lib.hid hO3
     have HA:=Lib.hid hA
     have HB23:=Lib.hid hB3
     have hs4:=(HS2.out.below hB3).alloc (.cells #[.slice A N N] 39)
     clear hO3 hB3 hA c0
     refine hK _ _ ?_
     clear hK K)
  | (refine ldrow (cs:=[.int .i64 R,sv]) rfl 296 (.tmp 6) rfl rfl hs4 _ Tryz.underlying296 rfl info138 ?_))
 obtain⟨w4,hw4⟩:∃ W,W=w3.alloc (.cells #[.slice A N N] 39):=⟨_,rfl⟩
 have hB34:Below w3.heap.size w3 w4:=by rw [hw4];exact(Below.refl _ _).alloc (Nat.le_refl _) _
 have hx4:Blk w4 w3.heap.size 39 [.slice A N N]:=by rw [hw4];exact Blk.new w3 _ 39 rfl
 have h14:Below w1.heap.size w1 w4:=HB2.out.trans ((HB23.out.trans (hB34.mono HB23.out.size)).mono HB2.out.size)
 have HD4:=Lib.hid (HD1.out.below h14)
 have HV4:=Lib.hid (HV1.out.below h14)
 have HB4:=Lib.hid (HB1.out.trans (h14.mono HB1.out.size))
 have HX4:=Lib.hid hx4
 have HO4:=Lib.hid (Ownv.below HO3.out hB34)
 have hbA:W2.heap.size≤blk A∧blk A<w4.heap.size:=(Ownv.blk_ge HO4.out (by omega))
 have hlo:w1.heap.size≤W2.heap.size:=HB2.out.size
 have hOB:w3.heap.size<w4.heap.size:=hx4.lt
 have hDB:w.heap.size<w1.heap.size:=HD1.out.lt
 have hAOB:blk A≠w3.heap.size:=by have:=(Ownv.blk_ge HO3.out (by omega)).2;omega
 rw [← hw4]
 clear hw4 hB34 hx4 h14 hs4 HB2 HB23 HS2 HO3 HD1 HV1 HB1
 generalize w3.heap.size=OB at *
 refine(ind_any R sv w4 HONE.out).mono ?_
 rintro e w5 ⟨rfl,hI5,hB5⟩
 have HI5:=Lib.hid hI5
 have HK:Hid (OrK w W2.heap.size w.heap.size OB d s N A 0 w5):=Lib.hid ⟨Nat.zero_le _,Own.of_eq (Ownv.below HO4.out hB5) rfl (by simp [filL,ordT]),HX4.out.below hB5,HD4.out.below hB5,HB4.out.trans (hB5.mono HB4.out.size)⟩
 have HV5:=Lib.hid (HV4.out.below hB5)
 have hz5:w4.heap.size<w5.heap.size:=hI5.lt
 generalize w4.heap.size=IB at *
 have HSEQ:=Lib.hid (HSQ.out IB SB sv [blk A] w5 HI5.out HV5.out (by simp;omega) (by have:=HSB.out;simp;omega) (by intro b hb;simp at hb;subst hb;omega))
 have hwB:=HK.out.bl.size
 clear hI5 hB5 HB4 HD4 HV4 HX4 HO4 HSQ HV5 HI5
 go_wp2_with fail
 refine(wpIn_wide (n:=3)).1 ?_
 refine' rangeD (w0:=w5) (gf:=257) (lb:=#[.pointer (some ⟨IB,0,none⟩)]) rfl (enters_of Tryz.func257 (by kernel_rfl) rfl) HSEQ.out KpB.trans (fun W l o o' hl h1 h2=>KpB.put o' h1 h2) (Below.refl _ _) (fun _=>rfl)
  (fun pre W=>OrK w W2.heap.size w.heap.size OB d s N A pre.length W) (fun _ _ _=>False) (OrK.cl (fun _=>by omega) (by omega) (by omega) (by omega)) (fun _ _ _ _ _ h _ _=>h) HK.out _ ?assign ?body ?done ?stop
 case assign =>
  intro l x W K hK
  unfold encP
  gi_wp2
  exact hK
 case body =>
  rintro l pre x W hI ⟨hlt,rfl⟩
  rw [HPG.out]
  rw [HPL.out]at hlt
  have hov:=HOV.out pre.length
  obtain⟨m,hm⟩:∃ m,m=mx0 d s (pre.length / R) (pre.length % R):=⟨_,rfl⟩
  rw [← hm]at hov ⊢
  have hmN:m<N:=by rw [hm];exact HXL.out _ _ (Nat.mod_lt _ (by omega))
  clear hm
  have hmx:=HMX.out m
  rw [← hov]at hmx
  have hc:=Rd.cell (Own.rd hI.o) hlt
  have hf:=Ownv.frozen hI.o (by omega) pre.length
  have hix:=fun W=>Rdv.ix (Own.rd hI.o) el34 hlt .i64 W
  have cO:=hI.x.cell (j:=0) (v:=.slice A N N) rfl
  have cD:=hI.dd.cell (j:=0) (v:=.int .i64 d) rfl
  have HI:=Lib.hid hI
  have HLT:=Lib.hid hlt
  have HOVM:=Lib.hid hov
  clear hI hov
  have hlen:∀ x:Int × Int,(pre ++ [x]).length=pre.length+1:=fun x=>by simp
  by_cases hmd:m+d+1<N
  · have hv:ordV d s pre.length = -1:=by rw [← hmx];exact Int.max_eq_right (by omega)
    have HNX:=Lib.hid (HI.out.next HLT.out (v:=-1) hAOB (by omega) (by omega) hv)
    clear hmx hv HOVM
    gi_wp2
    exact⟨HNX.out.1,HNX.out.2.1,by have h9:=HNX.out.2.2;rw [← hlen ((pre.length:Int),(m:Int))]at h9;exact h9⟩
  · have hv:ordV d s pre.length=(m:Int) - ((N:Int) - (d:Int)):=by rw [← hmx];exact Int.max_eq_left (by omega)
    have HNX:=Lib.hid (HI.out.next HLT.out (v:=(m:Int) - ((N:Int) - (d:Int))) hAOB (by omega) (by omega) hv)
    clear hmx hv HOVM
    gi_wp2
    exact⟨HNX.out.1,HNX.out.2.1,by have h9:=HNX.out.2.2;rw [← hlen ((pre.length:Int),(m:Int))]at h9;exact h9⟩
 case done =>
  rintro D ys W hD rfl hI hK
  rw [HPL.out]at hI
  have cO:=hI.x.cell (j:=0) (v:=.slice A N N) rfl
  have hO:=hI.o
  rw [filL_all,← HL.out]at hO
  have HO9:=Lib.hid (Ownv.mono (hO.grown (grownBy_putObj' W D (.deferred none)) (fun _ e=>by have:=Option.some.inj e;omega)) (show w.heap.size≤W2.heap.size by omega))
  have HB9:=Lib.hid (hI.bl.grown (grownBy_putObj' W D (.deferred none)) hI.bl.size (fun k e=>by cases e;omega))
  clear hO
  go_wp2
  refine⟨by simp,.inl ⟨_,_,rfl,run_takeDeferred hK,?_⟩⟩
  exact⟨_,results_tmp2 rfl _ _ _,A,rfl,HO9.out,HB9.out⟩
 case stop =>
  rintro D c pre W hD _ hx hK
  exact hx.elim
end Go.Proofs.YtkdfefpnhaebfaaGreat.Cr
namespace Go.Proofs.YtkdfefpnhaebfaaGreat.Cr
open Go.RowKit
def elV(k f s:Nat)(i:Int):Int:=if i<0∨(s<2∧i<(f:Int)) then -1 else((s*(k+4):Nat):Int)+i
def sxN(N x:Nat):Nat:=if x<N then 0 else(x - N) % 2+1
def jxN(N x:Nat):Nat:=if x<N then x else(x - N) / 2
def nB(k:Nat):Nat:=32*rwS (k+4)
def vX(k f x:Nat):Int:=elV k f (sxN (nB k) x) (ordV (k+4) (sxN (nB k) x) (jxN (nB k) x))
def bufT(k f n:Nat):List Int:=(List.range n).map (vX k f)
def bufL(k f:Nat):List Int:=bufT k f (3*nB k)
theorem bufT_len(k f n:Nat):(bufT k f n).length=n:=by simp [bufT]
theorem bufT_gi(k f n x:Nat)(h:x<n):gi (bufT k f n) x=vX k f x:=by
 rw [gi_eq _ _ (by rw [bufT_len];exact h)];simp [bufT]
theorem nB_le{k:Nat}(h:k≤6144):nB k≤6176:=by unfold nB;have:=rwS_le (d:=k+4) (by omega);omega
theorem nB_pos{k:Nat}:1≤nB k:=by unfold nB;have:=rwS_pos (d:=k+4) (by omega);omega
theorem mxV_bd{d m:Nat}(hm:m<32*rwS d):-1≤mxV d m∧mxV d m<(d:Int):=by
 unfold mxV
 have:=rwS_ge d
 split<;>omega
theorem ordV_bd{d s k:Nat}(hd:1≤d):-1≤ordV d s k∧ordV d s k<(d:Int):=mxV_bd (mx0_lt (Nat.mod_lt _ (by have:=rwS_pos hd;omega)))
def usC(xs:List Int):Nat:=(xs.filter fun x=>decide (0≤x)).length
theorem usC_snoc(xs:List Int)(x:Int):usC (xs ++ [x])=usC xs+if 0≤x then 1 else 0:=by
 unfold usC
 rw [List.filter_append,List.length_append]
 by_cases h:0≤x
 · simp [h]
 · simp [h]
theorem usC_le(xs:List Int):usC xs≤xs.length:=List.length_filter_le _ _
theorem cell_below{w w':World}{p:Addr}{v:Value}(hc:w.cell? p=some v)(h:Below w.heap.size w w'):w'.cell? p=some v:=(h.cell (World.block_lt_of_cell? w _ hc)).trans hc
theorem ordL_gi(d s j:Nat)(h:j<32*rwS d):gi (ordL d s) j=ordV d s j:=by
 unfold ordL
 rw [gi_eq _ _ (by rw [ordT_len];exact h)];simp [ordT]
def szB(k:Nat)(lim:Int):Nat:=if lim≤((3*nB k:Nat):Int) then lim.toNat else 3*nB k
set_option maxRecDepth 100000
def pS(N s j:Nat):Nat:=if s=0 then j else N+2*j+s - 1
theorem pS_lt{N s j:Nat}(hs:s≤2)(hj:j<N):pS N s j<3*N:=by unfold pS;split<;>omega
theorem pS_iff{N s j x:Nat}(hs:s≤2)(hj:j<N)(hx:x<3*N):(sxN N x=s∧jxN N x=j)↔pS N s j=x:=by
 unfold sxN jxN pS
 split<;>split<;>omega
theorem jxN_lt{N x:Nat}(hx:x<3*N):jxN N x<N:=by unfold jxN;split<;>omega
theorem sxN_le(N x:Nat):sxN N x≤2:=by unfold sxN;split<;>omega
def fuV(k f s j x:Nat):Int:=if sxN (nB k) x<s∨(sxN (nB k) x=s∧jxN (nB k) x<j) then vX k f x else 0
def fulS(k f s j:Nat):List Int:=(List.range (3*nB k)).map (fuV k f s j)
theorem fulS_len(k f s j:Nat):(fulS k f s j).length=3*nB k:=by simp [fulS]
theorem fulS_gi(k f s j x:Nat)(h:x<3*nB k):gi (fulS k f s j) x=fuV k f s j x:=by
 rw [gi_eq _ _ (by rw [fulS_len];exact h)];simp [fulS]
theorem fulS_set{k f s j:Nat}(hs:s≤2)(hj:j<nB k):(fulS k f s j).set (pS (nB k) s j) (elV k f s (ordV (k+4) s j))=fulS k f s (j+1):=by
 refine ext_gi (by simp [fulS_len]) fun x hx=>?_
 have hx':x<3*nB k:=by simpa [fulS_len] using hx
 rw [gi_set _ _ _ _ (by rw [fulS_len];exact pS_lt hs hj),fulS_gi _ _ _ _ _ hx',fulS_gi _ _ _ _ _ hx']
 have hi:=pS_iff hs hj hx'
 by_cases e:pS (nB k) s j=x
 · rw [if_pos e]
   obtain⟨e1,e2⟩:=hi.2 e
   unfold fuV
   rw [if_pos (.inr ⟨e1,by omega⟩)]
   unfold vX
   rw [e1,e2]
 · rw [if_neg e]
   have h9:¬ (sxN (nB k) x=s∧jxN (nB k) x=j):=fun h=>e (hi.1 h)
   unfold fuV
   by_cases h8:sxN (nB k) x<s∨(sxN (nB k) x=s∧jxN (nB k) x<j)
   · rw [if_pos h8,if_pos (by omega)]
   · rw [if_neg h8,if_neg (by omega)]
theorem fulS_next(k f s:Nat):fulS k f s (nB k)=fulS k f (s+1) 0:=by
 refine ext_gi (by rw [fulS_len,fulS_len]) fun x hx=>?_
 rw [fulS_len]at hx
 rw [fulS_gi _ _ _ _ _ hx,fulS_gi _ _ _ _ _ hx]
 have:=jxN_lt hx
 unfold fuV
 by_cases h8:sxN (nB k) x<s+1
 · rw [if_pos (by omega),if_pos (.inl h8)]
 · rw [if_neg (by omega),if_neg (by omega)]
theorem fulS_all(k f:Nat):fulS k f 3 0=bufL k f:=by
 refine ext_gi (by rw [fulS_len,bufL,bufT_len]) fun x hx=>?_
 rw [fulS_len]at hx
 have:=sxN_le (nB k) x
 rw [fulS_gi _ _ _ _ _ hx,bufL,bufT_gi _ _ _ _ hx]
 unfold fuV
 rw [if_pos (.inl (by omega))]
theorem fulS_none(k f:Nat):fulS k f 0 0=List.replicate (3*nB k) 0:=by
 refine List.ext_getElem (by simp [fulS]) fun x h1 h2=>?_
 simp [fulS,fuV]
theorem at0_any(s d SB DB:Nat)(i:Int)(w:World)(hS:Blk w SB 3 [.int .i64 s])(hD:Blk w DB 3 [.int .i64 d])(hs:s≤2)(hd:d≤6148)(h1:0≤i)(h2:i≤7000):Calls Tryz.prog 210 #[.int .i64 i,.pointer (some ⟨SB,0,none⟩),.pointer (some ⟨DB,0,none⟩)] w fun e w'=>e= .returned (.int .i64 (((s*d:Nat):Int)+i))∧w=w':=by
 have c1:=hS.cell (j:=0) (v:=.int .i64 s) rfl
 have c2:=hD.cell (j:=0) (v:=.int .i64 d) rfl
 have hm:(s:Int)*(d:Int)=((s*d:Nat):Int):=by push_cast;rfl
 have hb:s*d≤12296:=by have:=Nat.mul_le_mul hs hd;omega
 generalize s*d=P at *
 go_enter Tryz.func210,Tryz.ntmps210
 go_wp2
 go_ret
 exact⟨rfl,by trivial⟩
theorem at_lo{k f s:Nat}{i:Int}(h1:0≤i)(h:s<2→(f:Int)≤i):((s*(k+4):Nat):Int)+i=elV k f s i:=by
 unfold elV
 rw [if_neg (by omega)]
theorem at_hi{k f s:Nat}{i:Int}(h:i<(f:Int))(hs:s<2):elV k f s i = -1:=by
 unfold elV
 rw [if_pos (.inr ⟨hs,h⟩)]
theorem at1_any(k f s WB PB SB DB:Nat)(R Z:Value)(i:Int)(w:World)(hW:Blk w WB 174 [.int .i64 k,.int .i64 f,R,Z])(hP:Blk w PB 88 [.func (.func 210) #[] #[.pointer (some ⟨SB,0,none⟩),.pointer (some ⟨DB,0,none⟩)]])(hS:Blk w SB 3 [.int .i64 s])(hD:Blk w DB 3 [.int .i64 ((k+4:Nat):Int)])(hs:s<2)(hk:k≤6144)(h1:0≤i)(h2:i≤7000) :
 Calls Tryz.prog 211 #[.int .i64 i,.pointer (some ⟨WB,0,none⟩),.pointer (some ⟨PB,0,none⟩)] w fun e w'=>e= .returned (.int .i64 (elV k f s i))∧w=w':=by
 have c1:=hW.cell (j:=1) (v:=.int .i64 f) rfl
 by_cases h:i<(f:Int)
 · rw [at_hi h hs]
   have q:decide (i<(f:Int))=true:=by simp [h]
   go_enter Tryz.func211,Tryz.ntmps211
   go_wp2
   go_ret
   exact⟨rfl,by trivial⟩
 · have q:decide (i<(f:Int))=false:=by simp;omega
   have c2:=hP.cell (j:=0) (v:=.func (.func 210) #[] #[.pointer (some ⟨SB,0,none⟩),.pointer (some ⟨DB,0,none⟩)]) rfl
   have HA:=Lib.hid (at0_any s (k+4) SB DB i w hS hD (by omega) (by omega) h1 h2)
   rw [at_lo (k:=k) (f:=f) (s:=s) h1 (fun _=>by omega)]at HA
   go_enter Tryz.func211,Tryz.ntmps211
   go_wp2_with fail
   refine HA.out.mono ?_
   rintro e w' ⟨rfl,rfl⟩
   go_wp2
   go_ret
   exact⟨rfl,by trivial⟩
set_option maxHeartbeats 4000000
def W115(WB k R:Nat)(W:World):Prop:=W.cell? ⟨WB,0,none⟩=some (.int .i64 k)∧W.cell? ⟨WB,2,none⟩=some (.int .i64 R)
theorem W115.alloc{WB k R:Nat}{W:World}(h:W115 WB k R W)(o:Obj):W115 WB k R (W.alloc o):=⟨cell_below h.1 (bal (Below.refl _ W) o),cell_below h.2 (bal (Below.refl _ W) o)⟩
def FoJ(k f N D WB DB base:Nat)(A:Option Addr)(Rv Sv:Value)(w:World)(i:Value)(wr:World):Prop:=∃ s:Nat,s≤3∧i= .int .i64 s∧Own .i64 3 wr base A (3*N) (3*N) (fulS k f s 0)∧Blk wr DB 3 [.int .i64 D]∧Blk wr WB 174 [.int .i64 k,.int .i64 f,Rv,Sv]∧Below w.heap.size w wr
structure FiS (k f s N D WB DB SB PB base:Nat) (A O:Option Addr) (Rv Sv:Value) (w:World) (i:Value) (wr:World) (j:Nat):Prop where
 le:j≤N
 ie:i= .int .i64 j
 ow:Own .i64 3 wr base A (3*N) (3*N) (fulS k f s j)
 dd:Blk wr DB 3 [.int .i64 D]
 ww:Blk wr WB 174 [.int .i64 k,.int .i64 f,Rv,Sv]
 ss:Blk wr SB 3 [.int .i64 s]
 pp:s<2→Blk wr PB 88 [.func (.func 210) #[] #[.pointer (some ⟨SB,0,none⟩),.pointer (some ⟨DB,0,none⟩)]]
 rr:Rd .i64 wr O N N (ordL D s)
 nn:blk A<blk O
 bb:Below w.heap.size w wr
def FiI(k f s N D WB DB SB PB base:Nat)(A O:Option Addr)(Rv Sv:Value)(w:World)(i:Value)(wr:World):Prop:=∃ j:Nat,FiS k f s N D WB DB SB PB base A O Rv Sv w i wr j
theorem FiI.next{k f s N D WB DB SB PB base:Nat}{A O:Option Addr}{Rv Sv:Value}{w:World}{i:Value}{wr:World}{j:Nat}(h:FiS k f s N D WB DB SB PB base A O Rv Sv w i wr j)(hj:j<N)(hp:pS N s j<3*N)
 {u:Int} (hst:(fulS k f s j).set (pS N s j) u=fulS k f s (j+1)) {v:Int} (hv:u=v) (hA:blk A≠DB∧blk A≠WB) (hS:blk A≠SB) (hP:s<2→blk A≠PB) (hb:w.heap.size≤blk A) :
 FiS k f s N D WB DB SB PB base A O Rv Sv w (.int .i64 ((j+1:Nat):Int)) (wr.setCell (adr A (pS N s j)) (.int .i64 v)) (j+1):=by
 have h2:=Own.set_ h.ow hp v
 have h3:=h2.1
 rw [← hv,hst,hv]at h3
 have ne:∀ {B:Nat},blk A≠B→some B≠some (blk A):=fun hne e=>hne (Option.some.inj e).symm
 exact⟨hj,rfl,h3,h.dd.grown h2.2 (ne hA.1),h.ww.grown h2.2 (ne hA.2),h.ss.grown h2.2 (ne hS),fun hs=>(h.pp hs).grown h2.2 (ne (hP hs)),Rdv.grown h.rr h2.2 (fun _=>ne (by have:=h.nn;omega)),h.nn,h.bb.grown h2.2 h.bb.size (fun k e=>by cases e;exact hb)⟩
theorem full_any(k f:Nat)(Z:Int)(w:World)(h1k:40≤k)(h2k:k≤6144):Calls Tryz.prog 162 #[.agg #[.int .i64 k,.int .i64 f,.int .i64 (rwS (k+4)),.int .i64 Z]] w fun e w'=>∃ A,e= .returned (.slice A (3*nB k) (3*nB k))∧Own .i64 3 w' w.heap.size A (3*nB k) (3*nB k) (bufL k f)∧Below w.heap.size w w':=by
 have hR:=rwS_le (d:=k+4) (by omega)
 have hN:=nB_le h2k
 have hN1:=nB_pos (k:=k)
 have HOR:=Lib.hid (fun s (hs:s≤2) W=>order_ok (k+4) s W (by omega) (by omega) hs)
 have HG:=Lib.hid (fun s j (h:j<nB k)=>ordL_gi (k+4) s j h)
 have HBD:=Lib.hid (fun s j=>ordV_bd (d:=k+4) (s:=s) (k:=j) (by omega))
 have HSET:=Lib.hid (fun s j (hs:s≤2) (h:j<nB k)=>fulS_set (k:=k) (f:=f) hs h)
 have HNXT:=Lib.hid (fulS_next k f)
 have HALL:=Lib.hid (fulS_all k f)
 have HNON:=Lib.hid (fulS_none k f)
 have hNR:nB k=32*rwS (k+4):=rfl
 simp only [← hNR]at HOR
 generalize nB k=N at *
 generalize rwS (k+4)=R at *
 obtain⟨D,hD⟩:∃ D,D=k+4:=⟨_,rfl⟩
 have HDK:=Lib.hid hD
 rw [← hD]at HOR HG HBD HSET
 obtain⟨WB,hWB⟩:∃ B,B=w.heap.size:=⟨_,rfl⟩
 obtain⟨DB,hDB⟩:∃ B,B=w.heap.size+1:=⟨_,rfl⟩
 obtain⟨W0,hW0⟩:∃ W,W=w.alloc (.cells #[.int .i64 k,.int .i64 f,.int .i64 R,.int .i64 Z] 174):=⟨_,rfl⟩
 have hw0:Blk W0 WB 174 [.int .i64 k,.int .i64 f,.int .i64 R,.int .i64 Z]:=by rw [hW0,hWB];exact Blk.new w [.int .i64 k,.int .i64 f,.int .i64 R,.int .i64 Z] 174 rfl
 have hb0:Below w.heap.size w W0:=by rw [hW0];exact bal (Below.refl _ w) _
 have hz0:W0.heap.size=DB:=by rw [hW0,hDB];simp
 have HZ0:=Lib.hid hz0
 have HW0:=Lib.hid hW0
 have HWE:=Lib.hid hWB
 have HW:Hid (W115 WB k R W0.drew):=Lib.hid ⟨hw0.cell (j:=0) rfl,hw0.cell (j:=2) rfl⟩
 have hk4:(k:Int)+4=(D:Int):=by rw [hD];push_cast;rfl
 have hnn:32*(R:Int)=(N:Int):=by omega
 have hwk:IntKind.i64.wrap ((k:Int)+4)=(D:Int):=by rw [IntKind.wrap_i64];omega
 have hwn:IntKind.i64.wrap (32*(R:Int))=(N:Int):=by rw [IntKind.wrap_i64];omega
 have hwd:WB≠DB:=by omega
 have HNR:=Lib.hid hNR
 clear hW0 hWB hD hk4 hnn hNR
 go_enter Tryz.func162,Tryz.ntmps162
 go_wp2_with fail
 rw [← HWE.out,← HW0.out]
 refine wp_nopanic ?_
 refine P_start (W115 WB k R) 8 9 #[false,false,false,false,false,false,false,false,false] (by kernel_rfl) (by kernel_rfl) (by kernel_rfl) ?_
 refine P_takeW 0 14 (.pointer (some ⟨WB,0,none⟩)) #[true,false,false,false,false,false,false,false,false] rfl rfl (by kernel_rfl) (by kernel_rfl) (by kernel_rfl) (by kernel_rfl) (by decide) (fun _ _ _ h=>h) (Or.inl ⟨by rfl,fun W hS=>by go_simp⟩) HW.out ?_
 simp only [yq0,yq1,yq2]
 refine P_take 1 15 (.int .i64 (k:Int)) #[true,true,false,false,false,false,false,false,false] rfl rfl (by kernel_rfl) (by kernel_rfl) (by kernel_rfl) (by kernel_rfl) (by kernel_rfl) (by kernel_rfl) (by decide) (fun _ _ _ h=>h) (Or.inl ⟨by rfl,fun W hS=>by obtain⟨s0,s1⟩:=hS;go_simp⟩) HW.out ?_
 simp only [yq0,yq1,yq2]
 refine P_takeW 2 16 (.int .i64 (D:Int)) #[true,true,true,false,false,false,false,false,false] rfl rfl (by kernel_rfl) (by kernel_rfl) (by kernel_rfl) (by kernel_rfl) (by decide) (fun _ _ _ h=>h) (Or.inl ⟨by rfl,fun W hS=>by go_simp⟩) HW.out ?_
 simp only [yq0,yq1,yq2]
 refine P_takeW 3 17 (.pointer (some ⟨WB,2,none⟩)) #[true,true,true,true,false,false,false,false,false] rfl rfl (by kernel_rfl) (by kernel_rfl) (by kernel_rfl) (by kernel_rfl) (by decide) (fun _ _ _ h=>h) (Or.inl ⟨by rfl,fun W hS=>by go_simp⟩) HW.out ?_
 simp only [yq0,yq1,yq2]
 refine P_take 4 18 (.int .i64 (R:Int)) #[true,true,true,true,true,false,false,false,false] rfl rfl (by kernel_rfl) (by kernel_rfl) (by kernel_rfl) (by kernel_rfl) (by kernel_rfl) (by kernel_rfl) (by decide) (fun _ _ _ h=>h) (Or.inl ⟨by rfl,fun W hS=>by obtain⟨s0,s1⟩:=hS;go_simp⟩) HW.out ?_
 simp only [yq0,yq1,yq2]
 refine P_takeW 5 19 (.int .i64 (N:Int)) #[true,true,true,true,true,true,false,false,false] rfl rfl (by kernel_rfl) (by kernel_rfl) (by kernel_rfl) (by kernel_rfl) (by decide) (fun _ _ _ h=>h) (Or.inl ⟨by rfl,fun W hS=>by go_simp⟩) HW.out ?_
 simp only [yq0,yq1,yq2]
 refine P_oneS 6 #[true,true,true,true,true,true,true,false,false] rfl (by kernel_rfl) (by kernel_rfl) rfl (fun K hK=>?_)
 go_simp
 refine hK _ _ (W115.alloc HW.out _) ?_
 clear hK K
 refine P_oneS 7 #[true,true,true,true,true,true,true,true,false] rfl (by kernel_rfl) (by kernel_rfl) rfl (fun K hK=>?_)
 go_simp
 refine hK _ _ (show W115 WB k R (W0.alloc (.cells #[.int .i64 D] 3)).drew from W115.alloc HW.out _) ?_
 clear hK K
 refine P_one 8 #[true,true,true,true,true,true,true,true,true] rfl (by kernel_rfl) (by kernel_rfl) rfl (by kernel_rfl) (fun K hK=>?_)
 go_simp
 refine hK _ _ ?_
 clear hK K
 refine P_done (by kernel_rfl) ?_ _
 refine noPanic_normal ?_
 obtain⟨W1,hW1⟩:∃ W,W=(W0.alloc (.cells #[.int .i64 D] 3)).drew:=⟨_,rfl⟩
 have hq1:Below W0.heap.size W0 W1:=by rw [hW1];exact(bal (Below.refl _ W0) _).drew
 have HD1:=Lib.hid (show Blk W1 DB 3 [.int .i64 D] by rw [hW1,← hz0];exact Blk.drew (Blk.new W0 [.int .i64 D] 3 rfl))
 have HW1:=Lib.hid (hw0.below hq1)
 have HB1:=Lib.hid (hb0.trans (hq1.mono hb0.size))
 have HADW:=Lib.hid (show w.heap.size+1<W1.heap.size by have:=HD1.out.lt;omega)
 rw [← hW1,← hDB]
 clear hW1 hq1 hw0 hb0 hz0 HW0 HW hDB hwd
 go_wp2_with (at_make;refine list_of rfl fun K hK=>wp_mk (n:=3*N) _ _ 39 rfl el34 rfl rfl (by omega) (by unfold maxLen;omega) ?_
              intro A w3 hO3 hB3 hA
              have HO3:=Lib.hid hO3
              have HA:=Lib.hid hA
              have HB3:=Lib.hid hB3
              clear hO3 hB3 hA
              refine hK _ _ ?_
              clear hK K)
 obtain⟨Rv,hRv⟩:∃ v,v=Value.int .i64 R:=⟨_,rfl⟩
 obtain⟨Sv,hSv⟩:∃ v,v=Value.int .i64 Z:=⟨_,rfl⟩
 have hbA:W1.heap.size≤blk A∧blk A<w3.heap.size:=Ownv.blk_ge HO3.out (by omega)
 have HAW:=Lib.hid (show blk A≠DB∧blk A≠WB from⟨by have:=HD1.out.lt;omega,by have:=HW1.out.lt;omega⟩)
 have HBA2:=Lib.hid (show w.heap.size≤blk A by have:=HADW.out;omega)
 have HB9:=Lib.hid (HB1.out.trans (HB3.out.mono HB1.out.size))
 have HW9:Hid (Blk w3 WB 174 [.int .i64 k,.int .i64 f,Rv,Sv]):=Lib.hid (by rw [hRv,hSv];exact HW1.out.below HB3.out)
 have HD9:=Lib.hid (HD1.out.below HB3.out)
 have HBS:=Lib.hid (show w.heap.size≤W1.heap.size by have:=HADW.out;omega)
 clear hRv hSv hbA HB1 HB3 HW1 HD1 HADW
 generalize W1.heap.size=base at *
 go_loopw [23] (fun i wr=>FoJ k f N D WB DB base A Rv Sv w i wr) (fun i _=>3 - (intOf i).toNat)
 case atStart=>exact⟨0,by decide,rfl,Own.of_eq HO3.out rfl (by rw [HNON.out,List.map_replicate]),HD9.out,HW9.out,HB9.out⟩
 case round =>
  obtain⟨s,hs,rfl,hO,hD,hW,hB⟩:=hrel
  have HO:=Lib.hid hO
  have HDB:=Lib.hid hD
  have HWB:=Lib.hid hW
  have HB:=Lib.hid hB
  have HBA:=Lib.hid (Ownv.blk_ge hO (by omega)).2
  have HSW:Hid (WB<wr.heap.size∧DB<wr.heap.size):=Lib.hid ⟨hW.lt,hD.lt⟩
  clear hO hD hW hB HO3 HD9 HW9 HB9 HNON
  rcases (by omega:s=0∨s=1∨s=2∨s=3) with rfl | rfl | rfl | rfl
  · have HIX:=Lib.hid (fun(j:Nat) (h:j<N)=>pS_lt (N:=N) (s:=0) (j:=j) (by decide) h)
    have hst:=fun W m=>run_store Tryz.prog W ⟨wr.heap.size+1,0,none⟩ (.func (.func 210) #[] #[.pointer (some ⟨wr.heap.size,0,none⟩),.pointer (some ⟨DB,0,none⟩)]) m rfl
    have hcD:((wr.alloc (.cells #[.int .i64 0] 3)).alloc (.cells #[.func (.func 210) #[] #[.pointer (some ⟨wr.heap.size,0,none⟩),.pointer (some ⟨DB,0,none⟩)]] 88)).cell? ⟨DB,0,none⟩=some (.int .i64 D):=cell_below (HDB.out.cell rfl) (((Below.refl _ wr).alloc (Nat.le_refl _) _).alloc (by simp) _)
    go_wp2_with fail
    clear hcD
    clear hst
    obtain⟨SB,hSB⟩:∃ B,B=wr.heap.size:=⟨_,rfl⟩
    obtain⟨W2,hW2⟩:∃ W,W=(wr.alloc (.cells #[.int .i64 0] 3)).alloc (.cells #[.func (.func 210) #[] #[.pointer (some ⟨wr.heap.size,0,none⟩),.pointer (some ⟨DB,0,none⟩)]] 88):=⟨_,rfl⟩
    have hq:Below wr.heap.size wr W2:=by rw [hW2];exact((Below.refl _ wr).alloc (Nat.le_refl _) _).alloc (by simp) _
    have hS2:Blk W2 SB 3 [.int .i64 0]:=by rw [hW2,hSB];exact(Blk.new wr [.int .i64 0] 3 rfl).alloc _
    obtain⟨PB,hPB⟩:∃ B,B=wr.heap.size+1:=⟨_,rfl⟩
    have hP2:Blk W2 PB 88 [.func (.func 210) #[] #[.pointer (some ⟨SB,0,none⟩),.pointer (some ⟨DB,0,none⟩)]]:=by rw [hW2,hSB,hPB];exact Blk.new (wr.alloc _) [.func (.func 210) #[] #[.pointer (some ⟨wr.heap.size,0,none⟩),.pointer (some ⟨DB,0,none⟩)]] 88 (by simp)
    rw [← hW2,← hPB,← hSB]
    refine(HOR.out 0 (by decide) W2).mono ?_
    rintro e w3 ⟨O,rfl,hO3,hB3⟩
    have HK0:Hid (FiI k f 0 N D WB DB SB PB base A O Rv Sv w (.int .i64 0) w3):=Lib.hid ⟨0,Nat.zero_le _,rfl,Ownv.below (Ownv.below HO.out hq) hB3,(HDB.out.below hq).below hB3,(HWB.out.below hq).below hB3,hS2.below hB3,fun _=>hP2.below hB3,Own.rd hO3,by have:=HBA.out;have h4:=(Ownv.blk_ge hO3 (by omega)).1;have:=hq.size;omega,HB.out.trans ((hq.trans (hB3.mono hq.size)).mono HB.out.size)⟩
    have hAS:blk A≠SB:=by have:=HBA.out;omega
    have hAP:blk A≠PB:=by have:=HBA.out;omega
    clear hq hS2 hW2 hO3 hB3 hSB hP2 hPB
    go_wp2
    go_loopw [39] (fun i wq=>FiI k f 0 N D WB DB SB PB base A O Rv Sv w i wq) (fun i _=>N - (intOf i).toNat)
    case atStart=>exact HK0.out
    case round =>
     clear HK0 HO HDB HWB HB
     obtain⟨j,hj,rfl,hO,hD,hW,hS,hP,hR,hAO,hB⟩:=hrel
     by_cases hlt:j<N
     · have hco:=Rd.cell hR hlt
       have hio:=fun W=>Rdv.ix hR el34 hlt .i64 W
       rw [HG.out 0 j hlt]at hco
       have hbd:=HBD.out 0 j
       have HST:=Lib.hid (HSET.out 0 j (by decide) hlt)
       have hpl:=HIX.out j hlt
       have hca:=Rd.cell (Own.rd hO) hpl
       have hfa:=Ownv.frozen hO (by omega) (pS N 0 j)
       have hia:=fun W=>Rdv.ixI (Own.rd hO) el34 hpl .i64 ((j:Nat):Int) (by unfold pS;simp;try omega) W
       have hcS:=hS.cell (j:=0) (v:=.int .i64 0) rfl
       have HNX:=Lib.hid (fun v (hv:elV k f 0 (ordV D 0 j)=v)=>FiI.next ⟨hj,rfl,hO,hD,hW,hS,hP,hR,hAO,hB⟩ hlt hpl (HST.out) hv HAW.out hAS (fun _=>hAP) HBA2.out)
       have HAT:=Lib.hid (fun i h1 h2=>at1_any k f 0 WB PB SB DB Rv Sv i wr hW (hP (by decide)) hS (by rw [HDK.out]at hD;exact hD) (by decide) h2k h1 h2)
       clear hO hD hW hS hP hR hB
       generalize ordV D 0 j=v at *
       by_cases hv0:0≤v
       · have hgv:decide (0≤v)=true:=by simp [hv0]
         have HA2:=Lib.hid (HAT.out v hv0 (by have:=HDK.out;omega))
         have HN2:=Lib.hid (HNX.out _ rfl)
         clear HAT HNX
         generalize elV k f 0 v=ev at *
         go_wp2_with (go_at_call 211;refine HA2.out.mono ?_;rintro e w' ⟨rfl,rfl⟩)
         go_roundw
         case rel=>exact⟨j+1,HN2.out⟩
         case measure=>simp [intOf];omega
       · have hgv:decide (0≤v)=false:=by simp;omega
         have hev:elV k f 0 v = -1:=by unfold elV;rw [if_pos (.inl (by omega))]
         have HN2:=Lib.hid (HNX.out _ hev)
         clear HAT HNX
         go_wp2
         go_roundw
         case rel=>exact⟨j+1,HN2.out⟩
         case measure=>simp [intOf];omega
     · obtain rfl:j=N:=by omega
       rw [HNXT.out]at hO
       have HO9:=Lib.hid hO
       have HD9:=Lib.hid hD
       have HW9:=Lib.hid hW
       have HB9:=Lib.hid hB
       clear hO hD hW hB hS hP hR
       go_wp2
       go_roundw
       case rel=>exact⟨0+1,by decide,by go_num,HO9.out,HD9.out,HW9.out,HB9.out⟩
       case measure=>simp [intOf]
  · have HIX:=Lib.hid (fun(j:Nat) (h:j<N)=>pS_lt (N:=N) (s:=1) (j:=j) (by decide) h)
    have hst:=fun W m=>run_store Tryz.prog W ⟨wr.heap.size+1,0,none⟩ (.func (.func 210) #[] #[.pointer (some ⟨wr.heap.size,0,none⟩),.pointer (some ⟨DB,0,none⟩)]) m rfl
    have hcD:((wr.alloc (.cells #[.int .i64 1] 3)).alloc (.cells #[.func (.func 210) #[] #[.pointer (some ⟨wr.heap.size,0,none⟩),.pointer (some ⟨DB,0,none⟩)]] 88)).cell? ⟨DB,0,none⟩=some (.int .i64 D):=cell_below (HDB.out.cell rfl) (((Below.refl _ wr).alloc (Nat.le_refl _) _).alloc (by simp) _)
    go_wp2_with fail
    clear hcD
    clear hst
    obtain⟨SB,hSB⟩:∃ B,B=wr.heap.size:=⟨_,rfl⟩
    obtain⟨W2,hW2⟩:∃ W,W=(wr.alloc (.cells #[.int .i64 1] 3)).alloc (.cells #[.func (.func 210) #[] #[.pointer (some ⟨wr.heap.size,0,none⟩),.pointer (some ⟨DB,0,none⟩)]] 88):=⟨_,rfl⟩
    have hq:Below wr.heap.size wr W2:=by rw [hW2];exact((Below.refl _ wr).alloc (Nat.le_refl _) _).alloc (by simp) _
    have hS2:Blk W2 SB 3 [.int .i64 1]:=by rw [hW2,hSB];exact(Blk.new wr [.int .i64 1] 3 rfl).alloc _
    obtain⟨PB,hPB⟩:∃ B,B=wr.heap.size+1:=⟨_,rfl⟩
    have hP2:Blk W2 PB 88 [.func (.func 210) #[] #[.pointer (some ⟨SB,0,none⟩),.pointer (some ⟨DB,0,none⟩)]]:=by rw [hW2,hSB,hPB];exact Blk.new (wr.alloc _) [.func (.func 210) #[] #[.pointer (some ⟨wr.heap.size,0,none⟩),.pointer (some ⟨DB,0,none⟩)]] 88 (by simp)
    rw [← hW2,← hPB,← hSB]
    refine(HOR.out 1 (by decide) W2).mono ?_
    rintro e w3 ⟨O,rfl,hO3,hB3⟩
    have HK0:Hid (FiI k f 1 N D WB DB SB PB base A O Rv Sv w (.int .i64 0) w3):=Lib.hid ⟨0,Nat.zero_le _,rfl,Ownv.below (Ownv.below HO.out hq) hB3,(HDB.out.below hq).below hB3,(HWB.out.below hq).below hB3,hS2.below hB3,fun _=>hP2.below hB3,Own.rd hO3,by have:=HBA.out;have h4:=(Ownv.blk_ge hO3 (by omega)).1;have:=hq.size;omega,HB.out.trans ((hq.trans (hB3.mono hq.size)).mono HB.out.size)⟩
    have hAS:blk A≠SB:=by have:=HBA.out;omega
    have hAP:blk A≠PB:=by have:=HBA.out;omega
    clear hq hS2 hW2 hO3 hB3 hSB hP2 hPB
    go_wp2
    go_loopw [39] (fun i wq=>FiI k f 1 N D WB DB SB PB base A O Rv Sv w i wq) (fun i _=>N - (intOf i).toNat)
    case atStart=>exact HK0.out
    case round =>
     clear HK0 HO HDB HWB HB
     obtain⟨j,hj,rfl,hO,hD,hW,hS,hP,hR,hAO,hB⟩:=hrel
     by_cases hlt:j<N
     · have hco:=Rd.cell hR hlt
       have hio:=fun W=>Rdv.ix hR el34 hlt .i64 W
       rw [HG.out 1 j hlt]at hco
       have hbd:=HBD.out 1 j
       have HST:=Lib.hid (HSET.out 1 j (by decide) hlt)
       have hpl:=HIX.out j hlt
       have hca:=Rd.cell (Own.rd hO) hpl
       have hfa:=Ownv.frozen hO (by omega) (pS N 1 j)
       have hia:=fun W=>Rdv.ixI (Own.rd hO) el34 hpl .i64 (((N:Nat):Int)+2*(j:Int)) (by unfold pS;simp;try omega) W
       have hcS:=hS.cell (j:=0) (v:=.int .i64 1) rfl
       have HNX:=Lib.hid (fun v (hv:elV k f 1 (ordV D 1 j)=v)=>FiI.next ⟨hj,rfl,hO,hD,hW,hS,hP,hR,hAO,hB⟩ hlt hpl (HST.out) hv HAW.out hAS (fun _=>hAP) HBA2.out)
       have HAT:=Lib.hid (fun i h1 h2=>at1_any k f 1 WB PB SB DB Rv Sv i wr hW (hP (by decide)) hS (by rw [HDK.out]at hD;exact hD) (by decide) h2k h1 h2)
       clear hO hD hW hS hP hR hB
       generalize ordV D 1 j=v at *
       by_cases hv0:0≤v
       · have hgv:decide (0≤v)=true:=by simp [hv0]
         have HA2:=Lib.hid (HAT.out v hv0 (by have:=HDK.out;omega))
         have HN2:=Lib.hid (HNX.out _ rfl)
         clear HAT HNX
         generalize elV k f 1 v=ev at *
         go_wp2_with (go_at_call 211;refine HA2.out.mono ?_;rintro e w' ⟨rfl,rfl⟩)
         go_roundw
         case rel=>exact⟨j+1,HN2.out⟩
         case measure=>simp [intOf];omega
       · have hgv:decide (0≤v)=false:=by simp;omega
         have hev:elV k f 1 v = -1:=by unfold elV;rw [if_pos (.inl (by omega))]
         have HN2:=Lib.hid (HNX.out _ hev)
         clear HAT HNX
         go_wp2
         go_roundw
         case rel=>exact⟨j+1,HN2.out⟩
         case measure=>simp [intOf];omega
     · obtain rfl:j=N:=by omega
       rw [HNXT.out]at hO
       have HO9:=Lib.hid hO
       have HD9:=Lib.hid hD
       have HW9:=Lib.hid hW
       have HB9:=Lib.hid hB
       clear hO hD hW hB hS hP hR
       go_wp2
       go_roundw
       case rel=>exact⟨1+1,by decide,by go_num,HO9.out,HD9.out,HW9.out,HB9.out⟩
       case measure=>simp [intOf]
  · have HIX:=Lib.hid (fun(j:Nat) (h:j<N)=>pS_lt (N:=N) (s:=2) (j:=j) (by decide) h)
    skip
    have hcD:(wr.alloc (.cells #[.int .i64 2] 3)).cell? ⟨DB,0,none⟩=some (.int .i64 D):=cell_below (HDB.out.cell rfl) ((Below.refl _ wr).alloc (Nat.le_refl _) _)
    go_wp2_with fail
    clear hcD
    skip
    obtain⟨SB,hSB⟩:∃ B,B=wr.heap.size:=⟨_,rfl⟩
    obtain⟨W2,hW2⟩:∃ W,W=wr.alloc (.cells #[.int .i64 2] 3):=⟨_,rfl⟩
    have hq:Below wr.heap.size wr W2:=by rw [hW2];exact(Below.refl _ wr).alloc (Nat.le_refl _) _
    have hS2:Blk W2 SB 3 [.int .i64 2]:=by rw [hW2,hSB];exact Blk.new wr [.int .i64 2] 3 rfl
    rw [← hW2,← hSB]
    refine(HOR.out 2 (by decide) W2).mono ?_
    rintro e w3 ⟨O,rfl,hO3,hB3⟩
    have HK0:Hid (FiI k f 2 N D WB DB SB SB base A O Rv Sv w (.int .i64 0) w3):=Lib.hid ⟨0,Nat.zero_le _,rfl,Ownv.below (Ownv.below HO.out hq) hB3,(HDB.out.below hq).below hB3,(HWB.out.below hq).below hB3,hS2.below hB3,fun h=>absurd h (by decide),Own.rd hO3,by have:=HBA.out;have h4:=(Ownv.blk_ge hO3 (by omega)).1;have:=hq.size;omega,HB.out.trans ((hq.trans (hB3.mono hq.size)).mono HB.out.size)⟩
    have hAS:blk A≠SB:=by have:=HBA.out;omega
    clear hq hS2 hW2 hO3 hB3 hSB
    go_wp2
    go_loopw [39] (fun i wq=>FiI k f 2 N D WB DB SB SB base A O Rv Sv w i wq) (fun i _=>N - (intOf i).toNat)
    case atStart=>exact HK0.out
    case round =>
     clear HK0 HO HDB HWB HB
     obtain⟨j,hj,rfl,hO,hD,hW,hS,hP,hR,hAO,hB⟩:=hrel
     by_cases hlt:j<N
     · have hco:=Rd.cell hR hlt
       have hio:=fun W=>Rdv.ix hR el34 hlt .i64 W
       rw [HG.out 2 j hlt]at hco
       have hbd:=HBD.out 2 j
       have HST:=Lib.hid (HSET.out 2 j (by decide) hlt)
       have hpl:=HIX.out j hlt
       have hca:=Rd.cell (Own.rd hO) hpl
       have hfa:=Ownv.frozen hO (by omega) (pS N 2 j)
       have hia:=fun W=>Rdv.ixI (Own.rd hO) el34 hpl .i64 (((N:Nat):Int)+2*(j:Int)+2 - 1) (by unfold pS;simp;try omega) W
       have hcS:=hS.cell (j:=0) (v:=.int .i64 2) rfl
       have HNX:=Lib.hid (fun v (hv:elV k f 2 (ordV D 2 j)=v)=>FiI.next ⟨hj,rfl,hO,hD,hW,hS,hP,hR,hAO,hB⟩ hlt hpl (HST.out) hv HAW.out hAS (fun h=>absurd h (by decide)) HBA2.out)
       have HAT:=Lib.hid (fun i h1 h2=>at0_any 2 D SB DB i wr hS hD (by decide) (by have:=HDK.out;omega) h1 h2)
       clear hO hD hW hS hP hR hB
       generalize ordV D 2 j=v at *
       by_cases hv0:0≤v
       · have hgv:decide (0≤v)=true:=by simp [hv0]
         have HA2:=Lib.hid (HAT.out v hv0 (by have:=HDK.out;omega))
         rw [HDK.out,at_lo (k:=k) (f:=f) (s:=2) hv0 (fun h=>absurd h (by decide))]at HA2
         have HN2:=Lib.hid (HNX.out _ rfl)
         clear HAT HNX
         generalize elV k f 2 v=ev at *
         go_wp2_with (go_at_call 210;refine HA2.out.mono ?_;rintro e w' ⟨rfl,rfl⟩)
         go_roundw
         case rel=>exact⟨j+1,HN2.out⟩
         case measure=>simp [intOf];omega
       · have hgv:decide (0≤v)=false:=by simp;omega
         have hev:elV k f 2 v = -1:=by unfold elV;rw [if_pos (.inl (by omega))]
         have HN2:=Lib.hid (HNX.out _ hev)
         clear HAT HNX
         go_wp2
         go_roundw
         case rel=>exact⟨j+1,HN2.out⟩
         case measure=>simp [intOf];omega
     · obtain rfl:j=N:=by omega
       rw [HNXT.out]at hO
       have HO9:=Lib.hid hO
       have HD9:=Lib.hid hD
       have HW9:=Lib.hid hW
       have HB9:=Lib.hid hB
       clear hO hD hW hB hS hP hR
       go_wp2
       go_roundw
       case rel=>exact⟨2+1,by decide,by go_num,HO9.out,HD9.out,HW9.out,HB9.out⟩
       case measure=>simp [intOf]
  · rw [HALL.out]at HO
    go_wp2
    go_ret
    exact⟨A,rfl,Ownv.mono HO.out HBS.out,HB.out⟩
end Go.Proofs.YtkdfefpnhaebfaaGreat.Cr
