/- Bundle. Conditions: none. -/
import Derived.Test.YtkdfefpnhaebfaaGreatBwb1
import Derived.Test.YtkdfefpnhaebfaaGreatBwoaa
import Derived.WalkKit
import Derived.WalkLawsBesides
import Derived.WalkSpells
import Derived.BigQuiet
import Derived.Below
import Derived.Lib.Hide
import Derived.Deep.QuietTactic
import Derived.Lib.AppendZerosOnto
import Derived.StillTailTactics
import Derived.Deep.RegionLaw
import Derived.OpenShut
import Derived.Laws.AppendOwnNone
import Derived.Test.YtkdfefpnhaebfaaGreatBwoab
import Derived.Test.YtkdfefpnhaebfaaGreatBwoar
import Derived.Laws.BitsAllLaws
import Derived.Laws.BitsLemmas
import Derived.Test.YtkdfefpnhaebfaaGreatBwoau
import Derived.Laws.BytesArg
import Derived.Test.YtkdfefpnhaebfaaGreatBwoax
import Derived.Test.YtkdfefpnhaebfaaGreatBwoba
import Derived.Test.YtkdfefpnhaebfaaGreatBwobd
import Derived.Test.YtkdfefpnhaebfaaGreatBwoak
import Derived.Test.YtkdfefpnhaebfaaGreatBwoal
import Derived.Test.YtkdfefpnhaebfaaGreatBwobi
import Derived.Test.YtkdfefpnhaebfaaGreatBwoaj
import Derived.Test.YtkdfefpnhaebfaaGreatBwoam
import Derived.Test.YtkdfefpnhaebfaaGreatBwoao
import Derived.Test.YtkdfefpnhaebfaaGreatBwoaq
import Derived.Deep.AppendLies
import Derived.Test.YtkdfefpnhaebfaaGreatBwobf
import Derived.Test.YtkdfefpnhaebfaaGreatBwobk
set_option linter.unusedVariables false
set_option linter.unusedSimpArgs false
set_option linter.unusedSectionVars false
namespace Go.Proofs.YtkdfefpnhaebfaaGreat
open Go.RowKit
section
variable {k : IntKind} {w w' : World} {A : Option Addr} {n c : Nat} {vs : List Value} {xs : List Int} {P : Program}
end
section
variable {k : IntKind} {w w' : World} {A B : Option Addr} {n c m d base base' : Nat} {tt : TypeId} {vs us : List Value} {xs ys : List Int} {P : Program} {e : TypeId}
theorem Ownv.drewN(h:Ownv e w base A n c vs)(q:Nat):Ownv e (w.drewN q) base A n c vs:=h.keep fun _ _=>rfl
end
end Go.Proofs.YtkdfefpnhaebfaaGreat
namespace Go.Proofs.YtkdfefpnhaebfaaGreat.Cr
open Go.RowKit
def xor8(a b:Int):Int:=bits .xor .u8 a b
end Go.Proofs.YtkdfefpnhaebfaaGreat.Cr
namespace Go.Proofs.YtkdfefpnhaebfaaGreat.CM
/-! Plain arithmetic of the checksum: no program in sight. -/
theorem run_append(L p r:Nat)(a b:List Bool):run L p r (a ++ b)=run L p (run L p r a) b:=by simp [run]
theorem run_cons(L p r:Nat)(x:Bool)(b:List Bool):run L p r (x :: b)=run L p (st L p r x) b:=rfl
section
variable {L p : Nat}
theorem run_zero_zeros(m:Nat):run L p 0 (List.replicate m false)=0:=by
 induction m with
 | zero=>rfl
 | succ m ih =>
   rw [List.replicate_succ,run_cons]
   have:st L p 0 false=0:=by simp [st]
   rw [this,ih]
end
end Go.Proofs.YtkdfefpnhaebfaaGreat.CM
namespace Go.Proofs.YtkdfefpnhaebfaaGreat.Cr
open Go.RowKit CM
theorem back{k:Int}(h:sLen k≠0){xs:List Int}(hx:Bit xs):chkErr k (xs ++ crcSum k xs)=0∧chkRes k (xs ++ crcSum k xs)=xs:=by
 have hl:=crcSum_len k xs
 have e1:(xs ++ crcSum k xs).length - sLen k=xs.length:=by rw [List.length_append,hl];omega
 have e:chkErr k (xs ++ crcSum k xs)=0:=by
  unfold chkErr
  rw [if_neg h,if_pos (bit_valid (bit_app hx (bit_sum h hx))),if_neg (by rw [List.length_append,hl];omega),e1,List.take_left,List.drop_left,if_pos rfl]
 refine⟨e,?_⟩
 unfold chkRes
 rw [if_pos e,e1,List.take_left]
theorem leading{k:Int}(h:sLen k≠0){xs:List Int}(hx:Bit xs)(z:Nat):crcSum k (List.replicate z 0 ++ xs)=crcSum k xs:=by
 have e:List.replicate z 0 ++ xs=(List.replicate z false ++ bl xs).map ib:=by
  rw [List.map_append,ib_bl hx];congr 1;simp [ib]
 rw [e,crcSum_bits h,run_append,run_zero_zeros,← crcSum_bits h,ib_bl hx]
end Go.Proofs.YtkdfefpnhaebfaaGreat.Cr
namespace Go.Proofs.YtkdfefpnhaebfaaGreat.Cr
open Go.RowKit CM
theorem bit_gi{xs:List Int}(h:Bit xs)(t:Nat):gi xs t=0∨gi xs t=1:=by
 by_cases ht:t<xs.length
 · exact h _ (gi_mem xs t ht)
 · exact .inl (by unfold gi;rw [List.getD_eq_getElem?_getD,List.getElem?_eq_none (by omega)];rfl)
theorem bit_of_gi{xs:List Int}(h:∀ t,t<xs.length→gi xs t=0∨gi xs t=1):Bit xs:=by
 intro x hx
 obtain⟨t,ht,rfl⟩:=List.getElem_of_mem hx
 rw [← gi_eq xs t ht];exact h t ht
def Flip(ys:List Int)(i n:Nat)(cur:List Int):Prop :=
 cur.length=ys.length∧(∀ t,t<cur.length→gi cur t=gi ys t∨(i≤t∧t<i+n∧gi cur t=1 - gi ys t))∧gi cur i=1 - gi ys i
theorem Flip.bit{ys:List Int}{i n:Nat}{cur:List Int}(h:Flip ys i n cur)(hy:Bit ys):Bit cur:=by
 refine bit_of_gi fun t ht=>?_
 have:=bit_gi hy t
 rcases h.2.1 t ht with e | ⟨_,_,e⟩<;>rw [e]<;>omega
theorem Flip.first{ys:List Int}{i:Nat}(hi:i<ys.length):Flip ys i 1 (ys.set i (1 - gi ys i)):=by
 refine⟨by simp,fun t ht=>?_,by rw [gi_set _ _ _ _ hi,if_pos rfl]⟩
 rw [gi_set _ _ _ _ hi]
 split
 · next h=>subst h;exact .inr ⟨by omega,by omega,rfl⟩
 · exact .inl rfl
theorem Flip.next{ys:List Int}{i n:Nat}{cur:List Int}(h:Flip ys i n cur)(hn:1≤n)(hi:i+n<ys.length):Flip ys i (n+1) (cur.set (i+n) (1 - gi cur (i+n))):=by
 have hl:=h.1
 refine⟨by simp [hl],fun t ht=>?_,?_⟩
 · rw [List.length_set]at ht
   rw [gi_set _ _ _ _ (by omega)]
   split
   · next he =>
     subst he
     rcases h.2.1 (i+n) ht with e | ⟨_,h2,_⟩
     · exact .inr ⟨by omega,by omega,by rw [e]⟩
     · omega
   · rcases h.2.1 t ht with e | ⟨h1,h2,e⟩
     · exact .inl e
     · exact .inr ⟨h1,by omega,e⟩
 · rw [gi_set _ _ _ _ (by omega),if_neg (by omega)];exact h.2.2
theorem Flip.same{ys:List Int}{i n:Nat}{cur:List Int}(h:Flip ys i n cur):Flip ys i (n+1) cur:=by
 refine⟨h.1,fun t ht=>?_,h.2.2⟩
 rcases h.2.1 t ht with e | ⟨h1,h2,e⟩
 · exact .inl e
 · exact .inr ⟨h1,by omega,e⟩
end Go.Proofs.YtkdfefpnhaebfaaGreat.Cr
namespace Go.Proofs.YtkdfefpnhaebfaaGreat.Cr
open Go.RowKit CM
def MaskTo(xs:List Int)(d j:Nat)(cur:List Int):Prop :=
 cur.length=xs.length∧∀ t,gi cur t=if xs.length - j≤t∧t<xs.length then xor8 (gi xs t) (ib (d.testBit (xs.length - 1 - t))) else gi xs t
theorem MaskTo.first(xs:List Int)(d:Nat):MaskTo xs d 0 xs:=⟨rfl,fun t=>by rw [if_neg (by omega)]⟩
theorem MaskTo.next{xs:List Int}{d j:Nat}{cur:List Int}(h:MaskTo xs d j cur)(hj:j<xs.length):MaskTo xs d (j+1) (cur.set (xs.length - 1 - j) (xor8 (gi cur (xs.length - 1 - j)) (ib (d.testBit j)))):=by
 have hl:=h.1
 refine⟨by simp [hl],fun t=>?_⟩
 rw [gi_set _ _ _ _ (by omega)]
 by_cases ht:xs.length - 1 - j=t
 · subst ht
   rw [if_pos rfl,if_pos (by omega),h.2,if_neg (by omega),show xs.length - 1 - (xs.length - 1 - j)=j by omega]
 · rw [if_neg ht,h.2]
   by_cases hw:xs.length - j≤t∧t<xs.length
   · rw [if_pos hw,if_pos (by omega)]
   · rw [if_neg hw,if_neg (by omega)]
end Go.Proofs.YtkdfefpnhaebfaaGreat.Cr
namespace Go.Proofs.YtkdfefpnhaebfaaGreat.Cr
open Go.RowKit CM
end Go.Proofs.YtkdfefpnhaebfaaGreat.Cr
namespace Go.Proofs.YtkdfefpnhaebfaaGreat.Cr
instance (k:Int):Decidable (VK k):=by unfold VK;infer_instance
/-! ### The layout -/
end Go.Proofs.YtkdfefpnhaebfaaGreat.Cr
namespace Go.Proofs.YtkdfefpnhaebfaaGreat.Cr
open Go.RowKit CM
theorem RL.drewN{w:World}{A:Option Addr}{n c:Nat}{L:List Sv}(h:RL w A n c L)(q:Nat):RL (w.drewN q) A n c L:=⟨Rdv.drewN h.o q,fun s hs=>Rdv.drewN (h.r s hs) q⟩
end Go.Proofs.YtkdfefpnhaebfaaGreat.Cr
namespace Go.Proofs.YtkdfefpnhaebfaaGreat.Cr
open Go.RowKit CM
theorem SpAllS.le{w w':World}{xs:List Int}{A':Option Addr}{n' c':Nat}{L:List Sv}(h:SpAllS w xs w' A' n' c' L):∀ s ∈ L,s.n≤6168:=by
 intro s hs
 have h1:=Rd.len (Own.rd (h.b.r s hs).1)
 have h2:=sD_le.1 s.xs (by rw [← h.l];exact List.mem_map.2 ⟨s,hs,rfl⟩)
 omega
section
variable {w : World} {base c : Nat} {A : Option Addr} {L : List Sv}
end
end Go.Proofs.YtkdfefpnhaebfaaGreat.Cr
namespace Go.Proofs.YtkdfefpnhaebfaaGreat.Cr
open Go.RowKit Go.Shelf
attribute [local go_sem] Oper.semAt_some
theorem KpB.refl(bs:List Nat)(A:World):KpB bs A A:=⟨Nat.le_refl _,fun _ _ h _ _=>h⟩
theorem KpB.below{bs:List Nat}{W W':World}(h:Below W.heap.size W W'):KpB bs W W':=⟨h.size,fun k o hk hc hn=>(h.block k (Array.getElem?_eq_some_iff.1 hk).1).trans hk⟩
def SeqC{α:Type}(m gf:Nat)(lb:Array Value)(encs:α→Array Value)(Kp:World→World→Prop)(S Sp:List α→Prop)(N:Nat)(w:World):Prop :=
 ∀ (l:Nat) (J Jx:List α→World→Prop) (W:World),Below w.heap.size w W→Cl W.heap.size J→Cl W.heap.size Jx →
  (∀ pre x W1,J pre W1→pre.length<N→YieldAt Fence.wide (m - 1) Tryz.prog l (encs x) W1 fun e W' =>
    (e= .returned (.bool true)∧J (pre ++ [x]) W'∧Kp W1 W')∨(e= .returned (.bool false)∧Jx (pre ++ [x]) W')) →
  J [] W →
  CallsIn Fence.wide m Tryz.prog gf (#[.func (.yield l) #[] #[]] ++ lb) W fun e W'=>(∃ v,e= .returned v)∧((∃ xs,S xs∧J xs W')∨(∃ pre,Sp pre∧Jx pre W'))
section
variable {P : Program} {Q : Exit → Act → World → Prop} {n : Nat}
end
section
variable {F : Fence} {n : Nat} {P : Program} {Q : Exit → Act → World → Prop} {a : Act} {w : World}
end
structure It (PS:List (Int × Int)) (lb:Array Value) (Ok:Nat→Prop) (Fw:World→Prop):Prop where
 seq:∀ b w,Ok b→Fw w→b<w.heap.size→SeqC 2 97999 lb encP (KpB [b]) (fun ys=>ys=PS) (fun pre=>∃ k,k≤PS.length∧pre=PS.take k) PS.length w
 kp:∀ b W W',Ok b→Fw W→KpB [b] W W'→Fw W'
 below:∀ W W',Fw W→Below W.heap.size W W'→Fw W'
/-! ### the loop over it -/
structure LpI (PS:List (Int × Int)) (w Wr:World) (b16:Nat) (od:Option Nat) (n:Nat) (W:World):Prop where
 x:Blk W b16 3 [.int .i64 (n:Int)]
 k:KpB [b16] Wr W
 bl:Below w.heap.size w W
 d:∀ D,od=some D→W.heap[D]?=some (.deferred (some []))
theorem LpI.next{PS:List (Int × Int)}{w Wr:World}{b16:Nat}{od:Option Nat}{n:Nat}{W:World}(h:LpI PS w Wr b16 od n W)(hw:w.heap.size≤b16)(v:Value)(hv:v= .int .i64 ((n+1:Nat):Int)) :
 KeepsOthers W (W.setCell ⟨b16,0,none⟩ v)∧KpB [b16] W (W.setCell ⟨b16,0,none⟩ v)∧LpI PS w Wr b16 od (n+1) (W.setCell ⟨b16,0,none⟩ v):=by
 subst hv
 have hg:=grownBy_set W b16 0 (.int .i64 ((n+1:Nat):Int))
 have hk:KpB [b16] W (W.setCell ⟨b16,0,none⟩ (.int .i64 ((n+1:Nat):Int))):=KpB.set hg (by simp)
 refine⟨KeepsOthers.setCell _ _ _,hk,⟨h.x.set 0 _,h.k.trans hk,h.bl.setCell hw _,fun D e=>?_⟩⟩
 exact(KeepsOthers.setCell W _ _).same D _ (h.d D e) rfl
structure KpF (b7 b8 b9:Nat) (a3:Int) (Aw:Option Addr) (NW cw:Nat) (WL:List Int) (Fw:World→Prop) (w W:World):Prop where
 x7:Blk W b7 3 [.int .i64 a3]
 x8:Blk W b8 4 [.bool false]
 x9:Blk W b9 39 [.slice Aw NW cw]
 r:Rd .i64 W Aw NW cw WL
 fw:Fw W
 bl:Below w.heap.size w W
theorem KpF.below{b7 b8 b9:Nat}{a3:Int}{Aw:Option Addr}{NW cw:Nat}{WL:List Int}{Fw:World→Prop}{w W W':World}{PS:List (Int × Int)}{lb:Array Value}{Ok:Nat→Prop}(hI:It PS lb Ok Fw)(h:KpF b7 b8 b9 a3 Aw NW cw WL Fw w W)(hb:Below W.heap.size W W'):KpF b7 b8 b9 a3 Aw NW cw WL Fw w W' :=
 ⟨h.x7.below hb,h.x8.below hb,h.x9.below hb,Rdv.below h.r hb,hI.below W W' h.fw hb,h.bl.trans (hb.mono h.bl.size)⟩
end Go.Proofs.YtkdfefpnhaebfaaGreat.Cr
namespace Go.Proofs.YtkdfefpnhaebfaaGreat.Cr
open Go.RowKit
theorem ordV_at{d s c r:Nat}(hr:r<rwS d):ordV d s (c*rwS d+r)=mxV d (mx0 d s c r):=by
 unfold ordV
 have h1:(c*rwS d+r) / rwS d=c:=by
  rw [Nat.mul_comm,Nat.mul_add_div (by omega),Nat.div_eq_of_lt hr];omega
 have h2:(c*rwS d+r) % rwS d=r:=by
  rw [Nat.mul_comm,Nat.mul_add_mod,Nat.mod_eq_of_lt hr]
 rw [h1,h2]
end Go.Proofs.YtkdfefpnhaebfaaGreat.Cr
namespace Go.Proofs.YtkdfefpnhaebfaaGreat.Cr
open Go.RowKit
theorem vX_lo{k f j:Nat}(h:j<nB k):vX k f j=elV k f 0 (ordV (k+4) 0 j):=by
 unfold vX sxN jxN
 rw [if_pos h,if_pos h]
theorem vX_hi{k f j:Nat}:vX k f (nB k+2*j)=elV k f 1 (ordV (k+4) 1 j)∧vX k f (nB k+2*j+1)=elV k f 2 (ordV (k+4) 2 j):=by
 unfold vX sxN jxN
 constructor
 · rw [if_neg (by omega),if_neg (by omega),show(nB k+2*j - nB k) % 2+1=1 by omega,show(nB k+2*j - nB k) / 2=j by omega]
 · rw [if_neg (by omega),if_neg (by omega),show(nB k+2*j+1 - nB k) % 2+1=2 by omega,show(nB k+2*j+1 - nB k) / 2=j by omega]
end Go.Proofs.YtkdfefpnhaebfaaGreat.Cr
namespace Go.Proofs.YtkdfefpnhaebfaaGreat.Cr
open Go.RowKit Go.Shelf
section
variable {w w' : World} {base base' c : Nat} {A : Option Addr} {L : List Sv}
theorem BI.below(h:BI w base A c L)(hB:Below w.heap.size w w'):BI w' base A c L:=⟨h.o.below hB,fun s hs=>Ownv.below (h.r s hs) hB,h.p⟩
theorem BI.rd(h:BI w base A c L):Rdv w A L.length c (L.map Sv.v):=h.o.rd
end
instance (b:Nat) (lim:Int) (C g m q:Nat):Decidable (bad49 b lim C g m q):=by unfold bad49;exact inferInstance
end Go.Proofs.YtkdfefpnhaebfaaGreat.Cr
namespace Go.Proofs.YtkdfefpnhaebfaaGreat.Tu
open Go.RowKit Go.Shelf
attribute [local go_sem] Oper.semAt_some
section
variable {F : Fence} {n : Nat} {P : Program} {Q : Exit → Act → World → Prop} {a : Act} {w : World}
end
theorem KeepG.below{g n:Nat}{A B:World}(h:Below n A B)(hg:g<n):KeepG g A B:=⟨h.block g hg,h.size⟩
end Go.Proofs.YtkdfefpnhaebfaaGreat.Tu
namespace Go.Proofs.YtkdfefpnhaebfaaGreat.Cr
open Go.RowKit CM
def dI(b:Nat)(full:List Int)(i:Nat):List Int:=(full.drop (off b i)).take (sz b i - ck b)
structure SG (b:Nat) (full:List Int) (L:List Sv):Prop where
 l:L.map (·.xs)=segs b full (bC b)
 n:∀ s ∈ L,s.xs.length=s.n
 h1:1≤b
 f:full.length=off b (bC b)
 y:Bit full
section
variable {b : Nat} {full : List Int} {L : List Sv}
theorem SG.len(h:SG b full L):L.length=bC b:=by
 have:=congrArg List.length h.l
 simpa [segs] using this
theorem SG.dlen(h:SG b full L){i:Nat}(hi:i<bC b):(dI b full i).length=sz b i - ck b:=by
 have h2:=off_le (b:=b) (i:=i+1) (j:=bC b) (by omega)
 have h3:=h.f
 simp only [off]at h2
 unfold dI
 rw [List.length_take,List.length_drop];omega
theorem SG.get(h:SG b full L){i:Nat}{s:Sv}(hs:L[i]?=some s):i<bC b∧s.xs=segB b (dI b full i)∧s.n=sz b i:=by
 obtain⟨hi,he⟩:=List.getElem?_eq_some_iff.1 hs
 have hi':i<bC b:=by rw [← h.len];exact hi
 have h2:(L.map (·.xs))[i]?=some s.xs:=by rw [List.getElem?_map,hs];rfl
 rw [h.l,segs,List.getElem?_map,List.getElem?_range hi']at h2
 have h3:segB b (dI b full i)=s.xs:=Option.some.inj h2
 refine⟨hi',h3.symm,?_⟩
 rw [← h.n s (List.mem_of_getElem? hs),← h3,segB_len (i:=i) h.h1 _ (h.dlen hi')]
theorem SG.bit(h:SG b full L):∀ s ∈ L,Bit s.xs:=by
 intro s hs
 obtain⟨i,hi,rfl⟩:=List.getElem_of_mem hs
 rw [(h.get (List.getElem?_eq_getElem hi)).2.1]
 exact segB_bit (bit_take _ (bit_drop _ h.y))
theorem segB_take{d:List Int}{m:Nat}(hm:d.length=m):(segB b d).take m=d:=by
 subst hm
 unfold segB
 split
 · exact List.take_length
 · exact List.take_left
theorem SG.jD(h:SG b full L):∀ k,k≤bC b→jD b L k=full.take (off b k)
 | 0,_=>by simp [Go.Proofs.YtkdfefpnhaebfaaGreat.Cr.jD,off]
 | k+1,hk=>by
   have hl:=h.len
   have hg:=List.getElem?_eq_getElem (l:=L) (i:=k) (by omega)
   obtain⟨h2,h3,h4⟩:=h.get hg
   rw [jD_succ hg,SG.jD h k (by omega),h3,h4,segB_take (h.dlen h2)]
   simp only [off,dI]
   rw [List.take_add]
theorem SG.v(h:SG b full L):jV L=true:=jV_t fun q s _ hs=>bit_valid (h.bit s (List.mem_of_getElem? hs))
theorem SG.s(h:SG b full L):jS b L=true:=jS_t fun q s _ hs=>(h.get hs).2.2
theorem SG.c(h:SG b full L)(hb:¬ b≤6144):jC L=true:=jC_t fun q s _ hs=>by
 rw [(h.get hs).2.1]
 unfold segB
 rw [if_neg hb]
 exact(back (by decide) (bit_take _ (bit_drop _ h.y))).1
theorem SG.first(h:SG b full L)(hz:full.take (fi b)=List.replicate (fi b) 0):jF b L=true:=by
 have hp:=bC_pos (b:=b)
 have hl:=h.len
 have hg:=List.getElem?_eq_getElem (l:=L) (i:=0) (by omega)
 obtain⟨h2,h3,h4⟩:=h.get hg
 have h5:=(sz_ge (i:=0) h.h1).1
 rw [if_pos rfl]at h5
 unfold jF
 rw [hg]
 show No1 _=true
 have h6:L[0].xs.take (fi b)=List.replicate (fi b) 0:=by
  have h7:(L[0].xs.take (sz b 0 - ck b)).take (fi b)=L[0].xs.take (fi b):=by rw [List.take_take,Nat.min_eq_left (by omega)]
  rw [← h7,h3,segB_take (h.dlen h2),dI,List.take_take,Nat.min_eq_left (by omega)]
  simpa [off] using hz
 rw [h6]
 refine no1_t fun j hj=>?_
 have:gi (List.replicate (fi b) (0:Int)) j=0:=by
  unfold gi
  rw [List.getD_eq_getElem?_getD,List.getElem?_replicate]
  split<;>rfl
 rw [this];decide
theorem SG.ok(h:SG b full L)(hz:full.take (fi b)=List.replicate (fi b) 0):jErr b L=0∧jRes b L=full.drop (fi b):=by
 have h0:jErr b L=0:=jErr_0 h.v h.len h.s (h.first hz) h.c
 refine⟨h0,?_⟩
 unfold jRes
 rw [if_pos h0,h.len,h.jD _ (Nat.le_refl _),← h.f,List.take_length]
end
end Go.Proofs.YtkdfefpnhaebfaaGreat.Cr
namespace Go.Proofs.YtkdfefpnhaebfaaGreat
open Go.RowKit
theorem In3.below{W W':World}{o:Ob}{S P A:Option Addr}{cs cp ca:Nat}(h:In3 W o S P A cs cp ca)(hB:Below W.heap.size W W'):In3 W' o S P A cs cp ca:=⟨Rdv.below h.s hB,Rdv.below h.p hB,Rdv.below h.a hB⟩
end Go.Proofs.YtkdfefpnhaebfaaGreat
namespace Go.Proofs.YtkdfefpnhaebfaaGreat
open Go.RowKit
instance (o:Ob):Decidable o.lens:=by unfold Ob.lens;infer_instance
end Go.Proofs.YtkdfefpnhaebfaaGreat
namespace Go.Proofs.YtkdfefpnhaebfaaGreat
open Go.RowKit
structure Rw (e:TypeId) (sz:Nat) (W:World) (base:Nat) (A:Option Addr) (cap:Nat) (rs:List (List Value)):Prop where
 ow:W.ownsRow base e sz (.slice A rs.length cap) rs.length rs.flatten
 l:∀ r ∈ rs,r.length=sz
theorem flatR(sz:Nat):∀ (rs:List (List Value)) (h:∀ r ∈ rs,r.length=sz) (j q:Nat) (r:List Value),rs[j]?=some r→q<sz→rs.flatten[sz*j+q]?=r[q]?
 | [],h,j,q,m,hm,hq=>by simp at hm
 | x :: ms,h,0,q,m,hm,hq=>by
   simp at hm;subst hm
   have hx:x.length=sz:=h x (by simp)
   rw [List.flatten_cons,List.getElem?_append_left (by omega),Nat.mul_zero,Nat.zero_add]
 | x :: ms,h,j+1,q,m,hm,hq=>by
   have hx:x.length=sz:=h x (by simp)
   rw [List.flatten_cons,List.getElem?_append_right (by rw [hx,Nat.mul_add];omega),hx,show sz*(j+1)+q - sz=sz*j+q from by rw [Nat.mul_add];omega]
   exact flatR sz ms (fun m' hm'=>h m' (by simp [hm'])) j q m (by simpa using hm) hq
section
variable {P : Program} {W W' : World} {base cap e sz : Nat} {A : Option Addr} {rs : List (List Value)}
theorem Rw.cases(h:Rw e sz W base A cap rs):(A=none∧rs=[]∧cap=0)∨∃ bg cur,A=some ⟨bg,0,none⟩∧W.heap[bg]?=some (.cells cur e (0,0))∧base≤bg∧rs.length≤cap∧cap≤maxLen∧cur.size=cap*sz∧cur.toList.take (rs.length*sz)=rs.flatten:=by
 obtain⟨h1,h2⟩:=h.ow
 rcases h2 with⟨h2,h3⟩ | ⟨g,cap',cur,h2,h3,h4,h5,h6,h7,h8⟩
 · left
   simp only [Value.slice.injEq]at h2
   exact⟨h2.1,List.eq_nil_of_length_eq_zero h3,h2.2.2⟩
 · right
   simp only [Value.slice.injEq,true_and]at h2
   obtain⟨rfl,rfl⟩:=h2
   exact⟨g,cur,rfl,h4,h3,h5,h6,h7,h8⟩
theorem Rw.keep(h:Rw e sz W base A cap rs)(hk:∀ b,b<W.heap.size→(A≠none→b=blk A)→A≠none→W'.heap[b]?=W.heap[b]?):Rw e sz W' base A cap rs:=by
 rcases h.cases with⟨rfl,rfl,rfl⟩ | ⟨bg,cur,rfl,h1,h2,h3,h4,h5,h6⟩
 · exact⟨⟨by simp,.inl ⟨rfl,rfl⟩⟩,h.l⟩
 · exact⟨⟨h.ow.1,.inr ⟨bg,cap,cur,rfl,h2,(hk bg (heap_lt' h1) (fun _=>rfl) (by simp)).trans h1,h3,h4,h5,h6⟩⟩,h.l⟩
theorem Rw.below(h:Rw e sz W base A cap rs)(hB:Below W.heap.size W W'):Rw e sz W' base A cap rs:=h.keep fun b hb _ _=>hB.block b hb
theorem Rw.alloc(h:Rw e sz W base A cap rs)(o:Obj):Rw e sz (W.alloc o) base A cap rs:=h.keep fun b hb _ _=>heap_alloc_old (h:=hb) ..
theorem Rw.grown(h:Rw e sz W base A cap rs){row:Option Nat}(hg:W.grownBy W' row)(hne:A≠none→some (blk A)≠row):Rw e sz W' base A cap rs:=h.keep fun b hb h1 h2=>hg.block b hb (by rw [h1 h2];exact hne h2)
theorem Rw.row(h:Rw e sz W base A cap rs){j:Nat}{r:List Value}(hj:rs[j]?=some r):W.rangeAt (blk A) (sz*j) r:=fun q v hv=>by
 have hr:r.length=sz:=h.l r (List.mem_of_getElem? hj)
 have hq:q<sz:=by have:=(List.getElem?_eq_some_iff.1 hv).1;omega
 have hjl:j<rs.length:=(List.getElem?_eq_some_iff.1 hj).1
 rcases h.cases with⟨rfl,rfl,rfl⟩ | ⟨bg,cur,rfl,h1,h2,h3,h4,h5,h6⟩
 · simp at hj
 show W.cell? ⟨bg,sz*j+q,none⟩=some v
 rw [cell_of_row W bg _ cur e (0,0) h1]
 have h7:=flatR sz rs h.l j q r hj hq
 have h8:sz*j+q<rs.length*sz:=by
  have:sz*(j+1)≤rs.length*sz:=by rw [Nat.mul_comm];exact Nat.mul_le_mul_right _ hjl
  rw [Nat.mul_add]at this;omega
 rw [← h6,List.getElem?_take,if_pos h8,hv]at h7
 simpa using h7
theorem Rw.nil(e sz:Nat)(W:World)(base:Nat):Rw e sz W base none 0 []:=⟨⟨by simp,.inl ⟨rfl,rfl⟩⟩,by simp⟩
end
end Go.Proofs.YtkdfefpnhaebfaaGreat
namespace Go.Proofs.YtkdfefpnhaebfaaGreat
open Go.RowKit
structure Mt (W:World) (b N:Nat) (g:Nat→List Int):Prop where
 blk:Blk W b 274 ((List.range N).map fun q=>ints8 (g q)).flatten
 l8:∀ q,q<N→(g q).length=8
theorem flat_len(sz:Nat):∀ (rs:List (List Value)),(∀ r ∈ rs,r.length=sz)→rs.flatten.length=rs.length*sz
 | [],_=>by simp
 | x :: xs,h=>by
   rw [List.flatten_cons,List.length_append,h x (by simp),flat_len sz xs (fun r hr=>h r (by simp [hr])),List.length_cons,Nat.add_mul,Nat.one_mul,Nat.add_comm]
section
variable {W W' : World} {b N : Nat} {g g' : Nat → List Int}
theorem mt_rows(h:∀ q,q<N→(g q).length=8):∀ r ∈ (List.range N).map (fun q=>ints8 (g q)),r.length=8:=by
 intro r hr
 obtain⟨q,hq,rfl⟩:=List.mem_map.1 hr
 simp [ints8,h q (by simpa using hq)]
theorem mt_get(h:∀ q,q<N→(g q).length=8){i k:Nat}(hi:i<N)(hk:k<8):((List.range N).map fun q=>ints8 (g q)).flatten[8*i+k]?=some (.int .i64 (gi (g i) k)):=by
 rw [flatR 8 _ (mt_rows h) i k (ints8 (g i)) (by simp [hi]) hk]
 have:k<(g i).length:=by rw [h i hi];exact hk
 simp [ints8,gi,List.getD,this]
theorem Mt.cell(h:Mt W b N g){i k:Nat}(hi:i<N)(hk:k<8):W.cell? ⟨b,8*i+k,none⟩=some (.int .i64 (gi (g i) k)):=h.blk.cell (mt_get h.l8 hi hk)
def updM(g:Nat→List Int)(i k:Nat)(v:Int):Nat→List Int:=fun q=>if q=i then(g i).set k v else g q
theorem Mt.set(h:Mt W b N g){i k:Nat}(hi:i<N)(hk:k<8)(v:Int):Mt (W.setCell ⟨b,8*i+k,none⟩ (.int .i64 v)) b N (updM g i k v):=by
 have l8':∀ q,q<N→(updM g i k v q).length=8:=fun q hq=>by
  unfold updM
  split
  · rw [List.length_set];exact h.l8 i hi
  · exact h.l8 q hq
 refine⟨?_,l8'⟩
 have h1:=h.blk.set (8*i+k) (.int .i64 v)
 have e:((List.range N).map fun q=>ints8 (g q)).flatten.set (8*i+k) (.int .i64 v)=((List.range N).map fun q=>ints8 (updM g i k v q)).flatten:=by
  apply List.ext_getElem?
  intro p
  by_cases hp:p<N*8
  · obtain⟨a,c,hc,rfl⟩:∃ a c,c<8∧p=8*a+c:=⟨p / 8,p % 8,Nat.mod_lt _ (by omega),by omega⟩
    have ha:a<N:=by omega
    rw [mt_get l8' ha hc,List.getElem?_set,mt_get h.l8 ha hc]
    have hlen:8*i+k<((List.range N).map fun q=>ints8 (g q)).flatten.length:=by rw [flat_len 8 _ (mt_rows h.l8)];simp;omega
    by_cases hia:i=a
    · subst hia
      by_cases hkc:k=c
      · subst hkc
        rw [if_pos rfl,if_pos hlen]
        simp [updM,gi_set' _ _ _ _ (by rw [h.l8 i hi];exact hk)]
      · rw [if_neg (by omega)]
        simp [updM,gi_set' _ _ _ _ (by rw [h.l8 i hi];exact hc),hkc]
    · rw [if_neg (by omega)]
      simp [updM,Ne.symm hia]
  · rw [List.getElem?_eq_none (by rw [List.length_set,flat_len 8 _ (mt_rows h.l8)];simp;omega),List.getElem?_eq_none (by rw [flat_len 8 _ (mt_rows l8')];simp;omega)]
 rw [e]at h1
 exact h1
theorem Mt.below(h:Mt W b N g)(hB:Below W.heap.size W W'):Mt W' b N g:=⟨h.blk.below hB,h.l8⟩
theorem Mt.grown(h:Mt W b N g){r:Nat}(hg:W.grownBy W' (some r))(hne:b≠r):Mt W' b N g:=⟨h.blk.grown hg hne,h.l8⟩
theorem Mt.new(h:Blk W b 274 (List.replicate (N*8) (.int .i64 0))):Mt W b N (fun _=>List.replicate 8 0):=by
 refine⟨?_,fun _ _=>List.length_replicate ..⟩
 have e:((List.range N).map fun _=>ints8 (List.replicate 8 0)).flatten=List.replicate (N*8) (.int .i64 0):=by
  apply List.ext_getElem?
  intro p
  have hr:∀ q,q<N→((fun _=>List.replicate 8 0:Nat→List Int) q).length=8:=fun _ _=>by simp
  by_cases hp:p<N*8
  · obtain⟨a,c,hc,rfl⟩:∃ a c,c<8∧p=8*a+c:=⟨p / 8,p % 8,Nat.mod_lt _ (by omega),by omega⟩
    have:=mt_get (g:=fun _=>List.replicate 8 0) (N:=N) hr (i:=a) (k:=c) (by omega) hc
    rw [this,List.getElem?_replicate,if_pos hp,gi_eq _ _ (by simpa using hc),List.getElem_replicate]
  · rw [List.getElem?_eq_none (by rw [flat_len 8 _ (mt_rows (g:=fun _=>List.replicate 8 0) hr)];simp;omega),List.getElem?_eq_none (by simp;omega)]
 rw [e];exact h
end
section
variable {w wr w' : World} {bf bg N bA cap : Nat} {F G F' G' : Nat → List Int}
end
end Go.Proofs.YtkdfefpnhaebfaaGreat
namespace Go.Proofs.YtkdfefpnhaebfaaGreat
open Go.RowKit
def Apart(A B:Option Addr):Prop:=A≠none→B≠none→blk A≠blk B
theorem Apart.symm{A B:Option Addr}(h:Apart A B):Apart B A:=fun hb ha he=>h ha hb he.symm
def RowD.val(r:RowD):Value:=.slice r.A r.n r.c
def RowD.own(r:RowD)(W:World)(base:Nat):Prop:=Own r.k r.e W base r.A r.n r.c r.xs
structure TT (base:Nat) (W:World) (r1 r2 r3:RowD):Prop where
 o1:r1.own W base
 o2:r2.own W base
 o3:r3.own W base
 a12:Apart r1.A r2.A
 a13:Apart r1.A r3.A
 a23:Apart r2.A r3.A
section
variable {base : Nat} {W W' : World} {r1 r2 r3 : RowD}
theorem TT.below(h:TT base W r1 r2 r3)(hB:Below W.heap.size W W'):TT base W' r1 r2 r3:=⟨Ownv.below h.o1 hB,Ownv.below h.o2 hB,Ownv.below h.o3 hB,h.a12,h.a13,h.a23⟩
theorem TT.alloc(h:TT base W r1 r2 r3)(o:Obj):TT base (W.alloc o) r1 r2 r3:=⟨Ownv.alloc h.o1 o,Ownv.alloc h.o2 o,Ownv.alloc h.o3 o,h.a12,h.a13,h.a23⟩
theorem TT.grown(h:TT base W r1 r2 r3){g:Nat}(hg:W.grownBy W' (some g))(hlt:g<base):TT base W' r1 r2 r3:=by
 have q:∀ (r:RowD),r.own W base→r.A≠none→some (blk r.A)≠some g:=fun r hr hA=>by
  have:base≤blk r.A:=by
   obtain⟨-,h2⟩:=Ownv.cases hr
   rcases h2 with⟨h2,-⟩ | ⟨b,cur,h2,h3,-⟩
   · exact absurd h2 hA
   · rw [h2];exact h3
  simp;omega
 exact⟨Ownv.grown h.o1 hg (q r1 h.o1),Ownv.grown h.o2 hg (q r2 h.o2),Ownv.grown h.o3 hg (q r3 h.o3),h.a12,h.a13,h.a23⟩
end
section
variable {w wr w' : World} {bf bg N bA cap base : Nat} {F G : Nat → List Int}
end
end Go.Proofs.YtkdfefpnhaebfaaGreat
namespace Go.Proofs.YtkdfefpnhaebfaaGreat
open Go.RowKit
structure Sv where
 A:Option Addr
 n:Nat
 c:Nat
 xs:List Int
def Sv.v(s:Sv):Value:=.slice s.A s.n s.c
end Go.Proofs.YtkdfefpnhaebfaaGreat
namespace Go.Proofs.YtkdfefpnhaebfaaGreat
open Go.RowKit
structure Dc where
 A1:Option Addr
 n1:Nat
 c1:Nat
 t:List Int
 A2:Option Addr
 n2:Nat
 c2:Nat
 e:List Int
 A3:Option Addr
 n3:Nat
 c3:Nat
 b:List Int
def Dc.val(d:Dc):Value:=.agg #[.slice d.A1 d.n1 d.c1,.slice d.A2 d.n2 d.c2,.slice d.A3 d.n3 d.c3]
structure DcAt (W:World) (d:Dc):Prop where
 t:Rd .i64 W d.A1 d.n1 d.c1 d.t
 e:Rd .i64 W d.A2 d.n2 d.c2 d.e
 b:Rd .u8 W d.A3 d.n3 d.c3 d.b
 u:∀ x ∈ d.b,0≤x∧x<256
theorem DcAt.below{W W':World}{d:Dc}(h:DcAt W d)(hB:Below W.heap.size W W'):DcAt W' d:=⟨Rdv.below h.t hB,Rdv.below h.e hB,Rdv.below h.b hB,h.u⟩
theorem DcAt.alloc{W:World}{d:Dc}(h:DcAt W d)(o:Obj):DcAt (W.alloc o) d:=⟨Rdv.alloc h.t o,Rdv.alloc h.e o,Rdv.alloc h.b o,h.u⟩
/-! ### the two decoders in plain Lean -/
end Go.Proofs.YtkdfefpnhaebfaaGreat
namespace Go.Proofs.YtkdfefpnhaebfaaGreat
open Go.RowKit
/-! ### turning -/
theorem Tn.fr{o o':Ob}{c:Nat→Br}(h:Tn o o' c)(i:Nat)(hi:i≤o.s.length):(c i).fr<8:=by
 rcases Nat.lt_or_ge i o.s.length with h1 | h1
 · exact(br_bd _ (h.mem i h1)).1
 · have:i=o.s.length:=by omega
   rw [this,h.sn];decide
end Go.Proofs.YtkdfefpnhaebfaaGreat
namespace Go.Proofs.YtkdfefpnhaebfaaGreat
open Go.RowKit
/-! ### the theorem of the stage -/
def phi(t:Nat):Int:=[0,4,3,3,2,4,3,3].getD t 0
def psi(t:Nat):Int:=[0,2,3,3,4,4,3,3].getD t 0
theorem phi_step:∀ b ∈ brT,phi b.tt≤phi b.fr+b.bt+b.pr∧psi b.fr≤psi b.tt+b.bt+b.pr∧(b.bt=1→6≤phi b.fr+1+b.pr+psi b.tt):=by decide
theorem phi_bd:∀ t,t<8→0≤phi t∧phi t≤4∧0≤psi t∧psi t≤4:=by decide
structure Hol (o:Ob) (M:Int):Prop where
 ok:o.ok
 m:1≤M∧M≤127
 x:∀ i,i<o.s.length→-M≤o.x i∧o.x i≤M
 p:∀ i,i<o.s.length→-M≤gi o.p i∧gi o.p i≤M
 z:2*M*(o.s.length:Int) - 4*M≤o.Z o.s.length
theorem Hol.zb{o:Ob}{M:Int}(h:Hol o M):∀ i,i≤o.s.length→-(254*(i:Int))≤o.Z i∧o.Z i≤254*(i:Int)
 | 0,_=>by simp [Ob.Z]
 | i+1,hi=>by
   have h1:=h.zb i (by omega)
   have h2:=h.x i (by omega)
   have h3:=h.p i (by omega)
   have h4:=h.m
   simp only [Ob.Z]
   omega
theorem Hol.zd{o:Ob}{M:Int}(h:Hol o M):∀ d i,i+d≤o.s.length→-(254*(d:Int))≤o.Z (i+d) - o.Z i∧o.Z (i+d) - o.Z i≤254*(d:Int)
 | 0,i,_=>by simp
 | d+1,i,hi=>by
   have h1:=h.zd d i (by omega)
   have h2:=h.x (i+d) (by omega)
   have h3:=h.p (i+d) (by omega)
   have h4:=h.m
   rw [show i+(d+1)=(i+d)+1 from rfl]
   simp only [Ob.Z]
   omega
theorem Hol.nb{o:Ob}{M:Int}(h:Hol o M):o.s.length≤6147:=by have:=h.ok.2.1;have:=h.ok.2.2.1;omega
theorem term_hol{o:Ob}{M:Int}(h:Hol o M)(i:Nat)(hi:i<o.s.length)(b:Br)(hb:b ∈ brT):o.term i b≤4*M - o.x i - gi o.p i - 2*(M*((b.bt:Int)+b.pr)):=by
 obtain⟨-,h1,h2,-⟩:=br_bd b hb
 have h3:=h.x i hi
 have h4:=h.p i hi
 unfold Ob.term
 rcases (by omega:b.bt=0∨b.bt=1) with e | e<;>rcases (by omega:b.pr=0∨b.pr=1) with e' | e'<;>rw [e,e']<;>simp<;>omega
theorem Hol.f{o:Ob}{M:Int}(h:Hol o M):∀ i,i≤o.s.length→∀ t,t<8→gi (o.f i) t≤4*M*(i:Int) - o.Z i - 2*(M*phi t)
 | 0,_,t,ht=>by
   have h4:=h.m
   have hp:=phi_bd t ht
   show gi none0 t≤_
   rw [gi_none0 t ht]
   simp only [Ob.Z]
   split
   · rename_i e;subst e;simp [phi]
   · have:M*phi t≤M*4:=Int.mul_le_mul_of_nonneg_left hp.2.1 (by omega)
     rw [UU_eq];omega
 | i+1,hi,t,ht=>by
   have h4:=h.m
   have hp:=phi_bd t ht
   have hz:=h.zb (i+1) hi
   have hn:=h.nb
   have m4:M*phi t≤M*4:=Int.mul_le_mul_of_nonneg_left hp.2.1 (by omega)
   have mi:0≤M*((i:Int)+1):=Int.mul_nonneg (by omega) (by omega)
   have ec:4*M*((i:Int)+1)=4*(M*((i:Int)+1)):=Int.mul_assoc ..
   refine(fwd_le o i (o.f i) t ht _).2 ⟨?_,fun b hb e _ _=>?_⟩
   · rw [UU_eq];push_cast;rw [ec];omega
   · have h1:=h.f i (by omega) b.fr (br_bd b hb).1
     have h2:=term_hol h i (by omega) b hb
     have h3:=(phi_step b hb).1
     rw [e]at h3
     have h5:M*phi t≤M*(phi b.fr+b.bt+b.pr):=Int.mul_le_mul_of_nonneg_left h3 (by omega)
     simp only [Int.mul_add]at h5 h2
     have ei:4*M*(((i+1:Nat)):Int)=4*M*(i:Int)+4*M:=by push_cast;rw [Int.mul_add,Int.mul_one]
     rw [ei]
     simp only [Ob.Z]
     omega
theorem Hol.bd{o:Ob}{M:Int}(h:Hol o M):∀ d,d≤o.s.length→∀ t,t<8→gi (o.bd d) t≤4*M*(d:Int) - (o.Z o.s.length - o.Z (o.s.length - d)) - 2*(M*psi t)
 | 0,_,t,ht=>by
   have h4:=h.m
   have hp:=phi_bd t ht
   show gi none0 t≤_
   rw [gi_none0 t ht,Nat.sub_zero]
   split
   · rename_i e;subst e;simp [psi]
   · have:M*psi t≤M*4:=Int.mul_le_mul_of_nonneg_left hp.2.2.2 (by omega)
     rw [UU_eq];omega
 | d+1,hd,t,ht=>by
   have h4:=h.m
   have hp:=phi_bd t ht
   have hn:=h.nb
   obtain⟨i,hi⟩:∃ i,i+(d+1)=o.s.length:=⟨o.s.length - (d+1),by omega⟩
   have hz:=h.zd (d+1) i (by omega)
   rw [hi]at hz
   have m4:M*psi t≤M*4:=Int.mul_le_mul_of_nonneg_left hp.2.2.2 (by omega)
   have mi:0≤M*((d:Int)+1):=Int.mul_nonneg (by omega) (by omega)
   have ec:4*M*((d:Int)+1)=4*(M*((d:Int)+1)):=Int.mul_assoc ..
   have e1:o.s.length - 1 - d=i:=by omega
   have e2:o.s.length - (d+1)=i:=by omega
   have e3:o.s.length - d=i+1:=by omega
   show gi (o.bwd (o.s.length - 1 - d) (o.bd d)) t≤_
   rw [e1,e2]
   refine(bwd_le o i (o.bd d) t ht _).2 ⟨?_,fun b hb e _ _=>?_⟩
   · rw [UU_eq];push_cast at hz ⊢;rw [ec];omega
   · have h1:=h.bd d (by omega) b.tt (br_bd b hb).2.2.2
     rw [e3]at h1
     have h2:=term_hol h i (by omega) b hb
     have h3:=(phi_step b hb).2.1
     rw [e]at h3
     have h5:M*psi t≤M*(psi b.tt+b.bt+b.pr):=Int.mul_le_mul_of_nonneg_left h3 (by omega)
     simp only [Int.mul_add]at h5 h2
     simp only [Ob.Z]at h1
     have ei:4*M*(((d+1:Nat)):Int)=4*M*(d:Int)+4*M:=by push_cast;rw [Int.mul_add,Int.mul_one]
     rw [ei]
     omega
theorem Hol.f0{o:Ob}{M:Int}(h:Hol o M):∀ i,i≤o.s.length→o.Z i≤gi (o.f i) 0
 | 0,_=>by show(0:Int)≤gi none0 0;rw [gi_none0 0 (by decide)];simp
 | i+1,hi=>by
   have h1:=h.f0 i (by omega)
   have hz:=h.zb i (by omega)
   have hn:=h.nb
   have h2:=((fwd_le o i (o.f i) 0 (by decide) (gi (o.f (i+1)) 0)).1 (Int.le_refl _)).2 _ b0_mem rfl (allow0 o i) (by show UU<gi (o.f i) 0;rw [UU_eq];omega)
   rw [term0]at h2
   simp only [Ob.Z]
   dsimp only at h2
   omega
theorem Hol.bd0{o:Ob}{M:Int}(h:Hol o M):∀ d,d≤o.s.length→o.Z o.s.length - o.Z (o.s.length - d)≤gi (o.bd d) 0
 | 0,_=>by show _≤gi none0 0;rw [gi_none0 0 (by decide),Nat.sub_zero];simp
 | d+1,hd=>by
   have h1:=h.bd0 d (by omega)
   obtain⟨i,hi⟩:∃ i,i+(d+1)=o.s.length:=⟨o.s.length - (d+1),by omega⟩
   have e1:o.s.length - 1 - d=i:=by omega
   have e2:o.s.length - (d+1)=i:=by omega
   have e3:o.s.length - d=i+1:=by omega
   have hz:=h.zd d (i+1) (by omega)
   have e4:i+1+d=o.s.length:=by omega
   rw [e3]at h1
   rw [e4]at hz
   have hn:=h.nb
   have h2:=((bwd_le o i (o.bd d) 0 (by decide) (gi (o.bwd i (o.bd d)) 0)).1 (Int.le_refl _)).2 _ b0_mem rfl (allow0 o i) (by show UU<gi (o.bd d) 0;rw [UU_eq];omega)
   rw [term0]at h2
   show _≤gi (o.bwd (o.s.length - 1 - d) (o.bd d)) 0
   rw [e1,e2]
   simp only [Ob.Z]at h1
   dsimp only at h2
   omega
theorem Hol.tot{o:Ob}{M:Int}(h:Hol o M)(i:Nat)(hi:i<o.s.length):0<o.tot i:=by
 obtain⟨d,hd⟩:∃ d,i+1+d=o.s.length:=⟨o.s.length - (i+1),by omega⟩
 have e1:o.s.length - (i+1)=d:=by omega
 have e2:o.s.length - d=i+1:=by omega
 have h4:=h.m
 have hn:=h.nb
 have z1:=h.zb i (by omega)
 have z2:=h.zd d (i+1) (by omega)
 have z3:=h.zb o.s.length (Nat.le_refl _)
 rw [hd]at z2
 have f0:=h.f0 i (by omega)
 have b0:=h.bd0 d (by omega)
 rw [e2]at b0
 have hx:=h.x i hi
 have hp:=h.p i hi
 have hz:=h.z
 have lo:o.Z o.s.length≤o.val i 0 (o.f i) (o.b (i+1)):=by
  have:=((val_le o i 0 (o.f i) (o.b (i+1)) _).1 (Int.le_refl _)).2 _ b0_mem rfl
  unfold Ob.b at this ⊢
  rw [e1]at this ⊢
  have:=this (by show UU<gi (o.f i) 0;rw [UU_eq];omega) (by show UU<gi (o.bd d) 0;rw [UU_eq];omega)
  rw [term0]at this
  simp only [Ob.Z]at b0
  dsimp only at this
  omega
 have hi':o.val i 1 (o.f i) (o.b (i+1))≤4*M*(o.s.length:Int) - o.Z o.s.length - 12*M:=by
  have ei:4*M*(o.s.length:Int)=4*M*(i:Int)+4*M+4*M*(d:Int):=by
   rw [← hd];push_cast;rw [Int.mul_add,Int.mul_add,Int.mul_one]
  have ez:4*M*(o.s.length:Int)=2*(2*M*(o.s.length:Int)):=by rw [← Int.mul_assoc,← Int.mul_assoc];rfl
  refine(val_le o i 1 _ _ _).2 ⟨?_,fun b hb eb _ _=>?_⟩
  · have:0≤M*(o.s.length:Int):=Int.mul_nonneg (by omega) (by omega)
    have e:4*M*(o.s.length:Int)=4*(M*(o.s.length:Int)):=Int.mul_assoc ..
    rw [UU_eq,e];omega
  · unfold Ob.b
    rw [e1]
    have b4:=br_bd b hb
    have h1:=h.f i (by omega) b.fr b4.1
    have h2:=h.bd d (by omega) b.tt b4.2.2.2
    have h3:=term_hol h i hi b hb
    have h5:=(phi_step b hb).2.2 eb
    have h6:M*6≤M*(phi b.fr+1+b.pr+psi b.tt):=Int.mul_le_mul_of_nonneg_left h5 (by omega)
    rw [e2]at h2
    rw [eb]at h3
    simp only [Int.mul_add,Int.mul_one]at h6 h3
    have:M*((1:Nat):Int)=M:=by simp
    simp only [this]at h3
    simp only [Ob.Z]at h2
    rw [ei]
    omega
 have ez:4*M*(o.s.length:Int)=2*(2*M*(o.s.length:Int)):=by rw [← Int.mul_assoc,← Int.mul_assoc];rfl
 rw [ez]at hi'
 unfold Ob.tot
 have key:2≤o.val i 0 (o.f i) (o.b (i+1)) - o.val i 1 (o.f i) (o.b (i+1)):=by omega
 rw [Int.tdiv_eq_ediv_of_nonneg (by omega)]
 omega
end Go.Proofs.YtkdfefpnhaebfaaGreat
namespace Go.Proofs.YtkdfefpnhaebfaaGreat
open Go.RowKit
def lossM(M:Int)(n e i:Nat):Int:=(if e<i then 2*M else 0)+(if n≤e∧e<n+i then 2*M else 0)
end Go.Proofs.YtkdfefpnhaebfaaGreat
namespace Go.Proofs.YtkdfefpnhaebfaaGreat
open Go.RowKit
attribute [local go_sem] Oper.semAt_some
theorem hnew_bad(half:Int)(w:World)(h:half<1∨64<half):Calls Tryz.prog 10 #[.int .i64 half] w fun e w'=>e= .returned (.tuple #[.pointer none,.int .i64 2])∧w=w':=by
 rcases (by omega:half<1∨(1≤half∧64<half)) with h1 | ⟨h1,h2⟩<;>(
  clear h
  go_enter Tryz.func10,Tryz.ntmps10
  go_wp2
  go_ret2
  exact⟨rfl,rfl⟩)
section
variable {W : World} {base P : Nat} {half st sz lm : Int} {A : Option Addr} {n c : Nat}
end
section
variable {ops : Array Oper} {rest : List Oper} {op : Oper} {a : Act} {w : World} {Q : Exit → Act → World → Prop} {b : Nat} {t : TypeId} {cs suf : List Value}
end
end Go.Proofs.YtkdfefpnhaebfaaGreat
namespace Go.Proofs.YtkdfefpnhaebfaaGreat
open Go.RowKit
theorem idx_ex(P:Nat→Nat)(n v:Nat)(hi:∀ i j,i<n→j<n→P i=P j→i=j):∃ f,∀ j,j<n→(P j=v↔j=f):=by
 by_cases h:∃ j,j<n∧P j=v
 · obtain⟨f,hf,e⟩:=h
   exact⟨f,fun j hj=>⟨fun h1=>hi j f hj hf (h1.trans e.symm),fun h1=>by rw [h1];exact e⟩⟩
 · exact⟨n,fun j hj=>⟨fun h1=>absurd ⟨j,hj,h1⟩ h,fun h1=>by omega⟩⟩
def pos1(k j:Nat):Nat:=if j<k+3 then(if j<k then j else if j=k then k else if j=k+1 then 3*k+8 else 2*k+5) else(if j<2*k+3 then k+4+(j - (k+3)) else if j=2*k+3 then 2*k+4 else if j=2*k+4 then k+1 else 3*k+9)
theorem pos1_inj(k i j:Nat)(hi:i<2*(k+3))(hj:j<2*(k+3))(e:pos1 k i=pos1 k j):i=j:=by
 unfold pos1 at e
 repeat (first | omega | split at e)
theorem gi_app_l{a b:List Int}{j:Nat}(h:j<a.length):gi (a ++ b) j=gi a j:=by
 unfold gi;rw [List.getD_eq_getElem?_getD,List.getD_eq_getElem?_getD,List.getElem?_append_left h]
theorem gi_app_r{a b:List Int}{i j:Nat}(h:i=a.length+j):gi (a ++ b) i=gi b j:=by
 subst h
 unfold gi;rw [List.getD_eq_getElem?_getD,List.getD_eq_getElem?_getD,List.getElem?_append_right (by omega),show a.length+j - a.length=j by omega]
theorem sysP_len(k code j:Nat):(Tu.sysP k code j).length=j:=by simp [Tu.sysP]
theorem parP_len(k code j:Nat):(Tu.parP k code j).length=j:=by simp [Tu.parP]
theorem sys1_pos{k j:Nat}(hj:j<k+3):gi (Tu.sysL k 1) j=(pos1 k j:Int):=by
 have ha:Tu.atN k 1=k:=by unfold Tu.atN;omega
 rw [Tu.sysL_eq,ha]
 unfold pos1
 rw [if_pos hj]
 by_cases h:j<k
 · rw [gi_app_l (by rw [sysP_len];exact h),if_pos h]
   unfold Tu.sysP
   rw [gi_range _ h,Tu.rng_gi h]
 · rw [if_neg h,gi_app_r (j:=j - k) (by rw [sysP_len];omega)]
   rcases (by omega:j=k∨j=k+1∨j=k+2) with e | e | e
   · rw [if_pos e,show j - k=0 by omega];rfl
   · rw [if_neg (by omega),if_pos e,show j - k=1 by omega];simp [gi];omega
   · rw [if_neg (by omega),if_neg (by omega),show j - k=2 by omega];simp [gi];omega
theorem par1_pos{k j:Nat}(hj:j<k+3):gi (Tu.parI k 1) j=(pos1 k (k+3+j):Int):=by
 have ha:Tu.atN k 1=k:=by unfold Tu.atN;omega
 rw [Tu.parI_eq,ha]
 unfold pos1
 rw [if_neg (by omega)]
 by_cases h:j<k
 · rw [gi_app_l (by rw [parP_len];exact h),if_pos (by omega)]
   unfold Tu.parP
   rw [gi_range _ h]
   omega
 · rw [if_neg (by omega),gi_app_r (j:=j - k) (by rw [parP_len];omega)]
   rcases (by omega:j=k∨j=k+1∨j=k+2) with e | e | e
   · rw [if_pos (by omega),show j - k=0 by omega];simp [gi];omega
   · rw [if_neg (by omega),if_pos (by omega),show j - k=1 by omega];simp [gi]
   · rw [if_neg (by omega),if_neg (by omega),show j - k=2 by omega];simp [gi];omega
end Go.Proofs.YtkdfefpnhaebfaaGreat
namespace Go.Proofs.YtkdfefpnhaebfaaGreat
open Go.RowKit
attribute [local go_sem] Oper.semAt_some
def v5:List Int:=List.replicate 132 5
end Go.Proofs.YtkdfefpnhaebfaaGreat
