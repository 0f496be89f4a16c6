/- Bundle. Conditions: none. -/
import Derived.Test.YtkdfefpnhaebfaaGreatBza
import Derived.Test.YtkdfefpnhaebfaaGreatBwobn
import Derived.Test.YtkdfefpnhaebfaaGreatBwobo
import Derived.Test.YtkdfefpnhaebfaaGreatBwobp
import Derived.Test.YtkdfefpnhaebfaaGreatBwobq
import Derived.Deep.Slices
import Derived.Lib.SmallJoins
set_option linter.unusedVariables false
set_option linter.unusedSimpArgs false
set_option linter.unusedSectionVars false
namespace Go.Proofs.YtkdfefpnhaebfaaGreat
open Go.RowKit
attribute [local go_sem] Oper.semAt_some
theorem HzP.below{W W':World}{base P:Nat}{half:Int}{z:Zs}{N:Nat}{F:List Nat}(h:HzP W base P half z N F)(hB:Below W.heap.size W W'):HzP W' base P half z N F:=by
 obtain⟨G,cap,D,V,vc,R,r,rc,rest,hF,hq⟩:=h.h
 exact⟨⟨G,cap,D,V,vc,R,r,rc,rest,hF,hq.below hB⟩,h.s,h.l,h.c,h.t,h.b⟩
end Go.Proofs.YtkdfefpnhaebfaaGreat
namespace Go.Proofs.YtkdfefpnhaebfaaGreat
open Go.RowKit Go.ChangeShapes Go.WideShapes Go.Deep Go.Joins
set_option maxRecDepth 100000
structure ActV where
 kd:Int
 s:Int
 bt:Int
 md:Int
 lm:Int
 rv:Int
 fr:Bool
 A:Option Addr
 n:Nat
 c:Nat
 xs:List Int
def ActV.cells(a:ActV):List Value:=[.int .i64 a.kd,.int .i64 a.s,.int .i64 a.bt,.int .i64 a.md,.int .i64 a.lm,.int .i64 a.rv,.bool a.fr,.slice a.A a.n a.c]
structure ActV.ok (a:ActV) (w:World):Prop where
 v:Rd .i64 w a.A a.n a.c a.xs
 s:(Lit.int .i64 a.s).wf=true
 bt:(Lit.int .i64 a.bt).wf=true
 md:(Lit.int .i64 a.md).wf=true
 lm:(Lit.int .i64 a.lm).wf=true
 rv:(Lit.int .i64 a.rv).wf=true
 kd:(Lit.int .i64 a.kd).wf=true
theorem ActV.ok.below{a:ActV}{w w':World}(h:a.ok w)(hB:Below w.heap.size w w'):a.ok w':=⟨Rdv.below h.v hB,h.s,h.bt,h.md,h.lm,h.rv,h.kd⟩
section
variable {H : Type} {enc : TypeId × Value → H} {w : World} {base : Nat} {held : Bool}
end
end Go.Proofs.YtkdfefpnhaebfaaGreat
namespace Go.Proofs.YtkdfefpnhaebfaaGreat
open Go.RowKit
attribute [local go_sem] Oper.semAt_some
def NilV(W:World)(v:Value):Prop:=v= .pointer none∨∃ P,v= .pointer (some ⟨P,0,none⟩)∧Blk W P 72 [.int .i64 0,.int .i64 0,.int .i64 0,.int .i64 0,.slice none 0 0]
theorem NilV.below{W W':World}{v:Value}(h:NilV W v)(hB:Below W.heap.size W W'):NilV W' v:=by
 rcases h with h | ⟨P,h,hb⟩
 · exact .inl h
 · exact .inr ⟨P,h,hb.below hB⟩
end Go.Proofs.YtkdfefpnhaebfaaGreat
namespace Go.Proofs.YtkdfefpnhaebfaaGreat
open Go.RowKit
def zst:Option Zs→Int
 | none=>0
 | some z=>z.st
def zsz:Option Zs→Int
 | none=>0
 | some z=>z.sz
def zlm:Option Zs→Int
 | none=>0
 | some z=>z.lm
def PsZ(W:World)(base P:Nat)(half:Int)(zo:Option Zs)(N:Nat)(F:List Nat):Prop :=
 match zo with
 | none=>PrP W base P half 0 0 0 none 0 0∧F=[]
 | some z=>HzP W base P half z N F
theorem PsZ.p{W:World}{base P:Nat}{half:Int}{zo:Option Zs}{N:Nat}{F:List Nat}(h:PsZ W base P half zo N F):∃ A n c,PrP W base P half (zst zo) (zsz zo) (zlm zo) A n c:=by
 cases zo with
 | none=>exact⟨_,_,_,h.1⟩
 | some z =>
   obtain⟨G,cap,D,V,vc,R,r,rc,rest,-,hq⟩:=HzP.h h
   exact⟨_,_,_,hq.a.p⟩
theorem PsZ.below{W W':World}{base P:Nat}{half:Int}{zo:Option Zs}{N:Nat}{F:List Nat}(h:PsZ W base P half zo N F)(hB:Below W.heap.size W W'):PsZ W' base P half zo N F:=by
 cases zo with
 | none=>exact⟨PrP.below h.1 hB,h.2⟩
 | some z=>exact HzP.below h hB
end Go.Proofs.YtkdfefpnhaebfaaGreat
namespace Go.Proofs.YtkdfefpnhaebfaaGreat
open Go.RowKit Go.ChangeShapes Go.WideShapes Go.Deep Go.Joins
set_option maxRecDepth 100000
instance:Inhabited ActV:=⟨⟨0,0,0,0,0,0,false,none,0,0,[]⟩⟩
structure ActsR (W:World) (A:Option Addr) (n c:Nat) (l:List ActV):Prop where
 len:l.length=n
 le:n≤c
 cm:c≤maxLen
 at_:∀ (j:Nat) a,l[j]?=some a→a.ok W∧∃ b o,A=some ⟨b,o,none⟩∧∀ (q:Nat) v,a.cells[q]?=some v→W.cell? ⟨b,o+8*j+q,none⟩=some v
theorem ActsR.below{W W':World}{A:Option Addr}{n c:Nat}{l:List ActV}(h:ActsR W A n c l)(hB:Below W.heap.size W W'):ActsR W' A n c l :=
 ⟨h.len,h.le,h.cm,fun j a hj=>⟨(h.at_ j a hj).1.below hB,by
   obtain⟨-,b,o,hA,hc⟩:=h.at_ j a hj
   exact⟨b,o,hA,fun q v hq=>cell_below (hc q v hq) hB⟩⟩⟩
section
variable {H : Type} {enc : TypeId × Value → H} {w : World} {base : Nat} {held : Bool}
end
end Go.Proofs.YtkdfefpnhaebfaaGreat
namespace Go.Proofs.YtkdfefpnhaebfaaGreat
open Go.RowKit
def LS(lx lp:Nat→Int):Nat→Int
 | 0=>0
 | i+1=>LS lx lp i+lx i+lp i
structure HoG (o:Ob) (M:Int) (lx lp:Nat→Int):Prop where
 ok:o.ok
 m:1≤M∧M≤127
 x:∀ i,i<o.s.length→-254≤o.x i∧o.x i≤254∧0≤lx i∧lx i≤508∧M - lx i≤o.x i
 p:∀ i,i<o.s.length→-254≤gi o.p i∧gi o.p i≤254∧0≤lp i∧lp i≤508∧M - lp i≤gi o.p i
 z:LS lx lp o.s.length≤4*M
section
variable {o : Ob} {M : Int} {lx lp : Nat → Int}
theorem HoG.zd(h:HoG o M lx lp):∀ d i,i+d≤o.s.length→-(508*(d:Int))≤o.Z (i+d) - o.Z i∧o.Z (i+d) - o.Z i≤508*(d:Int)∧0≤LS lx lp (i+d) - LS lx lp i∧LS lx lp (i+d) - LS lx lp i≤1016*(d:Int)
 | 0,i,_=>by simp
 | d+1,i,hi=>by
   have h1:=h.zd d i (by omega)
   have h2:=h.x (i+d) (by omega)
   have h3:=h.p (i+d) (by omega)
   rw [show i+(d+1)=(i+d)+1 from rfl]
   simp only [Ob.Z,LS]
   omega
theorem HoG.zb(h:HoG o M lx lp)(i:Nat)(hi:i≤o.s.length):-(508*(i:Int))≤o.Z i∧o.Z i≤508*(i:Int)∧0≤LS lx lp i∧LS lx lp i≤1016*(i:Int):=by
 have:=h.zd i 0 (by omega)
 simp only [Nat.zero_add,Ob.Z,LS,Int.sub_zero]at this
 exact this
theorem HoG.nb(h:HoG o M lx lp):o.s.length≤6147:=by have:=h.ok.2.1;have:=h.ok.2.2.1;omega
theorem term_hog(h:HoG o M lx lp)(i:Nat)(hi:i<o.s.length)(b:Br)(hb:b ∈ brT):o.term i b≤o.x i+gi o.p i+2*lx i+2*lp i - 2*(M*((b.bt:Int)+b.pr)):=by
 obtain⟨-,h1,h2,-⟩:=br_bd b hb
 have h3:=h.x i hi
 have h4:=h.p i hi
 unfold Ob.term
 rcases (by omega:b.bt=0∨b.bt=1) with e | e<;>rcases (by omega:b.pr=0∨b.pr=1) with e' | e'<;>rw [e,e']<;>simp<;>omega
theorem HoG.f(h:HoG o M lx lp):∀ i,i≤o.s.length→∀ t,t<8→gi (o.f i) t≤o.Z i+2*LS lx lp i - 2*(M*phi t)
 | 0,_,t,ht=>by
   have h4:=h.m
   have hp:=phi_bd t ht
   show gi none0 t≤_
   rw [gi_none0 t ht]
   simp only [Ob.Z,LS]
   split
   · rename_i e;subst e;simp [phi]
   · have:M*phi t≤M*4:=Int.mul_le_mul_of_nonneg_left hp.2.1 (by omega)
     rw [UU_eq];omega
 | i+1,hi,t,ht=>by
   have h4:=h.m
   have hp:=phi_bd t ht
   have hz:=h.zb (i+1) hi
   have hn:=h.nb
   have m4:M*phi t≤M*4:=Int.mul_le_mul_of_nonneg_left hp.2.1 (by omega)
   refine(fwd_le o i (o.f i) t ht _).2 ⟨?_,fun b hb e _ _=>?_⟩
   · rw [UU_eq];omega
   · have h1:=h.f i (by omega) b.fr (br_bd b hb).1
     have h2:=term_hog h i (by omega) b hb
     have h3:=(phi_step b hb).1
     rw [e]at h3
     have h5:M*phi t≤M*(phi b.fr+b.bt+b.pr):=Int.mul_le_mul_of_nonneg_left h3 (by omega)
     simp only [Int.mul_add]at h5 h2
     simp only [Ob.Z,LS]
     omega
theorem HoG.bd(h:HoG o M lx lp):∀ d,d≤o.s.length→∀ t,t<8→gi (o.bd d) t≤(o.Z o.s.length - o.Z (o.s.length - d))+2*(LS lx lp o.s.length - LS lx lp (o.s.length - d)) - 2*(M*psi t)
 | 0,_,t,ht=>by
   have h4:=h.m
   have hp:=phi_bd t ht
   show gi none0 t≤_
   rw [gi_none0 t ht,Nat.sub_zero]
   split
   · rename_i e;subst e;simp [psi]
   · have:M*psi t≤M*4:=Int.mul_le_mul_of_nonneg_left hp.2.2.2 (by omega)
     rw [UU_eq];omega
 | d+1,hd,t,ht=>by
   have h4:=h.m
   have hp:=phi_bd t ht
   have hn:=h.nb
   obtain⟨i,hi⟩:∃ i,i+(d+1)=o.s.length:=⟨o.s.length - (d+1),by omega⟩
   have hz:=h.zd (d+1) i (by omega)
   rw [hi]at hz
   have m4:M*psi t≤M*4:=Int.mul_le_mul_of_nonneg_left hp.2.2.2 (by omega)
   have e1:o.s.length - 1 - d=i:=by omega
   have e2:o.s.length - (d+1)=i:=by omega
   have e3:o.s.length - d=i+1:=by omega
   show gi (o.bwd (o.s.length - 1 - d) (o.bd d)) t≤_
   rw [e1,e2]
   refine(bwd_le o i (o.bd d) t ht _).2 ⟨?_,fun b hb e _ _=>?_⟩
   · rw [UU_eq];omega
   · have h1:=h.bd d (by omega) b.tt (br_bd b hb).2.2.2
     rw [e3]at h1
     have h2:=term_hog h i (by omega) b hb
     have h3:=(phi_step b hb).2.1
     rw [e]at h3
     have h5:M*psi t≤M*(psi b.tt+b.bt+b.pr):=Int.mul_le_mul_of_nonneg_left h3 (by omega)
     simp only [Int.mul_add]at h5 h2
     simp only [Ob.Z,LS]at h1
     omega
theorem HoG.f0(h:HoG o M lx lp):∀ i,i≤o.s.length→o.Z i≤gi (o.f i) 0
 | 0,_=>by show(0:Int)≤gi none0 0;rw [gi_none0 0 (by decide)];simp
 | i+1,hi=>by
   have h1:=h.f0 i (by omega)
   have hz:=h.zb i (by omega)
   have hn:=h.nb
   have h2:=((fwd_le o i (o.f i) 0 (by decide) (gi (o.f (i+1)) 0)).1 (Int.le_refl _)).2 _ b0_mem rfl (allow0 o i) (by show UU<gi (o.f i) 0;rw [UU_eq];omega)
   rw [term0]at h2
   simp only [Ob.Z]
   dsimp only at h2
   omega
theorem HoG.bd0(h:HoG o M lx lp):∀ d,d≤o.s.length→o.Z o.s.length - o.Z (o.s.length - d)≤gi (o.bd d) 0
 | 0,_=>by show _≤gi none0 0;rw [gi_none0 0 (by decide),Nat.sub_zero];simp
 | d+1,hd=>by
   have h1:=h.bd0 d (by omega)
   obtain⟨i,hi⟩:∃ i,i+(d+1)=o.s.length:=⟨o.s.length - (d+1),by omega⟩
   have e1:o.s.length - 1 - d=i:=by omega
   have e2:o.s.length - (d+1)=i:=by omega
   have e3:o.s.length - d=i+1:=by omega
   have hz:=h.zd d (i+1) (by omega)
   have e4:i+1+d=o.s.length:=by omega
   rw [e3]at h1
   rw [e4]at hz
   have hn:=h.nb
   have h2:=((bwd_le o i (o.bd d) 0 (by decide) (gi (o.bwd i (o.bd d)) 0)).1 (Int.le_refl _)).2 _ b0_mem rfl (allow0 o i) (by show UU<gi (o.bd d) 0;rw [UU_eq];omega)
   rw [term0]at h2
   show _≤gi (o.bwd (o.s.length - 1 - d) (o.bd d)) 0
   rw [e1,e2]
   simp only [Ob.Z]at h1
   dsimp only at h2
   omega
theorem HoG.tot(h:HoG o M lx lp)(i:Nat)(hi:i<o.s.length):0<o.tot i:=by
 obtain⟨d,hd⟩:∃ d,i+1+d=o.s.length:=⟨o.s.length - (i+1),by omega⟩
 have e1:o.s.length - (i+1)=d:=by omega
 have e2:o.s.length - d=i+1:=by omega
 have h4:=h.m
 have hn:=h.nb
 have z1:=h.zb i (by omega)
 have z2:=h.zd d (i+1) (by omega)
 have z3:=h.zb o.s.length (Nat.le_refl _)
 rw [hd]at z2
 have f0:=h.f0 i (by omega)
 have b0:=h.bd0 d (by omega)
 rw [e2]at b0
 have hx:=h.x i hi
 have hp:=h.p i hi
 have hz:=h.z
 have lo:o.Z o.s.length≤o.val i 0 (o.f i) (o.b (i+1)):=by
  have:=((val_le o i 0 (o.f i) (o.b (i+1)) _).1 (Int.le_refl _)).2 _ b0_mem rfl
  unfold Ob.b at this ⊢
  rw [e1]at this ⊢
  have:=this (by show UU<gi (o.f i) 0;rw [UU_eq];omega) (by show UU<gi (o.bd d) 0;rw [UU_eq];omega)
  rw [term0]at this
  simp only [Ob.Z]at b0
  dsimp only at this
  omega
 have hi':o.val i 1 (o.f i) (o.b (i+1))≤o.Z o.s.length+2*LS lx lp o.s.length - 12*M:=by
  refine(val_le o i 1 _ _ _).2 ⟨?_,fun b hb eb _ _=>?_⟩
  · rw [UU_eq];omega
  · unfold Ob.b
    rw [e1]
    have b4:=br_bd b hb
    have h1:=h.f i (by omega) b.fr b4.1
    have h2:=h.bd d (by omega) b.tt b4.2.2.2
    have h3:=term_hog h i hi b hb
    have h5:=(phi_step b hb).2.2 eb
    have h6:M*6≤M*(phi b.fr+1+b.pr+psi b.tt):=Int.mul_le_mul_of_nonneg_left h5 (by omega)
    rw [e2]at h2
    rw [eb]at h3
    simp only [Int.mul_add,Int.mul_one]at h6 h3
    have:M*((1:Nat):Int)=M:=by simp
    simp only [this]at h3
    simp only [Ob.Z,LS]at h2
    omega
 unfold Ob.tot
 have key:2≤o.val i 0 (o.f i) (o.b (i+1)) - o.val i 1 (o.f i) (o.b (i+1)):=by omega
 rw [Int.tdiv_eq_ediv_of_nonneg (by omega)]
 omega
end
def lsQ(M:Int)(x y q:Nat):Int:=(if q=x then 2*M else 0)+(if q=y then 2*M else 0)
def oU(u:Nat→Int)(k:Nat):Ob:=⟨(List.range (k+3)).map u,(List.range (k+3)).map (fun j=>u (k+3+j)),List.replicate k 0⟩
theorem oU_x(u:Nat→Int)(k i:Nat)(hi:i<k+3):(oU u k).x i=u i:=by
 unfold Ob.x oU
 dsimp only
 rw [gi_zero,gi_range _ hi,Int.add_zero,ite_self]
theorem oU_p(u:Nat→Int)(k i:Nat)(hi:i<k+3):gi (oU u k).p i=u (k+3+i):=gi_range _ hi
theorem oU_len(u:Nat→Int)(k:Nat):(oU u k).s.length=k+3:=by simp [oU]
theorem oU_ok{u:Nat→Int}{k:Nat}(hk:1≤k∧k≤6144)(hu:∀ q,q<2*(k+3)→-127≤u q∧u q≤127):(oU u k).ok:=by
 refine⟨by simp [oU];omega,by simp [oU];omega,by simp [oU],by simp [oU],?_,?_,?_⟩<;>intro v hv
 · obtain⟨j,hj,rfl⟩:=List.mem_map.1 hv
   exact hu j (by simp at hj;omega)
 · obtain⟨j,hj,rfl⟩:=List.mem_map.1 hv
   exact hu (k+3+j) (by simp at hj;omega)
 · have:=List.eq_of_mem_replicate hv
   omega
theorem ls_sum{M:Int}(hM:1≤M)(n x y:Nat):∀ i,i≤n→LS (lsQ M x y) (fun j=>lsQ M x y (n+j)) i≤lossM M n x i+lossM M n y i
 | 0,_=>by
   unfold lossM LS
   split<;>split<;>split<;>split<;>omega
 | i+1,hi=>by
   have ih:=ls_sum hM n x y i (by omega)
   have step:∀ e,lossM M n e i+(if i=e then 2*M else 0)+(if n+i=e then 2*M else 0)≤lossM M n e (i+1):=fun e=>by
    unfold lossM
    by_cases h1:e<i<;>by_cases h2:i=e<;>by_cases h3:n≤e∧e<n+i<;>by_cases h4:n+i=e
    all_goals first
     | omega
     | (simp only [h1,h2,h3,h4,if_true,if_false];split<;>split<;>omega)
   have sx:=step x
   have sy:=step y
   simp only [LS]
   show LS (lsQ M x y) (fun j=>lsQ M x y (n+j)) i+lsQ M x y i+lsQ M x y (n+i)≤_
   unfold lsQ at *
   omega
theorem oU_hog{M:Int}(hM:1≤M∧M≤127){u:Nat→Int}{k:Nat}(hk:1≤k∧k≤6144)(x y:Nat)(hu:∀ q,q<2*(k+3)→-M≤u q∧u q≤127∧(q≠x→q≠y→M≤u q)):HoG (oU u k) M (lsQ M x y) (fun j=>lsQ M x y (k+3+j)):=by
 have hq:∀ q,q<2*(k+3)→-254≤u q∧u q≤254∧0≤lsQ M x y q∧lsQ M x y q≤508∧M - lsQ M x y q≤u q:=fun q hq=>by
  have h:=hu q hq
  unfold lsQ
  by_cases h1:q=x<;>by_cases h2:q=y<;>simp only [h1,h2,if_true,if_false]at h ⊢
  all_goals first
   | omega
   | (split<;>omega)
   | (have:=h.2.2 (by omega) (by omega);omega)
 refine⟨oU_ok hk (fun q h=>by have:=hu q h;omega),hM,fun i hi=>?_,fun i hi=>?_,?_⟩
 · rw [oU_len]at hi;rw [oU_x u k i hi];exact hq i (by omega)
 · rw [oU_len]at hi;rw [oU_p u k i hi];exact hq _ (by omega)
 · have h:=ls_sum hM.1 (k+3) x y (k+3) (Nat.le_refl _)
   rw [oU_len]
   have l:∀ e,lossM M (k+3) e (k+3)≤2*M:=fun e=>by
    unfold lossM
    split<;>split<;>omega
   have:=l x
   have:=l y
   omega
theorem holdg_plain{M:Int}(hM:1≤M∧M≤127){u:Nat→Int}{k:Nat}(hk:1≤k∧k≤6144)(x y:Nat)(hu:∀ q,q<2*(k+3)→-M≤u q∧u q≤127∧(q≠x→q≠y→M≤u q)){bs:List Bool}(hb:bs.length=k)(o:Ob)(hs:o.s.length=k+3)(hp:o.p.length=k+3)(ha:o.a=List.replicate k 0)
 (h1:∀ j,j<k+3→gi o.s j=u j*(1 - 2*(bq ((inW bs).getD j false):Int)))
 (h2:∀ j,j<k+3→gi o.p j=u (k+3+j)*(1 - 2*(bq ((outW bs).getD j false):Int))):o.ok∧o.dB=bs.map ib:=by
 have hok:(oU u k).ok:=(oU_hog hM hk x y hu).ok
 have hk2:bs.length=(oU u k).a.length:=by rw [hb];simp [oU]
 have e:o=(oU u k).turn bs:=by
  have q1:o.s=flp (oU u k).s (inW bs):=ext_gi (by rw [flp_len,oU_len,hs]) fun j hj=>by
   rw [hs]at hj
   rw [gi_flp,h1 j hj]
   congr 1
   exact(gi_range _ hj).symm
  have q2:o.p=flp (oU u k).p (outW bs):=ext_gi (by rw [flp_len,hp];simp [oU]) fun j hj=>by
   rw [hp]at hj
   rw [gi_flp,h2 j hj,oU_p u k j hj]
  have q3:o.a=flp (oU u k).a bs:=ext_gi (by rw [flp_len,ha];simp [oU]) fun j hj=>by
   rw [gi_flp,ha]
   show _=gi (List.replicate k 0) j*_
   rw [gi_zero,Int.zero_mul]
  unfold Ob.turn
  rw [← q1,← q2,← q3]
 rw [e]
 refine⟨turn_ok hok bs,?_⟩
 have ht:=turn_tn hok hk2
 have hh:=oU_hog hM hk x y hu
 have hal:((oU u k).turn bs).a.length=k:=by show(flp _ _).length=k;rw [flp_len];simp [oU]
 unfold Ob.dB
 rw [if_pos (turn_ok hok bs),hal]
 refine ext_gi (by simp [hb]) fun j hj=>?_
 have hj:j<k:=by simpa using hj
 rw [gi_range _ hj,gi_ib bs j (by omega)]
 unfold Ob.bT
 rw [ht.tot j (by rw [oU_len];omega)]
 have hpos:=hh.tot j (by rw [oU_len];omega)
 have hbt:(cW bs j).bt=bq (bs[j]'(by omega)):=by
  show bq ((inW bs).getD j false)=_
  rw [inW_lo bs j (by omega)]
  simp [List.getD,show j<bs.length from by omega]
 rw [hbt]
 generalize bs[j]'_=b
 cases b
 · show(if (oU u k).tot j*(1 - 2*0)<0 then(1:Int) else 0)=0
   rw [if_neg (by omega)]
 · show(if (oU u k).tot j*(1 - 2*1)<0 then(1:Int) else 0)=1
   rw [if_pos (by omega)]
theorem holdg_one{k u:Nat}(hk:k=Tu.szK u){x:List Bool}{vs:List Int}{M:Int}(hM:1≤M∧M≤127)(hx:x.length=k)(y z:Nat)(g:Nat→Int)(hg:∀ q,q<3*(k+4)→-M≤g q∧g q≤127∧(q≠y→q≠z→M≤g q))
 (hv:∀ q,q<3*(k+4)→gi vs q=g q*(1 - 2*(bq (Tu.gB (Tu.wrd x) q):Int))):decN vs k 0=x.map ib:=by
 have hb:=Tu.szK_bd u
 rw [← hk]at hb
 obtain⟨y',hy⟩:=idx_ex (pos1 k) (2*(k+3)) y (pos1_inj k)
 obtain⟨z',hz⟩:=idx_ex (pos1 k) (2*(k+3)) z (pos1_inj k)
 have hw:∀ (L:List Int) (R:List Bool) (P:Nat→Nat),L.length=k+3→(∀ j,j<k+3→gi L j=(P j:Int))→Tu.selB (Tu.wrd x) L=R→∀ j,j<k+3→R.getD j false=Tu.gB (Tu.wrd x) (P j):=by
  intro L R P hl hp hs j hj
  rw [← hs]
  unfold Tu.selB
  rw [List.getD_eq_getElem?_getD,List.getElem?_map,List.getElem?_eq_getElem (by rw [hl];exact hj),← gi_eq _ _ (by rw [hl];exact hj),hp j hj]
  rfl
 have pb:∀ j,j<2*(k+3)→pos1 k j<3*(k+4):=fun j hj=>by unfold pos1;repeat (first | omega | split)
 refine(holdg_plain hM (u:=fun j=>g (pos1 k j)) (k:=k) ⟨by omega,by omega⟩ y' z' (fun q hq=>⟨(hg _ (pb q hq)).1,(hg _ (pb q hq)).2.1,fun h1 h2=>(hg _ (pb q hq)).2.2 (fun e=>h1 ((hy q hq).1 e)) (fun e=>h2 ((hz q hq).1 e))⟩) hx (obH vs k 1 (List.replicate k 0)) (by show(pk _ _).length=_;rw [pk_len,sys_len]) (by show(pk _ _).length=_;rw [pk_len,par_len]) rfl (fun j hj=>?_) (fun j hj=>?_)).2
 · show gi (pk vs _) j=_
   rw [gi_pk (by rw [sys_len];exact hj),sys1_pos hj,Int.toNat_natCast,hv _ (pb j (by omega))]
   rw [← hw _ _ _ (sys_len k 1) (fun j hj=>sys1_pos hj) (Tu.sel_sys hx hk (.inl rfl)) j hj]
   rfl
 · show gi (pk vs _) j=_
   rw [gi_pk (by rw [par_len];exact hj),par1_pos hj,Int.toNat_natCast,hv _ (pb _ (by omega))]
   rw [← hw _ _ (fun j=>pos1 k (k+3+j)) (par_len k 1) (fun j hj=>par1_pos hj) (Tu.sel_par hx (.inl rfl)) j hj]
   rfl
end Go.Proofs.YtkdfefpnhaebfaaGreat
namespace Go.Proofs.YtkdfefpnhaebfaaGreat
open Go.RowKit
theorem cpN_on:∀ u,u<32→∃ c,c<32∧Cr.cpN c=u:=by decide +kernel
theorem cpN_inj{c d:Nat}(hc:c<32)(hd:d<32)(h:Cr.cpN c=Cr.cpN d):c=d:=by
 have h2:=(show ∀ c d:Fin 32,Cr.cpN c.1=Cr.cpN d.1→c=d by decide +kernel) ⟨c,hc⟩ ⟨d,hd⟩ h
 exact congrArg Fin.val h2
theorem ordV_on{d s i:Nat}(hi:i<d):∃ j,j<32*Cr.rwS d∧Cr.ordV d s j=(i:Int):=by
 have hg:=Cr.rwS_ge d
 generalize hR:Cr.rwS d=R at *
 obtain⟨m,hm⟩:∃ m,m=i+(32*R - d):=⟨_,rfl⟩
 obtain⟨m',hm',hlt⟩:∃ m',(if s=2 then(m'+1) % (32*R) else m')=m∧m'<32*R:=by
  by_cases h2:s=2
  · simp only [h2,if_true]
    by_cases h0:m=0
    · exact⟨32*R - 1,by rw [h0,show 32*R - 1+1=32*R by omega,Nat.mod_self],by omega⟩
    · exact⟨m - 1,by rw [show m - 1+1=m by omega,Nat.mod_eq_of_lt (by omega)],by omega⟩
  · simp only [h2,if_false]
    exact⟨m,rfl,by omega⟩
 obtain⟨c,hc,hcp⟩:=cpN_on (m' % 32) (Nat.mod_lt _ (by decide))
 have hr:m' / 32<R:=by omega
 refine⟨c*R+m' / 32,?_,?_⟩
 · have:(c+1)*R≤32*R:=Nat.mul_le_mul_right R (by omega)
   rw [Nat.add_mul,Nat.one_mul]at this
   omega
 · have h1:=Cr.ordV_at (d:=d) (s:=s) (c:=c) (r:=m' / 32) (by rw [hR];exact hr)
   rw [hR]at h1
   rw [h1]
   have h2:Cr.mx0 d s c (m' / 32)=m:=by
    unfold Cr.mx0
    rw [hR,hcp,show 32*(m' / 32)+m' % 32=m' by omega]
    exact hm'
   rw [h2]
   unfold Cr.mxV
   rw [hR,if_neg (by omega)]
   omega
theorem mx0_inj{d s c r c' r':Nat}(hc:c<32)(hc':c'<32)(hr:r<Cr.rwS d)(hr':r'<Cr.rwS d)(h:Cr.mx0 d s c r=Cr.mx0 d s c' r'):c=c'∧r=r':=by
 have h1:=Cr.cpN_lt c
 have h2:=Cr.cpN_lt c'
 have h3:32*r+Cr.cpN c=32*r'+Cr.cpN c':=by
  unfold Cr.mx0 at h
  generalize Cr.rwS d=R at *
  split at h
  · obtain⟨x,hx⟩:∃ x,x=32*r+Cr.cpN c:=⟨_,rfl⟩
    obtain⟨y,hy⟩:∃ y,y=32*r'+Cr.cpN c':=⟨_,rfl⟩
    rw [← hx,← hy]at h ⊢
    have hxl:x<32*R:=by omega
    have hyl:y<32*R:=by omega
    have key:∀ z,z<32*R→(z+1) % (32*R)=if z+1=32*R then 0 else z+1:=fun z hz=>by
     split
     · rename_i e;rw [e,Nat.mod_self]
     · exact Nat.mod_eq_of_lt (by omega)
    rw [key x hxl,key y hyl]at h
    split at h<;>split at h<;>omega
  · exact h
 exact⟨cpN_inj hc hc' (by omega),by omega⟩
theorem ordV_inj{d s j j':Nat}(hj:j<32*Cr.rwS d)(hj':j'<32*Cr.rwS d)(h:Cr.ordV d s j=Cr.ordV d s j')(h0:0≤Cr.ordV d s j):j=j':=by
 have hR:0<Cr.rwS d:=by omega
 have h1:Cr.mx0 d s (j / Cr.rwS d) (j % Cr.rwS d)=Cr.mx0 d s (j' / Cr.rwS d) (j' % Cr.rwS d):=by
  unfold Cr.ordV Cr.mxV at h h0
  split at h<;>split at h<;>simp_all<;>omega
 have d1:j / Cr.rwS d<32:=Nat.div_lt_of_lt_mul (by rw [Nat.mul_comm];exact hj)
 have d2:j' / Cr.rwS d<32:=Nat.div_lt_of_lt_mul (by rw [Nat.mul_comm];exact hj')
 obtain⟨a,b⟩:=mx0_inj d1 d2 (Nat.mod_lt _ hR) (Nat.mod_lt _ hR) h1
 rw [← Nat.div_add_mod j (Cr.rwS d),← Nat.div_add_mod j' (Cr.rwS d),a,b]
def isF(k f q:Nat):Prop:=q<f∨(k+4≤q∧q<k+4+f)
theorem vX_on{k f p:Nat}(hf:f<k)(hp:p<3*(k+4))(hn:¬ isF k f p):∃ x,x<3*Cr.nB k∧Cr.vX k f x=(p:Int):=by
 unfold isF at hn
 have hB:Cr.nB k=32*Cr.rwS (k+4):=rfl
 rcases (by omega:p<k+4∨(k+4≤p∧p<2*(k+4))∨(2*(k+4)≤p)) with h | h | h
 · obtain⟨j,hj,he⟩:=ordV_on (d:=k+4) (s:=0) (i:=p) h
   refine⟨j,by omega,?_⟩
   rw [Cr.vX_lo (by omega),he]
   unfold Cr.elV
   rw [if_neg (by omega)]
   omega
 · obtain⟨j,hj,he⟩:=ordV_on (d:=k+4) (s:=1) (i:=p - (k+4)) (by omega)
   refine⟨Cr.nB k+2*j,by omega,?_⟩
   rw [Cr.vX_hi.1,he]
   unfold Cr.elV
   rw [if_neg (by omega)]
   omega
 · obtain⟨j,hj,he⟩:=ordV_on (d:=k+4) (s:=2) (i:=p - 2*(k+4)) (by omega)
   refine⟨Cr.nB k+2*j+1,by omega,?_⟩
   rw [Cr.vX_hi.2,he]
   unfold Cr.elV
   rw [if_neg (by omega)]
   omega
theorem vX_at{k f x:Nat}(hx:x<3*Cr.nB k)(h0:0≤Cr.vX k f x):∃ (s j i:Nat),s≤2∧j<Cr.nB k∧i<k+4∧Cr.ordV (k+4) s j=(i:Int)∧Cr.vX k f x=((s*(k+4)+i:Nat):Int)∧(s<2→f≤i)∧x=(if s=0 then j else Cr.nB k+2*j+(s - 1)):=by
 have hbd:=Cr.ordV_bd (d:=k+4) (s:=Cr.sxN (Cr.nB k) x) (k:=Cr.jxN (Cr.nB k) x) (by omega)
 unfold Cr.vX Cr.elV at h0 ⊢
 have hs:Cr.sxN (Cr.nB k) x≤2:=by unfold Cr.sxN;split<;>omega
 have hj:Cr.jxN (Cr.nB k) x<Cr.nB k:=by unfold Cr.jxN;split<;>omega
 have hxx:x=(if Cr.sxN (Cr.nB k) x=0 then Cr.jxN (Cr.nB k) x else Cr.nB k+2*Cr.jxN (Cr.nB k) x+(Cr.sxN (Cr.nB k) x - 1)):=by
  unfold Cr.sxN Cr.jxN
  split
  · simp
  · rw [if_neg (by omega)];omega
 generalize Cr.sxN (Cr.nB k) x=s at *
 generalize Cr.jxN (Cr.nB k) x=j at *
 generalize ho:Cr.ordV (k+4) s j=y at *
 split at h0
 · omega
 · rename_i hn
   rw [if_neg hn]
   obtain⟨i,rfl⟩:=Int.eq_ofNat_of_zero_le (show 0≤y by omega)
   exact⟨s,j,i,hs,hj,by omega,ho,by push_cast;rfl,fun h2=>by omega,hxx⟩
theorem vX_inj{k f x y:Nat}(hx:x<3*Cr.nB k)(hy:y<3*Cr.nB k)(h:Cr.vX k f x=Cr.vX k f y)(h0:0≤Cr.vX k f x):x=y:=by
 obtain⟨s,j,i,a1,a2,a3,a4,a5,-,a6⟩:=vX_at hx h0
 obtain⟨s',j',i',b1,b2,b3,b4,b5,-,b6⟩:=vX_at hy (by rw [← h];exact h0)
 rw [a5,b5]at h
 have e:s*(k+4)+i=s'*(k+4)+i':=by omega
 have es:s=s'∧i=i':=by
  rcases (by omega:s=0∨s=1∨s=2) with rfl | rfl | rfl<;>rcases (by omega:s'=0∨s'=1∨s'=2) with rfl | rfl | rfl<;>omega
 obtain⟨rfl,rfl⟩:=es
 have ej:j=j':=ordV_inj a2 b2 (a4.trans b4.symm) (by rw [a4];omega)
 rw [a6,b6,ej]
theorem vX_nf{k f x:Nat}(hf:f<k)(hx:x<3*Cr.nB k)(h0:0≤Cr.vX k f x):∃ p:Nat,Cr.vX k f x=(p:Int)∧p<3*(k+4)∧¬ isF k f p:=by
 obtain⟨s,j,i,a1,a2,a3,a4,a5,a7,a6⟩:=vX_at hx h0
 unfold isF
 refine⟨_,a5,?_,?_⟩<;>rcases (by omega:s=0∨s=1∨s=2) with rfl | rfl | rfl<;>omega
/-! ### one lap -/
theorem sel_of{B:List Int}{st N:Nat}:∀ t i,i<t→0≤Cr.rgV B st N i→Cr.rgV B st N i ∈ Cr.selL B st N t
 | t+1,i,hi,h0=>by
   by_cases ht:0≤Cr.rgV B st N t
   · rw [Cr.selL_step ht,List.mem_append]
     rcases Nat.lt_succ_iff_lt_or_eq.1 hi with h | rfl
     · exact .inl (sel_of t i h h0)
     · exact .inr (List.mem_singleton.2 rfl)
   · rw [Cr.selL_skip (by omega)]
     rcases Nat.lt_succ_iff_lt_or_eq.1 hi with h | rfl
     · exact sel_of t i h h0
     · exact absurd h0 ht
theorem sel_at{B:List Int}{st N:Nat}:∀ t x,x ∈ Cr.selL B st N t→∃ i,i<t∧x=Cr.rgV B st N i∧0≤x
 | 0,x,h=>by cases h
 | t+1,x,h=>by
   by_cases ht:0≤Cr.rgV B st N t
   · rw [Cr.selL_step ht,List.mem_append]at h
     rcases h with h | h
     · obtain⟨i,hi,e⟩:=sel_at t x h
       exact⟨i,by omega,e⟩
     · have:=List.mem_singleton.1 h
       exact⟨t,by omega,this,by rw [this];exact ht⟩
   · rw [Cr.selL_skip (by omega)]at h
     obtain⟨i,hi,e⟩:=sel_at t x h
     exact⟨i,by omega,e⟩
theorem mod_add_inj{st N i j:Nat}(hi:i<N)(hj:j<N)(h:(st+i) % N=(st+j) % N):i=j:=by
 have hN:0<N:=by omega
 have e1:(st % N+i) % N=(st % N+j) % N:=by rw [Nat.mod_add_mod,Nat.mod_add_mod];exact h
 have hs:=Nat.mod_lt st hN
 have key:∀ z,z<N→(st % N+z) % N=if st % N+z<N then st % N+z else st % N+z - N:=fun z hz=>by
  split
  · exact Nat.mod_eq_of_lt (by assumption)
  · rw [Nat.mod_eq_sub_mod (by omega),Nat.mod_eq_of_lt (by omega)]
 rw [key i hi,key j hj]at e1
 split at e1<;>split at e1<;>omega
theorem mod_add_on{st N x:Nat}(hx:x<N):∃ i,i<N∧(st+i) % N=x:=by
 have hN:0<N:=by omega
 have hs:=Nat.mod_lt st hN
 have e1:∀ i,(st+i) % N=(st % N+i) % N:=fun i=>(Nat.mod_add_mod st N i).symm
 by_cases h:st % N≤x
 · exact⟨x - st % N,by omega,by rw [e1,show st % N+(x - st % N)=x by omega,Nat.mod_eq_of_lt hx]⟩
 · exact⟨x+N - st % N,by omega,by rw [e1,show st % N+(x+N - st % N)=x+N by omega,Nat.add_mod_right,Nat.mod_eq_of_lt hx]⟩
theorem sel_nodup{B:List Int}{st N:Nat}(hinj:∀ x y,x<N→y<N→gi B x=gi B y→0≤gi B x→x=y):∀ t,t≤N→(Cr.selL B st N t).Pairwise (· ≠ ·)
 | 0,_=>List.Pairwise.nil
 | t+1,ht=>by
   have ih:=sel_nodup hinj (st:=st) t (by omega)
   by_cases h0:0≤Cr.rgV B st N t
   · rw [Cr.selL_step h0,List.pairwise_append]
     refine⟨ih,List.pairwise_singleton _ _,fun a ha b hb e=>?_⟩
     rw [List.mem_singleton]at hb
     obtain⟨i,hi,hia,-⟩:=sel_at t a ha
     rw [hb,hia]at e
     unfold Cr.rgV at e h0
     have hN:0<N:=by omega
     have h2:=hinj _ _ (Nat.mod_lt _ hN) (Nat.mod_lt _ hN) e (by rw [e];exact h0)
     have:=mod_add_inj (by omega) (by omega) h2
     omega
   · rw [Cr.selL_skip (by omega)]
     exact ih
theorem nodup_le:∀ {l m:List Int},l.Pairwise (· ≠ ·)→(∀ x,x ∈ l→x ∈ m)→l.length≤m.length
 | [],m,_,_=>Nat.zero_le _
 | x :: l,m,h,hs=>by
   have hx:=hs x (List.mem_cons_self ..)
   rw [List.pairwise_cons]at h
   have:=nodup_le (m:=m.erase x) h.2 (fun y hy=>(List.mem_erase_of_ne (fun e=>h.1 y hy e.symm)).2 (hs y (List.mem_cons_of_mem _ hy)))
   rw [List.length_erase_of_mem hx]at this
   have hp:0<m.length:=List.length_pos_of_mem hx
   simp only [List.length_cons]
   omega
def posU(k f:Nat):List Int:=(List.range' f (k+4 - f) ++ List.range' (k+4+f) (k+4 - f) ++ List.range' (2*(k+4)) (k+4)).map (fun q:Nat=>(q:Int))
theorem posU_len{k f:Nat}(hf:f<k):(posU k f).length=3*(k+4) - 2*f:=by
 unfold posU
 simp only [List.length_map,List.length_append,List.length_range']
 omega
theorem posU_mem{k f:Nat}(hf:f<k){x:Int}:x ∈ posU k f↔∃ p:Nat,x=(p:Int)∧p<3*(k+4)∧¬ isF k f p:=by
 unfold posU isF
 rw [List.mem_map]
 simp only [List.mem_append,List.mem_range'_1]
 constructor
 · rintro⟨p,h,rfl⟩
   exact⟨p,rfl,by omega,by omega⟩
 · rintro⟨p,rfl,h1,h2⟩
   exact⟨p,by omega,rfl⟩
theorem posU_nodup{k f:Nat}(hf:f<k):(posU k f).Pairwise (· ≠ ·):=by
 unfold posU
 rw [List.pairwise_map]
 have hr:∀ a n,(List.range' a n).Pairwise (fun x y:Nat=>(x:Int)≠(y:Int)):=fun a n=>(List.pairwise_lt_range' (s:=a) (n:=n) (step:=1)).imp (fun h e=>by omega)
 rw [List.pairwise_append,List.pairwise_append]
 refine⟨⟨hr _ _,hr _ _,fun a ha b hb=>?_⟩,hr _ _,fun a ha b hb=>?_⟩
 · rw [List.mem_range'_1]at ha hb
   omega
 · rw [List.mem_append,List.mem_range'_1,List.mem_range'_1]at ha
   rw [List.mem_range'_1]at hb
   omega
theorem lap{k f st:Nat}(hf:f<k):(Cr.selL (Cr.bufL k f) st (3*Cr.nB k) (3*Cr.nB k)).length=3*(k+4) - 2*f∧(Cr.selL (Cr.bufL k f) st (3*Cr.nB k) (3*Cr.nB k)).Pairwise (· ≠ ·)∧∀ x,x ∈ Cr.selL (Cr.bufL k f) st (3*Cr.nB k) (3*Cr.nB k)↔x ∈ posU k f:=by
 have hg:∀ x,x<3*Cr.nB k→gi (Cr.bufL k f) x=Cr.vX k f x:=fun x hx=>Cr.bufT_gi k f _ x hx
 have hN:0<3*Cr.nB k:=by have:=Cr.nB_pos (k:=k);omega
 have hnd:=sel_nodup (B:=Cr.bufL k f) (st:=st) (N:=3*Cr.nB k) (fun x y hx hy he h0=>by
  rw [hg x hx]at he h0
  rw [hg y hy]at he
  exact vX_inj hx hy he h0) _ (Nat.le_refl _)
 have h1:∀ x,x ∈ Cr.selL (Cr.bufL k f) st (3*Cr.nB k) (3*Cr.nB k)→x ∈ posU k f:=fun x hx=>by
  obtain⟨i,hi,he,h0⟩:=sel_at _ x hx
  unfold Cr.rgV at he
  rw [hg _ (Nat.mod_lt _ hN)]at he
  rw [posU_mem hf,he]
  exact vX_nf hf (Nat.mod_lt _ hN) (by rw [← he];exact h0)
 have h2:∀ x,x ∈ posU k f→x ∈ Cr.selL (Cr.bufL k f) st (3*Cr.nB k) (3*Cr.nB k):=fun x hx=>by
  obtain⟨p,rfl,hp,hnf⟩:=(posU_mem hf).1 hx
  obtain⟨y,hy,he⟩:=vX_on hf hp hnf
  obtain⟨i,hi,hm⟩:=mod_add_on (st:=st) hy
  have e:Cr.rgV (Cr.bufL k f) st (3*Cr.nB k) i=(p:Int):=by
   unfold Cr.rgV
   rw [hm,hg y hy,he]
  have:=sel_of (B:=Cr.bufL k f) (st:=st) (N:=3*Cr.nB k) _ i hi (by rw [e];omega)
  rw [e]at this
  exact this
 refine⟨?_,hnd,fun x=>⟨h1 x,h2 x⟩⟩
 rw [← posU_len hf]
 exact Nat.le_antisymm (nodup_le hnd h1) (nodup_le (posU_nodup hf) h2)
end Go.Proofs.YtkdfefpnhaebfaaGreat
