/- Bundle. Conditions: none. -/
import Derived.Test.YthmhogdceolkdaaGreatBqak
import Derived.Test.YthmhogdceolkdaaGreatBqaj
import Derived.Test.YthmhogdceolkdaaGreatBqag
import Derived.Test.YthmhogdceolkdaaGreatBqah
import Derived.Test.YthmhogdceolkdaaGreatBqaq
import Derived.Test.YthmhogdceolkdaaGreatBqau
import Derived.RangeFuncNested
import Derived.RangeFuncBound
import Derived.RangeFuncCalls
import Derived.RangeFuncLeaves
import Derived.Shelf.Abstract
import Derived.Shelf.RegionOpen
import Derived.OwnWalkIn
import Derived.TacticsInMore
import Derived.LoopNIn
import Derived.LoopIn
import Derived.RangeFuncBox
import Derived.OrdersIn
set_option linter.unusedVariables false
set_option linter.unusedSimpArgs false
namespace Go.Proofs.YthmhogdceolkdaaGreat.Tu
open Tryz
open Go.RowKit Go.Shelf
attribute [local go_sem] Oper.semAt_some
set_option maxRecDepth 100000
set_option maxHeartbeats 1000000
section
variable {F : Fence} {n : Nat} {P : Program} {Q : Exit -> Act -> World -> Prop} {a : Act} {w : World}
theorem wpIn_scope_straight{c:Code}(hro:F.round=none)(h:c.wpIn F n P (Exit.noGoto Q) a w):(Code.scope c).wpIn F n P Q a w:=by
 intro b k cs hb1 hb hr;have hn:b.roundOf=none:=by rw [hb1,hro]
 have h0:(lone (b.atR a (.code (.scope c) :: k)) cs w).fenced P F:=fenced_calm hb hr rfl;have s0:step P (lone (b.atR a (.code (.scope c) :: k)) cs w)= .next (lone (b.atR a (.code c :: .inScope c :: k)) cs w):=by
  rw [Frame.atR_of_none hn,Frame.atR_of_none hn];exact step_scope
 have s1:∀ a₁ w₁,step P (lone (b.atR a₁ (.inScope c :: k)) cs w₁)= .next (lone (b.atR a₁ k) cs w₁):=fun a₁ w₁=>by
  rw [Frame.atR_of_none hn,Frame.atR_of_none hn];exact step_inScope
 obtain⟨e,a₁,w₁,hq,harr⟩:=h b (.inScope c :: k) cs hb1 hb hr;cases e with
 | normal=>exact⟨.normal,a₁,w₁,hq,.of_steps (.one h0 s0) (StepsIn.trans harr (.one (fenced_calm hb hr rfl) (s1 a₁ w₁)))⟩
 | exit id=>exact⟨.exit id,a₁,w₁,hq,fun k' hk=>StepsIn.trans (.one h0 s0) (harr.1 k' (by simp [exitTo,hk])),fun hs=>by rw [hn]at hs;cases hs⟩
 | goto l=>exact hq.elim
 | ret=>exact⟨_,a₁,w₁,hq,.of_steps (.one h0 s0) harr⟩
 | panic ch=>exact⟨_,a₁,w₁,hq,.of_steps (.one h0 s0) harr⟩
 | outgrown=>exact⟨_,a₁,w₁,hq,.of_steps (.one h0 s0) harr⟩
end
def flatP(ps:List (Int × Int)):List Value:=ps.flatMap fun x=>[.int .i64 x.1,.int .i64 x.2]
theorem flatP_get:∀ (ps:List (Int × Int)) (j:Nat) (x:Int × Int),ps[j]?=some x->(flatP ps)[2*j]?=some (.int .i64 x.1)/\(flatP ps)[2*j+1]?=some (.int .i64 x.2)
 | [],j,x,h=>by cases h
 | p :: ps,0,x,h=>by
   simp at h;subst h;exact⟨rfl,rfl⟩
 | p :: ps,j+1,x,h=>by
   have h':ps[j]?=some x:=by simpa using h
   obtain⟨h1,h2⟩:=flatP_get ps j x h';have e:flatP (p :: ps)= .int .i64 p.1 :: .int .i64 p.2 :: flatP ps:=rfl;rw [e,show 2*(j+1)=2*j+1+1 by omega,show 2*j+1+1+1=2*j+1+1+1 from rfl];exact⟨by rw [List.getElem?_cons_succ,List.getElem?_cons_succ];exact h1,by rw [List.getElem?_cons_succ,List.getElem?_cons_succ];exact h2⟩
def stepsP(k code:Nat):List (Int × Int):=((List.range k).map fun j=>(gi (osL k code) j,((code*(k+4)+j:Nat):Int))) ++ [((atN k code:Int),((k+4+atN k code:Nat):Int)),(((2*(k+4)+atN k code:Nat):Int),((atN k code+1:Nat):Int)),(((k+4+atN k code+1:Nat):Int),((2*(k+4)+atN k code+1:Nat):Int))]
theorem stepsP_len(k code:Nat):(stepsP k code).length=k+3:=by simp [stepsP]
theorem stepsP_flat(k code:Nat):flatP (stepsP k code)=stepsL k code:=by
 unfold flatP stepsP stepsL pairL tailL;rw [List.flatMap_append,List.flatMap_map];rfl
def KeepG(g:Nat)(A B:World):Prop:=B.heap[g]?=A.heap[g]?/\A.heap.size<=B.heap.size
theorem KeepG.refl(g:Nat)(A:World):KeepG g A A:=⟨rfl,Nat.le_refl _⟩
theorem KeepG.trans{g:Nat}{A B C:World}(h:KeepG g A B)(k:KeepG g B C):KeepG g A C:=⟨k.1.trans h.1,Nat.le_trans h.2 k.2⟩
theorem KeepG.alloc{g:Nat}{A:World}(h:g<A.heap.size)(o:Obj):KeepG g A (A.alloc o):=⟨heap_alloc_old (h:=h) ..,by simp⟩
theorem KeepG.grown{g:Nat}{A B:World}{row:Option Nat}(hg:A.grownBy B row)(h:g<A.heap.size)(hne:some g≠row):KeepG g A B:=⟨hg.block g h hne,hg.size⟩
theorem keepG_b{g:Nat}{w:World}(hn:g<w.heap.size)(W:World)(l:Nat)(o o':Obj)(hl:w.heap.size<=l)(h:W.heap[l]?=some o)(_:o.isCells=false)(_:o.isWalk=false):KeepG g W (W.putObj l o'):=by
 have hlt:=(Array.getElem?_eq_some_iff.1 h).1;have hg:=grownBy_putObj' W l o';exact⟨hg.block g (by omega) (by intro e;have:=Option.some.inj e;omega),hg.size⟩
theorem Rdv.keepg{w w':World}{g n c:Nat}{vs:List Value}(h:Rdv w (some ⟨g,0,none⟩) n c vs)(hk:KeepG g w w'):Rdv w' (some ⟨g,0,none⟩) n c vs:=by
 refine⟨h.len,h.le,h.cm,h.nil,h.spot,fun hc a ha=>Nat.lt_of_lt_of_le (h.lt hc a ha) hk.2,fun j v hj=>?_⟩;rw [<- h.at_ j v hj];exact World.cell?_of_block (by rw [adr_some];exact hk.1)
def S4Inv(N:Nat)(ps:List (Int × Int))(g:Nat)(W:World)(J:List (Int × Int)->World->Prop)(i:Value)(wr:World):Prop:=∃ k:Nat,k<=N/\i= .int .i64 k/\J (ps.take k) wr/\KeepG g W wr
def S4Post(ps:List (Int × Int))(J Jx:List (Int × Int)->World->Prop)(e:Ending)(W':World):Prop :=
 (∃ v,e= .returned v)/\((∃ ys,ys=ps/\J ys W')\/(∃ pre,(∃ k,k<=ps.length/\pre=ps.take k)/\Jx pre W'))
theorem takeP_succ(ps:List (Int × Int))(k:Nat)(h:k<ps.length):ps.take (k+1)=ps.take k ++ [ps[k]]:=by
 rw [List.take_succ_eq_append_getElem h]
theorem steps4_in(F:Fence)(m:Nat)(hF:F.fn 331)(hro:F.round=none)(hm:1<=m)(l Bs n₀ g N c:Nat)(ps:List (Int × Int))(w0:World)(hR:Rdv w0 (some ⟨g,0,none⟩) (2*N) (2*N) (flatP ps))(hN:ps.length=N)(hNb:N<=100000)(h0n:w0.heap.size=n₀)(J Jx:List (Int × Int)->World->Prop)
 (W:World) (hW:Below n₀ w0 W) (hA:AbidesFrom W.heap.size J)
 (hY:∀ pre x W,J pre W->pre.length<N->YieldAt F (m - 1) prog l #[.int .i64 x.1,.int .i64 x.2] W fun e W' =>
   (e= .returned (.bool true)/\J (pre ++ [x]) W'/\KeepG g W W')\/(e= .returned (.bool false)/\Jx (pre ++ [x]) W'))
 (hBs:W.cell? ⟨Bs,0,none⟩=some (.slice (some ⟨g,0,none⟩) N c)) (h0:J [] W) :
 CallsIn F m prog 331 #[.func (.yield l) #[] #[],.pointer (some ⟨Bs,0,none⟩)] W (S4Post ps J Jx):=by
 have HR:=aq (Rdv.below hR (by rw [h0n];exact hW));have HN:=aq hN;clear hN;refine callsIn_of_wp func331 rfl hF ?_ hro;simp only [ntmps331,List.size_toArray,List.length_cons,List.length_nil,Nat.reduceAdd,Nat.reduceSub,Array.replicate_succ,Array.replicate_zero,List.push_toArray,List.append_toArray,List.nil_append,List.cons_append];refine wpIn_scope_straight hro ?_;refine wpIn_seq ?_;refine wpIn_label ?_;simp only [Exit.then];gi_wp2;gi_loopw [7] (fun i wr=>S4Inv N ps g W J i wr) (fun i _=>N - (intOf i).toNat)
 case atStart=>exact⟨0,Nat.zero_le _,rfl,h0,KeepG.refl _ _⟩
 case round =>
  obtain⟨k,hk,rfl,hJs,hnx⟩:=hrel;by_cases hlt:k<N
  . have hkl:k<ps.length:=by rw [HN.o];exact hlt
    have hRr:=Rdv.keepg HR.o hnx;have hglt:g<wr.heap.size:=hRr.lt (by omega) _ rfl;obtain⟨f0,f1⟩:=flatP_get ps k ps[k] (List.getElem?_eq_getElem hkl);have hc0:=hRr.at_ _ _ f0;have hc1:=hRr.at_ _ _ f1;simp only [adr_some,Nat.zero_add]at hc0 hc1;have hix:=fun W=>ix75 g N c hlt .i64 W;have hJa:J (ps.take k) (wr.alloc (.cells #[.int .i64 ps[k].1,.int .i64 ps[k].2] 49)):=by
     exact hA _ _ _ none hJs (World.grownBy_alloc _ _ _) (fun r e=>by cases e)
    obtain⟨fn,tmps,assign,body,hy,hRd⟩:=hY _ ps[k] _ hJa (by rw [List.length_take,HN.o];omega);have HF0:=aq f0;clear f0 f1 hRr;generalize hx1:ps[k].1=x1 at *;generalize hx2:ps[k].2=x2 at *;gi_wp2;refine hRd.mono ?_;rintro e W3 (⟨rfl,hJ3,hk3⟩ | ⟨rfl,hJx3⟩)
    . gi_wp2
      go_roundw
      case rel=>exact⟨k+1,by omega,by simp,by rw [takeP_succ _ _ hkl];exact hJ3,hnx.trans ((KeepG.alloc hglt _).trans hk3)⟩
      case measure=>simp [intOf];omega
    . gi_wp2
      go_end0;exact⟨⟨_,rfl⟩,.inr ⟨_,⟨k+1,by omega,(takeP_succ _ _ hkl).symm⟩,hJx3⟩⟩
  . obtain rfl:k=N:=by omega
    gi_wp2;go_end0;exact⟨⟨_,rfl⟩,.inl ⟨_,List.take_of_length_le (Nat.le_of_eq HN.o),hJs⟩⟩
theorem steps4_stops(F:Fence)(m:Nat)(hF:F.fn 331)(hro:F.round=none)(hm:1<=m)(Bs n₀ g N c:Nat)(ps:List (Int × Int))(w0 w:World)(hR:Rdv w0 (some ⟨g,0,none⟩) (2*N) (2*N) (flatP ps))(hN:ps.length=N)(hNb:N<=100000)(h0n:w0.heap.size=n₀)(hW0:Below n₀ w0 w)
 (hBs:Bs<w.heap.size) (hc:w.cell? ⟨Bs,0,none⟩=some (.slice (some ⟨g,0,none⟩) N c)) :
 SeqStopsK F m prog 331 #[.pointer (some ⟨Bs,0,none⟩)] (fun x:Int × Int=>#[Value.int .i64 x.1,.int .i64 x.2]) (KeepG g) (fun ys=>ys=ps) (fun pre=>∃ k,k<=ps.length/\pre=ps.take k) N w:=fun l J Jx W hW hA _ hY h0 =>
 steps4_in F m hF hro hm l Bs n₀ g N c ps w0 hR hN hNb h0n J Jx W (hW0.trans (hW.mono (by have:=hW0.size;omega))) hA hY ((hW.cell (p:=⟨Bs,0,none⟩) hBs).trans hc) h0
end Go.Proofs.YthmhogdceolkdaaGreat.Tu
namespace Go.Proofs.YthmhogdceolkdaaGreat.Tu
open Tryz
open Go.RowKit
end Go.Proofs.YthmhogdceolkdaaGreat.Tu
namespace Go.Proofs.YthmhogdceolkdaaGreat
open Tryz
open Go.RowKit
attribute [local go_sem] Oper.semAt_some
set_option maxRecDepth 100000
def gIni(r s c:Int):Int:=r*16384+s % 10*512+c
theorem ginit_ok(r s c:Int)(w:World)(hr:0<=r/\r<=65535)(hs:0<=s/\s<1073741824)(hc:0<=c/\c<=503):Calls prog 142 #[.int .i64 r,.int .i64 s,.int .i64 c] w fun e w'=>e= .returned (.tuple #[.int .u32 (gIni r s c),.int .i64 0])/\w=w':=by
 have h1:¬ r<0:=by omega
 have h2:¬ 65535<r:=by omega
 have h3:¬ s<0:=by omega
 have h4:¬ 1073741824<=s:=by omega
 have h5:¬ c<0:=by omega
 have h6:¬ 503<c:=by omega
 go_enter func142,ntmps142;go_wp2;go_ret2;exact⟨rfl,rfl⟩
def gO(a b:Int):Int:=bits .and .u32 (bits .xor .u32 a b) 1 % 256
def gA(a:Int):Int:=bits .or .u32 (a / 2) (bits .and .u32 (bits .xor .u32 (a / 8) a) 1*1073741824 % 4294967296)
def gB(b:Int):Int:=bits .or .u32 (b / 2) (bits .and .u32 (bits .xor .u32 (bits .xor .u32 (bits .xor .u32 (b / 8) (b / 4)) (b / 2)) b) 1*1073741824 % 4294967296)
theorem gO_bit(a b:Int):gO a b=0\/gO a b=1:=by
 unfold gO;generalize bits .xor .u32 a b=x;have h:bits .and .u32 x 1=(((BitVec.ofInt 32 x).toNat % 2:Nat):Int):=by
  show IntKind.u32.wrap ((BitVec.ofInt 32 x &&& BitVec.ofInt 32 1).toNat:Int)=_;rw [BitVec.toNat_and,show(BitVec.ofInt 32 1).toNat=1 from rfl,Nat.and_one_is_mod,IntKind.wrap_u32];omega
 rw [h];omega
theorem grown_tr{A B C:World}{r:Option Nat}(h:A.grownBy B none)(k:B.grownBy C r):A.grownBy C r :=
 ⟨k.os.trans h.os,k.tape.trans h.tape,k.output.trans h.output,Nat.le_trans h.size k.size,fun i hi hr=>(k.block i (Nat.lt_of_lt_of_le hi h.size) hr).trans (h.block i hi nofun)⟩
theorem grown_tr2{A B C:World}{r:Option Nat}(h:A.grownBy B r)(k:B.grownBy C r):A.grownBy C r :=
 ⟨k.os.trans h.os,k.tape.trans h.tape,k.output.trans h.output,Nat.le_trans h.size k.size,fun i hi hr=>(k.block i (Nat.lt_of_lt_of_le hi h.size) hr).trans (h.block i hi hr)⟩
theorem gnext_any(RB:Nat)(a b:Int)(W:World)(h:Blk W RB 356 [.int .u32 a,.int .u32 b]):Calls prog 309 #[.pointer (some ⟨RB,0,none⟩)] W fun e w'=>e= .returned (.int .u8 (gO a b))/\Blk w' RB 356 [.int .u32 (gA a),.int .u32 (gB b)]/\W.grownBy w' (some RB):=by
 have c0:=h.cell (j:=0) (v:=.int .u32 a) rfl;have c1:=h.cell (j:=1) (v:=.int .u32 b) rfl;have f0:=h.frozen 0;have f1:=h.frozen 1;go_enter func309,ntmps309;go_wp2_with fail;go_quiet (fail);have h1:Blk (W.drewN nq) RB 356 [.int .u32 a,.int .u32 b]:=h;have HB1:=aq (show W.grownBy (W.drewN nq) none from⟨rfl,rfl,rfl,Nat.le_refl _,fun _ _ _=>rfl⟩);clear c0 c1 f0 f1;generalize W.drewN nq=w1 at *;have c0:=h1.cell (j:=0) (v:=.int .u32 a) rfl;have c1:=h1.cell (j:=1) (v:=.int .u32 b) rfl;go_wp2_with fail;go_quiet (fail);have h2:Blk (w1.drewN nq) RB 356 [.int .u32 a,.int .u32 b]:=h1;have HB2:=aq (show w1.grownBy (w1.drewN nq) none from⟨rfl,rfl,rfl,Nat.le_refl _,fun _ _ _=>rfl⟩);clear c0 c1;generalize w1.drewN nq=w2 at *;have c0:=h2.cell (j:=0) (v:=.int .u32 a) rfl;have c1:=h2.cell (j:=1) (v:=.int .u32 b) rfl;go_wp2_with fail;go_quiet (fail);have h3:Blk (w2.drewN nq) RB 356 [.int .u32 a,.int .u32 b]:=h2;have HB3:=aq (show w2.grownBy (w2.drewN nq) none from⟨rfl,rfl,rfl,Nat.le_refl _,fun _ _ _=>rfl⟩);clear c0 c1;generalize w2.drewN nq=w3 at *;have c0:=h3.cell (j:=0) (v:=.int .u32 a) rfl;have f0:=h3.frozen 0;have c1:=h3.cell (j:=1) (v:=.int .u32 b) rfl;have f1:=h3.frozen 1;go_wp2;go_ret;exact⟨rfl,(h3.set 0 _).set 1 _,grown_tr HB1.o (grown_tr HB2.o (grown_tr HB3.o (grown_tr2 (grownBy_set w3 RB 0 _) (grownBy_set _ RB 1 _))))⟩
def gR(init:Int):Nat->Int × Int
 | 0=>(1,init)
 | n+1=>(gA (gR init n).1,gB (gR init n).2)
def gSq(init:Int)(j:Nat):Int:=gO (gR init (1600+j)).1 (gR init (1600+j)).2
theorem gSq_bit(init:Int)(j:Nat):gSq init j=0\/gSq init j=1:=gO_bit _ _
theorem gbits_any(init:Int)(w:World):Calls prog 268 #[.int .u32 init] w fun e w'=>e= .returned (.func (.func 308) #[] #[.pointer (some ⟨w.heap.size,0,none⟩)])/\Blk w' w.heap.size 143 [.int .u32 init]/\Below w.heap.size w w':=by
 have hmf:∀ (fn:Fn) (first cap:Array Value) (w:World),(Instr.makeFunc fn first cap).run prog w= .ok (.func fn first cap) w:=fun _ _ _ _=>rfl;go_enter func268,ntmps268;go_wp2;go_ret;exact⟨rfl,Blk.new w [.int .u32 init] _ rfl,(Below.refl _ w).alloc (Nat.le_refl _) _⟩
open Go.Shelf
set_option maxHeartbeats 2000000
def KpT(ts:List TypeId)(X Y:World):Prop:=X.heap.size<=Y.heap.size/\∀ k t cs,t ∈ ts->Blk X k t cs->Blk Y k t cs
theorem KpT.trans{ts:List TypeId}{A B C:World}(h:KpT ts A B)(k:KpT ts B C):KpT ts A C:=⟨Nat.le_trans h.1 k.1,fun i t cs ht hb=>k.2 i t cs ht (h.2 i t cs ht hb)⟩
theorem KpT.put{ts:List TypeId}{W:World}{l:Nat}{o:Obj}(o':Obj)(h:W.heap[l]?=some o)(ho:o.isCells=false):KpT ts W (W.putObj l o'):=by
 have hg:=grownBy_putObj' W l o';refine⟨hg.size,fun k t cs ht hb=>(hg.block k hb.lt (fun e=>?_)).trans hb⟩;have e2:k=l:=Option.some.inj e.symm |>.symm ▸ rfl;rw [<- e2]at h;have:=(show W.heap[k]?=_ from hb).symm.trans h;rw [<- Option.some.inj this]at ho;cases ho
theorem KpT.grown{ts:List TypeId}{W W':World}{b:Nat}{t:TypeId}{cs:Array Value}{f:Nat × Nat}(hg:W.grownBy W' (some b))(hb:W.heap[b]?=some (.cells cs t f))(ht:t ∉ ts):KpT ts W W' :=
 ⟨hg.size,fun k t' cs' ht' hk=>(hg.block k hk.lt (fun e=>by
   have e2:k=b:=Option.some.inj e.symm |>.symm ▸ rfl;rw [<- e2]at hb;have:=(show W.heap[k]?=_ from hk).symm.trans hb;simp only [Option.some.injEq,Obj.cells.injEq]at this
   exact ht (this.2.1 ▸ ht'))).trans hk⟩
def encB(x:Int):Array Value:=#[.int .u8 x]
def GsI(J:List Int->World->Prop)(W0:World)(init:Int)(IB RB:Nat)(i:Value)(wr:World):Prop :=
 ∃ (n:Nat) (pre:List Int),i= .int .i64 (n:Int)/\J pre wr/\pre.length=n - 1600/\Blk wr IB 143 [.int .u32 init]/\Blk wr RB 356 [.int .u32 (gR init n).1,.int .u32 (gR init n).2]/\W0.heap.size<=wr.heap.size
theorem gold_in(l:Nat)(init:Int)(IB T:Nat)(hi:init / 2147483648=0)(hT0:T<=200000)(Kp:Int->World->World->Prop)(W:World)(hI:Blk W IB 143 [.int .u32 init])
 (hkp:∀ x X Y,Kp x X Y->KpT [143,356] X Y)
 (J Jx:List Int->World->Prop) (hJ:Cr.ClB J) (hJr:Cr.ClR W.heap.size [356] J)
 (hY:∀ pre x W1,J pre W1->x=gSq init pre.length->YieldAt Fence.wide 1 prog l (encB x) W1 fun e W' =>
   (e= .returned (.bool true)/\J (pre ++ [x]) W'/\Kp x W1 W')\/(e= .returned (.bool false)/\Jx (pre ++ [x]) W'))
 (hT:∀ pre W,J pre W->pre.length<T) (h0:J [] W) :
 CallsIn Fence.wide 2 prog 308 #[.func (.yield l) #[] #[],.pointer (some ⟨IB,0,none⟩)] W fun e W'=>(∃ v,e= .returned v)/\((∃ xs:List Int,False/\J xs W')\/(∃ pre,True/\Jx pre W')):=by
 have cI:=hI.cell (j:=0) (v:=.int .u32 init) rfl;have HKP:=aq hkp;have HT:=aq hT;have HY:=aq hY;have HI0:=aq hI;have HJ1:=aq (hJ.alloc (.cells #[.int .u32 1,.int .u32 init] 356) h0);have HI1:=aq (hI.alloc (.cells #[.int .u32 1,.int .u32 init] 356));have HR1:=aq (Blk.new W [.int .u32 1,.int .u32 init] 356 rfl);have HZ1:Hid (W.heap.size<=(W.alloc (.cells #[.int .u32 1,.int .u32 init] 356)).heap.size):=aq (by simp);have HJc:=aq hJr;clear hkp hT hI h0 hY hJ hJr;refine callsIn_of_wp func308 rfl trivial ?_ rfl;simp only [ntmps308,List.size_toArray,List.length_cons,List.length_nil,Nat.reduceAdd,Nat.reduceSub,Array.replicate_succ,Array.replicate_zero,List.push_toArray,List.append_toArray,List.nil_append,List.cons_append];refine Cr.wpIn_scope_straight rfl ?_;gi_wp2_with fail;obtain⟨RB,hRB⟩:∃ RB,RB=W.heap.size:=⟨_,rfl⟩
 have HRB:=aq hRB;have HIR:Hid (IB≠RB):=aq (by have:=HI0.o.lt;omega);rw [<- hRB]at HR1 ⊢;clear hRB cI;generalize W.alloc (.cells #[.int .u32 1,.int .u32 init] 356)=W1 at *;refine wpIn_label ?_;rename_i K hK;refine hK _ _ ?_;clear hK K;gi_wp2_with fail;gi_loopw [4] (fun i wr=>GsI J W init IB RB i wr) (fun i _=>1600+T - (intOf i).toNat)
 case atStart=>exact⟨0,[],rfl,HJ1.o,rfl,HI1.o,HR1.o,HZ1.o⟩
 case round =>
  obtain⟨n,pre,rfl,hJs,hpl,hIs,hRs,hz⟩:=hrel;have hlt:=HT.o pre wr hJs;have cI:=hIs.cell (j:=0) (v:=.int .u32 init) rfl;have HX:=aq (gnext_any RB _ _ wr hRs);have HRs:=aq hRs;have HJs:=aq hJs;have HIs:=aq hIs;have HPL:=aq hpl;have HZs:=aq hz;have hn9:n<=201600:=by omega
  have hmz:n<1600+T:=by omega
  clear hJs hIs hRs hz hpl hlt;gi_wp2_with fail;refine⟨by simp [Fence.wide],?_⟩;refine CallsIn.mono (callsIn_wide.2 HX.o) ?_;rintro e w2 ⟨rfl,hR2,hg⟩;have HJ2:=aq (HJc.o pre wr w2 RB 356 _ _ (by rw [HRB.o];exact Nat.le_refl _) HJs.o HRs.o (by simp) hg);have HI2:Hid (Blk w2 IB 143 [.int .u32 init]):=aq ((hg.block IB HIs.o.lt (fun e=>HIR.o (by first | exact Option.some.inj e | exact(Option.some.inj e).symm))).trans HIs.o);have HR2:Hid (Blk w2 RB 356 [.int .u32 (gR init (n+1)).1,.int .u32 (gR init (n+1)).2]):=aq hR2;have HZ2:=aq (Nat.le_trans HZs.o hg.size);clear hR2 hg cI HX;by_cases hlt:n<1600
  . have hl9:(n:Int)<1600:=by omega
    gi_wp2_with fail;go_roundw
    case rel=>exact⟨n+1,pre,by go_num,HJ2.o,by rw [HPL.o];omega,HI2.o,HR2.o,HZ2.o⟩
    case measure=>simp [intOf];omega
  . have hl9:¬ (n:Int)<1600:=by omega
    obtain⟨fn,tmps,assign,body,hy,hRD⟩:=HY.o pre (gSq init pre.length) w2 HJ2.o rfl;have HGO:Hid (gSq init pre.length=gO (gR init n).1 (gR init n).2):=aq (by unfold gSq;rw [HPL.o,show 1600+(n - 1600)=n by omega]);rw [HGO.o]at hy hRD;unfold encB at hy;have HRD:=aq hRD;generalize gO (gR init n).1 (gR init n).2=ob at *;clear hRD;gi_wp2_with fail;refine HRD.o.mono ?_;rintro e W7 (⟨rfl,hJ7,hk7⟩ | ⟨rfl,hJx7⟩)
    . have hk:=HKP.o _ _ _ hk7
      have HI7:=aq (hk.2 _ _ _ (by simp) HI2.o);have HR7:=aq (hk.2 _ _ _ (by simp) HR2.o);have HZ7:=aq (Nat.le_trans HZ2.o hk.1);have HJ7:=aq hJ7;clear hk7 hk hJ7;gi_wp2;go_roundw
      case rel=>exact⟨n+1,pre ++ [ob],by go_num,HJ7.o,by rw [List.length_append,HPL.o];simp;omega,HI7.o,HR7.o,HZ7.o⟩
      case measure=>simp [intOf];omega
    . gi_wp2
      simp only [Exit.noGoto];go_end0;exact⟨⟨_,rfl⟩,.inr ⟨_,trivial,hJx7⟩⟩
theorem gold_seq(init:Int)(IB T:Nat)(hi:init / 2147483648=0)(hT0:T<=200000)(w:World)(hI:Blk w IB 143 [.int .u32 init]) :
 Cr.SeqT [356] 2 308 #[.pointer (some ⟨IB,0,none⟩)] encB (KpT [143,356]) (fun _=>False) (fun _=>True) (fun pre x=>x=gSq init pre.length) T w :=
 fun l J Jx W hb hJ _ hJr _ hY hT h0=>gold_in l init IB T hi hT0 (fun _=>KpT [143,356]) W (hI.below hb) (fun _ _ _ h=>h) J Jx hJ hJr hY hT h0
end Go.Proofs.YthmhogdceolkdaaGreat