/- Bundle. Conditions: none. -/
import Derived.Test.YtkdfefpnhaebfaaGreatBwoak
import Derived.Test.YtkdfefpnhaebfaaGreatBwoaj
import Derived.Test.YtkdfefpnhaebfaaGreatBwoag
set_option linter.unusedVariables false
set_option linter.unusedSimpArgs false
namespace Go.Proofs.YtkdfefpnhaebfaaGreat.Tu
open Go.RowKit Go.Shelf
attribute [local go_sem] Oper.semAt_some
set_option maxRecDepth 100000
set_option maxHeartbeats 2000000
section
variable {F : Fence} {n : Nat} {P : Program} {Q : Exit → Act → World → Prop} {a : Act} {w : World}
theorem wpIn_scope_straight{c:Code}(hro:F.round=none)(h:c.wpIn F n P (Exit.noGoto Q) a w):(Code.scope c).wpIn F n P Q a w:=by
 intro b k cs hb1 hb hr
 have hn:b.roundOf=none:=by rw [hb1,hro]
 have h0:(lone (b.atR a (.code (.scope c) :: k)) cs w).fenced P F:=fenced_calm hb hr rfl
 have s0:step P (lone (b.atR a (.code (.scope c) :: k)) cs w)= .next (lone (b.atR a (.code c :: .inScope c :: k)) cs w):=by
  rw [Frame.atR_of_none hn,Frame.atR_of_none hn];exact step_scope
 have s1:∀ a₁ w₁,step P (lone (b.atR a₁ (.inScope c :: k)) cs w₁)= .next (lone (b.atR a₁ k) cs w₁):=fun a₁ w₁=>by
  rw [Frame.atR_of_none hn,Frame.atR_of_none hn];exact step_inScope
 obtain⟨e,a₁,w₁,hq,harr⟩:=h b (.inScope c :: k) cs hb1 hb hr
 cases e with
 | normal=>exact⟨.normal,a₁,w₁,hq,.of_steps (.one h0 s0) (StepsIn.trans harr (.one (fenced_calm hb hr rfl) (s1 a₁ w₁)))⟩
 | exit id=>exact⟨.exit id,a₁,w₁,hq,fun k' hk=>StepsIn.trans (.one h0 s0) (harr.1 k' (by simp [exitTo,hk])),fun hs=>by rw [hn]at hs;cases hs⟩
 | goto l=>exact hq.elim
 | ret=>exact⟨_,a₁,w₁,hq,.of_steps (.one h0 s0) harr⟩
 | panic ch=>exact⟨_,a₁,w₁,hq,.of_steps (.one h0 s0) harr⟩
 | outgrown=>exact⟨_,a₁,w₁,hq,.of_steps (.one h0 s0) harr⟩
end
def flatP(ps:List (Int × Int)):List Value:=ps.flatMap fun x=>[.int .i64 x.1,.int .i64 x.2]
theorem flatP_get:∀ (ps:List (Int × Int)) (j:Nat) (x:Int × Int),ps[j]?=some x→(flatP ps)[2*j]?=some (.int .i64 x.1)∧(flatP ps)[2*j+1]?=some (.int .i64 x.2)
 | [],j,x,h=>by cases h
 | p :: ps,0,x,h=>by
   simp at h;subst h
   exact⟨rfl,rfl⟩
 | p :: ps,j+1,x,h=>by
   have h':ps[j]?=some x:=by simpa using h
   obtain⟨h1,h2⟩:=flatP_get ps j x h'
   have e:flatP (p :: ps)= .int .i64 p.1 :: .int .i64 p.2 :: flatP ps:=rfl
   rw [e,show 2*(j+1)=2*j+1+1 by omega,show 2*j+1+1+1=2*j+1+1+1 from rfl]
   exact⟨by rw [List.getElem?_cons_succ,List.getElem?_cons_succ];exact h1,by rw [List.getElem?_cons_succ,List.getElem?_cons_succ];exact h2⟩
def stepsP(k code:Nat):List (Int × Int):=((List.range k).map fun j=>(gi (osL k code) j,((code*(k+4)+j:Nat):Int))) ++ [((atN k code:Int),((k+4+atN k code:Nat):Int)),(((2*(k+4)+atN k code:Nat):Int),((atN k code+1:Nat):Int)),(((k+4+atN k code+1:Nat):Int),((2*(k+4)+atN k code+1:Nat):Int))]
theorem stepsP_len(k code:Nat):(stepsP k code).length=k+3:=by simp [stepsP]
theorem stepsP_flat(k code:Nat):flatP (stepsP k code)=stepsL k code:=by
 unfold flatP stepsP stepsL pairL tailL
 rw [List.flatMap_append,List.flatMap_map]
 rfl
def KeepG(g:Nat)(A B:World):Prop:=B.heap[g]?=A.heap[g]?∧A.heap.size≤B.heap.size
theorem KeepG.refl(g:Nat)(A:World):KeepG g A A:=⟨rfl,Nat.le_refl _⟩
theorem KeepG.trans{g:Nat}{A B C:World}(h:KeepG g A B)(k:KeepG g B C):KeepG g A C:=⟨k.1.trans h.1,Nat.le_trans h.2 k.2⟩
theorem KeepG.alloc{g:Nat}{A:World}(h:g<A.heap.size)(o:Obj):KeepG g A (A.alloc o):=⟨heap_alloc_old (h:=h) ..,by simp⟩
theorem KeepG.grown{g:Nat}{A B:World}{row:Option Nat}(hg:A.grownBy B row)(h:g<A.heap.size)(hne:some g≠row):KeepG g A B:=⟨hg.block g h hne,hg.size⟩
theorem keepG_b{g:Nat}{w:World}(hn:g<w.heap.size)(W:World)(l:Nat)(o o':Obj)(hl:w.heap.size≤l)(h:W.heap[l]?=some o)(_:o.isCells=false)(_:o.isWalk=false):KeepG g W (W.putObj l o'):=by
 have hlt:=(Array.getElem?_eq_some_iff.1 h).1
 have hg:=grownBy_putObj' W l o'
 exact⟨hg.block g (by omega) (by intro e;have:=Option.some.inj e;omega),hg.size⟩
theorem Rdv.keepg{w w':World}{g n c:Nat}{vs:List Value}(h:Rdv w (some ⟨g,0,none⟩) n c vs)(hk:KeepG g w w'):Rdv w' (some ⟨g,0,none⟩) n c vs:=by
 refine⟨h.len,h.le,h.cm,h.nil,h.spot,fun hc a ha=>Nat.lt_of_lt_of_le (h.lt hc a ha) hk.2,fun j v hj=>?_⟩
 rw [← h.at_ j v hj]
 exact World.cell?_of_block (by rw [adr_some];exact hk.1)
def S4Inv(N:Nat)(ps:List (Int × Int))(g:Nat)(W:World)(J:List (Int × Int)→World→Prop)(i:Value)(wr:World):Prop:=∃ k:Nat,k≤N∧i= .int .i64 k∧J (ps.take k) wr∧KeepG g W wr
def S4Post(ps:List (Int × Int))(J Jx:List (Int × Int)→World→Prop)(e:Ending)(W':World):Prop :=
 (∃ v,e= .returned v)∧((∃ ys,ys=ps∧J ys W')∨(∃ pre,(∃ k,k≤ps.length∧pre=ps.take k)∧Jx pre W'))
theorem takeP_succ(ps:List (Int × Int))(k:Nat)(h:k<ps.length):ps.take (k+1)=ps.take k ++ [ps[k]]:=by
 rw [List.take_succ_eq_append_getElem h]
theorem steps4_in(F:Fence)(m:Nat)(hF:F.fn 244)(hro:F.round=none)(hm:1≤m)(l Bs n₀ g N c:Nat)(ps:List (Int × Int))(w0:World)(hR:Rdv w0 (some ⟨g,0,none⟩) (2*N) (2*N) (flatP ps))(hN:ps.length=N)(hNb:N≤100000)(h0n:w0.heap.size=n₀)(J Jx:List (Int × Int)→World→Prop)
 (W:World) (hW:Below n₀ w0 W) (hA:AbidesFrom W.heap.size J)
 (hY:∀ pre x W,J pre W→pre.length<N→YieldAt F (m - 1) Tryz.prog l #[.int .i64 x.1,.int .i64 x.2] W fun e W' =>
   (e= .returned (.bool true)∧J (pre ++ [x]) W'∧KeepG g W W')∨(e= .returned (.bool false)∧Jx (pre ++ [x]) W'))
 (hBs:W.cell? ⟨Bs,0,none⟩=some (.slice (some ⟨g,0,none⟩) N c)) (h0:J [] W) :
 CallsIn F m Tryz.prog 244 #[.func (.yield l) #[] #[],.pointer (some ⟨Bs,0,none⟩)] W (S4Post ps J Jx):=by
 have HR:=Lib.hid (Rdv.below hR (by rw [h0n];exact hW))
 have HN:=Lib.hid hN
 clear hN
 refine callsIn_of_wp Tryz.func244 rfl hF ?_ hro
 simp only [Tryz.ntmps244,List.size_toArray,List.length_cons,List.length_nil,Nat.reduceAdd,Nat.reduceSub,Array.replicate_succ,Array.replicate_zero,List.push_toArray,List.append_toArray,List.nil_append,List.cons_append]
 refine wpIn_scope_straight hro ?_
 refine wpIn_seq ?_
 refine wpIn_label ?_
 simp only [Exit.then]
 gi_wp2
 gi_loopw [7] (fun i wr=>S4Inv N ps g W J i wr) (fun i _=>N - (intOf i).toNat)
 case atStart=>exact⟨0,Nat.zero_le _,rfl,h0,KeepG.refl _ _⟩
 case round =>
  obtain⟨k,hk,rfl,hJs,hnx⟩:=hrel
  by_cases hlt:k<N
  · have hkl:k<ps.length:=by rw [HN.out];exact hlt
    have hRr:=Rdv.keepg HR.out hnx
    have hglt:g<wr.heap.size:=hRr.lt (by omega) _ rfl
    obtain⟨f0,f1⟩:=flatP_get ps k ps[k] (List.getElem?_eq_getElem hkl)
    have hc0:=hRr.at_ _ _ f0
    have hc1:=hRr.at_ _ _ f1
    simp only [adr_some,Nat.zero_add]at hc0 hc1
    have hix:=fun W=>ix75 g N c hlt .i64 W
    have hJa:J (ps.take k) (wr.alloc (.cells #[.int .i64 ps[k].1,.int .i64 ps[k].2] 87)):=by
     exact hA _ _ _ none hJs (World.grownBy_alloc _ _ _) (fun r e=>by cases e)
    obtain⟨fn,tmps,assign,body,hy,hRd⟩:=hY _ ps[k] _ hJa (by rw [List.length_take,HN.out];omega)
    have HF0:=Lib.hid f0
    clear f0 f1 hRr
    generalize hx1:ps[k].1=x1 at *
    generalize hx2:ps[k].2=x2 at *
    gi_wp2
    refine hRd.mono ?_
    rintro e W3 (⟨rfl,hJ3,hk3⟩ | ⟨rfl,hJx3⟩)
    · gi_wp2
      go_roundw
      case rel=>exact⟨k+1,by omega,by simp,by rw [takeP_succ _ _ hkl];exact hJ3,hnx.trans ((KeepG.alloc hglt _).trans hk3)⟩
      case measure=>simp [intOf];omega
    · gi_wp2
      go_end0
      exact⟨⟨_,rfl⟩,.inr ⟨_,⟨k+1,by omega,(takeP_succ _ _ hkl).symm⟩,hJx3⟩⟩
  · obtain rfl:k=N:=by omega
    gi_wp2
    go_end0
    exact⟨⟨_,rfl⟩,.inl ⟨_,List.take_of_length_le (Nat.le_of_eq HN.out),hJs⟩⟩
theorem steps4_stops(F:Fence)(m:Nat)(hF:F.fn 244)(hro:F.round=none)(hm:1≤m)(Bs n₀ g N c:Nat)(ps:List (Int × Int))(w0 w:World)(hR:Rdv w0 (some ⟨g,0,none⟩) (2*N) (2*N) (flatP ps))(hN:ps.length=N)(hNb:N≤100000)(h0n:w0.heap.size=n₀)(hW0:Below n₀ w0 w)
 (hBs:Bs<w.heap.size) (hc:w.cell? ⟨Bs,0,none⟩=some (.slice (some ⟨g,0,none⟩) N c)) :
 SeqStopsK F m Tryz.prog 244 #[.pointer (some ⟨Bs,0,none⟩)] (fun x:Int × Int=>#[Value.int .i64 x.1,.int .i64 x.2]) (KeepG g) (fun ys=>ys=ps) (fun pre=>∃ k,k≤ps.length∧pre=ps.take k) N w:=fun l J Jx W hW hA _ hY h0 =>
 steps4_in F m hF hro hm l Bs n₀ g N c ps w0 hR hN hNb h0n J Jx W (hW0.trans (hW.mono (by have:=hW0.size;omega))) hA hY ((hW.cell (p:=⟨Bs,0,none⟩) hBs).trans hc) h0
end Go.Proofs.YtkdfefpnhaebfaaGreat.Tu
namespace Go.Proofs.YtkdfefpnhaebfaaGreat.Tu
open Go.RowKit
end Go.Proofs.YtkdfefpnhaebfaaGreat.Tu
