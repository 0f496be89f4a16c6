/- Bundle. Conditions: none. -/
import Derived.Test.YtkdfefpnhaebfaaGreatBwoam
set_option linter.unusedVariables false
set_option linter.unusedSimpArgs false
namespace Go.Proofs.YtkdfefpnhaebfaaGreat
open Go.RowKit
def swC(bo bb:Nat):List Value:=[.pointer (some ⟨bo,0,none⟩),.slice (some ⟨bb,0,none⟩) 16 16]
def frows(o:Ob)(j:Nat):List (List Int):=(List.range j).map o.f
theorem frows_len(o:Ob)(j:Nat):(frows o j).length=j:=by simp [frows]
theorem frows_succ(o:Ob)(j:Nat):frows o (j+1)=frows o j ++ [o.f j]:=by simp [frows,List.range_succ]
theorem frows_get(o:Ob){i j:Nat}(h:i<j):(frows o j)[i]?=some (o.f i):=by simp [frows,h]
def dec3(A1 A2 A3:Option Addr)(n:Nat):List Value:=[.slice A1 n n,.slice A2 n n,.slice A3 n n]
theorem dec3_one(A1 A2 A3:Option Addr)(n:Nat):∀ v ∈ dec3 A1 A2 A3 n,v.oneCell'=true:=by simp [dec3,Value.oneCell']
def fillL(g:Nat→Int)(n k:Nat):List Int:=(List.range n).map fun j=>if k≤j then g j else 0
theorem fill_len(g:Nat→Int)(n k:Nat):(fillL g n k).length=n:=by simp [fillL]
theorem fill_gi(g:Nat→Int)(n k j:Nat)(h:j<n):gi (fillL g n k) j=if k≤j then g j else 0:=by
 rw [gi_eq _ _ (by rw [fill_len];exact h)];simp [fillL]
theorem fill_end(g:Nat→Int)(n k:Nat)(h:n≤k):fillL g n k=List.replicate n 0 :=
 ext_gi (by simp [fillL]) fun j hj=>by
  rw [fill_len]at hj
  rw [fill_gi g n k j hj,if_neg (by omega),gi_eq _ _ (by simpa using hj)]
  simp
theorem fill_set(g:Nat→Int)(n k:Nat)(h:k<n):(fillL g n (k+1)).set k (g k)=fillL g n k :=
 ext_gi (by simp [fillL]) fun j hj=>by
  rw [List.length_set,fill_len]at hj
  rw [gi_set' _ _ _ _ (by rw [fill_len];exact hj),fill_gi g n k j hj,fill_gi g n (k+1) j hj]
  by_cases e:k=j
  · subst e;simp
  · rw [if_neg e]
    by_cases e2:k≤j
    · rw [if_pos e2,if_pos (by omega)]
    · rw [if_neg e2,if_neg (by omega)]
theorem fill_same(g:Nat→Int)(n k:Nat)(h:g k=0):fillL g n (k+1)=fillL g n k :=
 ext_gi (by simp [fillL]) fun j hj=>by
  rw [fill_len]at hj
  rw [fill_gi g n k j hj,fill_gi g n (k+1) j hj]
  by_cases e:k=j
  · subst e;rw [if_neg (by omega),if_pos (Nat.le_refl _),h]
  · by_cases e2:k≤j
    · rw [if_pos e2,if_pos (by omega)]
    · rw [if_neg e2,if_neg (by omega)]
theorem fill_all(g:Nat→Int)(n:Nat):fillL g n 0=(List.range n).map g:=by simp [fillL]
theorem fill_past(g:Nat→Int)(n k:Nat)(h:n≤k):fillL g n (k+1)=fillL g n k:=by rw [fill_end g n _ h,fill_end g n _ (by omega)]
def Ob.tN(o:Ob)(i:Nat):Int:=(gN o i 0 (o.f i) (o.b (i+1)) 16 - gN o i 1 (o.f i) (o.b (i+1)) 16).tdiv 2
def Ob.eN(o:Ob)(i:Nat):Int:=ext (o.tN i - gi o.s i - gi o.a i)
def Ob.bN(o:Ob)(i:Nat):Int:=if o.tN i<0 then 1 else 0
structure L2 (o:Ob) (S P A:Option Addr) (cs cp ca bo bb b0 b1 b3 b6 bg cap N7:Nat) (A1 A2 A3:Option Addr) (w:World) (wr:World) (m l1 l2 l3:List Int):Prop where
 sw:SwAt wr bo bb o S P A cs cp ca
 k1:Blk wr b1 271 (swC bo bb)
 mx:Mx wr b3 bg cap (frows o (o.s.length+1))
 dc:Blk wr b0 229 (dec3 A1 A2 A3 o.a.length)
 af:Blk wr b6 275 (ints8 m)
 o1:Own .i64 3 wr N7 A1 o.a.length o.a.length l1
 o2:Own .i64 3 wr N7 A2 o.a.length o.a.length l2
 o3:Own .u8 5 wr N7 A3 o.a.length o.a.length l3
 bl:Below b0 w wr
structure L2S (o:Ob) (S P A:Option Addr) (bo bb b0 b1 b3 b6 bg N7:Nat) (A1 A2 A3:Option Addr):Prop where
 hS:S≠none→blk S<b0
 hP:P≠none→blk P<b0
 hA:A≠none→blk A<b0
 h01:b0<b1
 ho:bo<b1
 hb:bb<b1
 h13:b1<b3
 hg:b3≤bg∧bg<b6
 h67:b6<N7
 h1:N7≤blk A1
 h2:N7≤blk A2
 h3:N7≤blk A3
 n12:blk A1≠blk A2
 n13:blk A1≠blk A3
 n23:blk A2≠blk A3
section
variable {o : Ob} {S P A : Option Addr} {cs cp ca bo bb b0 b1 b3 b6 bg cap N7 : Nat} {A1 A2 A3 : Option Addr} {w wr w' : World} {m m' l1 l2 l3 : List Int}
theorem L2.call(h:L2 o S P A cs cp ca bo bb b0 b1 b3 b6 bg cap N7 A1 A2 A3 w wr m l1 l2 l3)(hB:Below wr.heap.size wr w'):L2 o S P A cs cp ca bo bb b0 b1 b3 b6 bg cap N7 A1 A2 A3 w w' m l1 l2 l3:=by
 have h5:=h.dc.lt
 exact⟨h.sw.below hB,h.k1.below hB,h.mx.below hB,h.dc.below hB,h.af.below hB,Ownv.below h.o1 hB,Ownv.below h.o2 hB,Ownv.below h.o3 hB,h.bl.trans (hB.mono (by omega))⟩
theorem SwAt.grownX{W W':World}{g:Nat}(h:SwAt W bo bb o S P A cs cp ca)(hg:W.grownBy W' (some g))(h1:bo≠g)(h2:bb≠g)(h3:S≠none→blk S≠g)(h4:P≠none→blk P≠g)(h5:A≠none→blk A≠g):SwAt W' bo bb o S P A cs cp ca :=
 ⟨⟨h.o.blk.grown hg h1,Rdv.grown h.o.s hg (fun h=>by simpa using h3 h),Rdv.grown h.o.p hg (fun h=>by simpa using h4 h),Rdv.grown h.o.a hg (fun h=>by simpa using h5 h)⟩,h.b.grown hg h2⟩
theorem L2S.sw(hs:L2S o S P A bo bb b0 b1 b3 b6 bg N7 A1 A2 A3){W W':World}{g:Nat}(h:SwAt W bo bb o S P A cs cp ca)(hg:W.grownBy W' (some g))(hge:b1≤g):SwAt W' bo bb o S P A cs cp ca:=by
 have a1:=hs.h01
 have a2:=hs.ho
 have a3:=hs.hb
 exact h.grownX hg (by omega) (by omega) (fun h=>by have:=hs.hS h;omega) (fun h=>by have:=hs.hP h;omega) (fun h=>by have:=hs.hA h;omega)
theorem L2.put(h:L2 o S P A cs cp ca bo bb b0 b1 b3 b6 bg cap N7 A1 A2 A3 w wr m l1 l2 l3)(hs:L2S o S P A bo bb b0 b1 b3 b6 bg N7 A1 A2 A3){g:Nat}{k1 k2 k3:List Int}(hg:wr.grownBy w' (some g))(hge:b6≤g)
 (af:Blk w' b6 275 (ints8 m')) (o1:Own .i64 3 w' N7 A1 o.a.length o.a.length k1) (o2:Own .i64 3 w' N7 A2 o.a.length o.a.length k2)
 (o3:Own .u8 5 w' N7 A3 o.a.length o.a.length k3):L2 o S P A cs cp ca bo bb b0 b1 b3 b6 bg cap N7 A1 A2 A3 w w' m' k1 k2 k3:=by
 have a1:=hs.h01
 have a4:=hs.h13
 have a5:=hs.hg
 exact⟨hs.sw h.sw hg (by omega),h.k1.grown hg (by omega),h.mx.grown hg (by simp;omega),h.dc.grown hg (by omega),af,o1,o2,o3,h.bl.grown hg (by have:=h.dc.lt;omega) (fun k hk=>by cases hk;omega)⟩
theorem L2.set1(h:L2 o S P A cs cp ca bo bb b0 b1 b3 b6 bg cap N7 A1 A2 A3 w wr m l1 l2 l3)(hs:L2S o S P A bo bb b0 b1 b3 b6 bg N7 A1 A2 A3){i:Nat}(hi:i<o.a.length)(v:Int):L2 o S P A cs cp ca bo bb b0 b1 b3 b6 bg cap N7 A1 A2 A3 w (wr.setCell (adr A1 i) (.int .i64 v)) m (l1.set i v) l2 l3:=by
 obtain⟨h1,h2⟩:=h.o1.set_ hi v
 have q1:=hs.h1
 have q6:=hs.h67
 have n12:=hs.n12
 have n13:=hs.n13
 exact h.put hs h2 (by omega) (h.af.grown h2 (by omega)) h1 (Ownv.grown h.o2 h2 (fun _=>by simp;omega)) (Ownv.grown h.o3 h2 (fun _=>by simp;omega))
theorem L2.set2(h:L2 o S P A cs cp ca bo bb b0 b1 b3 b6 bg cap N7 A1 A2 A3 w wr m l1 l2 l3)(hs:L2S o S P A bo bb b0 b1 b3 b6 bg N7 A1 A2 A3){i:Nat}(hi:i<o.a.length)(v:Int):L2 o S P A cs cp ca bo bb b0 b1 b3 b6 bg cap N7 A1 A2 A3 w (wr.setCell (adr A2 i) (.int .i64 v)) m l1 (l2.set i v) l3:=by
 obtain⟨h1,h2⟩:=h.o2.set_ hi v
 have q1:=hs.h2
 have q6:=hs.h67
 have n12:=hs.n12
 have n23:=hs.n23
 exact h.put hs h2 (by omega) (h.af.grown h2 (by omega)) (Ownv.grown h.o1 h2 (fun _=>by simp;omega)) h1 (Ownv.grown h.o3 h2 (fun _=>by simp;omega))
theorem L2.set3(h:L2 o S P A cs cp ca bo bb b0 b1 b3 b6 bg cap N7 A1 A2 A3 w wr m l1 l2 l3)(hs:L2S o S P A bo bb b0 b1 b3 b6 bg N7 A1 A2 A3){i:Nat}(hi:i<o.a.length)(v:Int):L2 o S P A cs cp ca bo bb b0 b1 b3 b6 bg cap N7 A1 A2 A3 w (wr.setCell (adr A3 i) (.int .u8 v)) m l1 l2 (l3.set i v):=by
 obtain⟨h1,h2⟩:=h.o3.set_ hi v
 have q1:=hs.h3
 have q6:=hs.h67
 have n13:=hs.n13
 have n23:=hs.n23
 exact h.put hs h2 (by omega) (h.af.grown h2 (by omega)) (Ownv.grown h.o1 h2 (fun _=>by simp;omega)) (Ownv.grown h.o2 h2 (fun _=>by simp;omega)) h1
theorem L2.setm(h:L2 o S P A cs cp ca bo bb b0 b1 b3 b6 bg cap N7 A1 A2 A3 w wr m l1 l2 l3)(hs:L2S o S P A bo bb b0 b1 b3 b6 bg N7 A1 A2 A3)(hb:Blk w' b6 275 (ints8 m'))(h2:wr.grownBy w' (some b6)):L2 o S P A cs cp ca bo bb b0 b1 b3 b6 bg cap N7 A1 A2 A3 w w' m' l1 l2 l3:=by
 have q1:=hs.h1
 have q2:=hs.h2
 have q3:=hs.h3
 have q6:=hs.h67
 exact h.put hs h2 (Nat.le_refl _) hb (Ownv.grown h.o1 h2 (fun _=>by simp;omega)) (Ownv.grown h.o2 h2 (fun _=>by simp;omega)) (Ownv.grown h.o3 h2 (fun _=>by simp;omega))
end
theorem Blk.ne{w:World}{b b':Nat}{t t':TypeId}{cs cs':List Value}(h:Blk w b t cs)(h':Blk w b' t' cs')(ht:t≠t'):b≠b':=by
 rintro rfl
 have:=Option.some.inj (h.symm.trans h')
 simp only [Obj.cells.injEq]at this
 exact ht this.2.1
theorem Rdv.blk_lt{w:World}{A:Option Addr}{n c:Nat}{vs:List Value}(h:Rdv w A n c vs)(hn:0<n):A≠none→blk A<w.heap.size:=fun _=>by
 obtain⟨b,o,rfl,hb⟩:=h.ptr (by have:=h.le;omega)
 exact hb
def L2R(o:Ob)(S P A:Option Addr)(cs cp ca bo bb b0 b1 b3 b6 bg cap N7:Nat)(A1 A2 A3:Option Addr)(w:World)(v:Value)(wr:World):Prop :=
 ∃ j:Nat,j≤o.s.length∧v= .int .i64 ((j:Int) - 1)∧L2 o S P A cs cp ca bo bb b0 b1 b3 b6 bg cap N7 A1 A2 A3 w wr (o.b j) (fillL o.tN o.a.length j) (fillL o.eN o.a.length j) (fillL o.bN o.a.length j)
def DecOk(o:Ob)(w:World)(e:Ending)(w':World):Prop:=∃ (A1 A2 A3:Option Addr),e= .returned (.tuple #[.agg (dec3 A1 A2 A3 o.a.length).toArray,.int .i64 0]) ∧
 Own .i64 3 w' w.heap.size A1 o.a.length o.a.length ((List.range o.a.length).map o.tN)∧Own .i64 3 w' w.heap.size A2 o.a.length o.a.length ((List.range o.a.length).map o.eN)∧Own .u8 5 w' w.heap.size A3 o.a.length o.a.length ((List.range o.a.length).map o.bN) ∧
 blk A1≠blk A2∧blk A1≠blk A3∧blk A2≠blk A3∧Below w.heap.size w w'
theorem tdiv_bd(x:Int)(d:Int)(hd:0<d)(B:Int)(h:-B≤x∧x≤B):-B≤x.tdiv d∧x.tdiv d≤B:=by
 have h1:∀ y:Int,0≤y→0≤y.tdiv d∧y.tdiv d≤y:=fun y hy=>by
  rw [Int.tdiv_eq_ediv_of_nonneg hy]
  exact⟨Int.ediv_nonneg hy (by omega),Int.ediv_le_self _ hy⟩
 rcases Int.le_total 0 x with hx | hx
 · have:=h1 x hx;omega
 · have:=h1 (-x) (by omega)
   rw [Int.neg_tdiv]at this;omega
theorem tN_bd{o:Ob}(h:o.ok)(i:Nat)(hi:i<o.s.length):-1125899926842624≤o.tN i∧o.tN i≤1125899926842624:=by
 have hl:=h.2.1
 have hl2:=h.2.2.1
 have hf:=(f_met h i (by omega)).mono (C:=381*(o.s.length:Int)) (by omega)
 have hb:=(bd_met h (o.s.length - (i+1)) (by omega)).mono (C:=381*(o.s.length:Int)) (by omega)
 have q0:=gN_bd h i 0 hi (B:=381*(o.s.length:Int)) (by omega) (by omega) hf hb 16 (Nat.le_refl _)
 have q1:=gN_bd h i 1 hi (B:=381*(o.s.length:Int)) (by omega) (by omega) hf hb 16 (Nat.le_refl _)
 rw [UU_eq]at q0 q1
 exact tdiv_bd _ 2 (by omega) _ (by unfold Ob.b;omega)
theorem min_if(a b:Int):(if b<a then b else a)=min a b:=by
 by_cases h:b<a
 · rw [if_pos h];omega
 · rw [if_neg h];omega
theorem bN_t{o:Ob}{i:Nat}(h:o.tN i<0):o.bN i=1:=if_pos h
theorem bN_f{o:Ob}{i:Nat}(h:¬ o.tN i<0):o.bN i=0:=if_neg h
end Go.Proofs.YtkdfefpnhaebfaaGreat
