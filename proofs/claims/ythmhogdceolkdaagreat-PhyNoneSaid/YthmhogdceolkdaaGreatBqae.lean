/- Bundle. Conditions: none. -/
import Derived.Test.YthmhogdceolkdaaGreatBqad
import Derived.OwnWalk
set_option linter.unusedVariables false
set_option linter.unusedSimpArgs false
namespace Go.Proofs.YthmhogdceolkdaaGreat.Tu
open Tryz
open Go.RowKit
set_option maxRecDepth 100000
set_option maxHeartbeats 1000000
theorem bnext{w w1 w2:World}(h:Below w.heap.size w w1)(h2:Below w1.heap.size w1 w2):Below w.heap.size w w2:=h.trans (h2.mono h.size)
theorem ordset_any(A:Option Addr)(n c:Nat)(vs:List Int)(j:Nat)(v:Int)(base:Nat)(w:World)(h:Own .i64 3 w base A n c vs)(hj:j<n) :
 Calls prog 294 #[.slice A n c,.int .i64 j,.int .i64 v] w fun e w'=>e= .returned (.tuple #[])/\Own .i64 3 w' base A n c (vs.set j v)/\w.grownBy w' (some (blk A)):=by
 have hix:=fun W=>Rdv.ix (Own.rd h) el33 hj .i64 W;have hcell:=Rd.cell (Own.rd h) hj;have hfz:=Ownv.frozen h (by have:=Rdv.le (Own.rd h);omega) j;have HSET:=aq (Own.set_ h hj v);clear h;go_enter func294,ntmps294;go_wp2;go_returns;exact⟨rfl,HSET.o.1,HSET.o.2⟩
theorem grown_below{B:Nat}{w0 w w':World}{r:Nat}(hb:Below B w0 w)(hg:w.grownBy w' (some r))(hr:B<=r)(hs:B<=w.heap.size):Below B w0 w' :=
 ⟨hg.os.trans hb.os,hg.tape.trans hb.tape,hg.output.trans hb.output,Nat.le_trans hb.size hg.size,fun k hk=>(hg.block k (by omega) (by intro he;have:=Option.some.inj he;omega)).trans (hb.block k hk)⟩
theorem gi_set(m:List Int)(i t:Nat)(v:Int)(hi:i<m.length):gi (m.set i v) t=if i=t then v else gi m t:=by
 unfold gi;rw [List.getD_eq_getElem?_getD,List.getElem?_set];by_cases h:i=t
 . rw [if_pos h,if_pos h,if_pos (by omega)];rfl
 . rw [if_neg h,if_neg h,<- List.getD_eq_getElem?_getD]
def MadeSt(w wr:World)(k f1 f2 b:Nat)(A:Option Addr)(j:Nat):Prop :=
 ∃ vs,Own .i64 3 wr w.heap.size A k k vs/\(∀ q,q<j->gi vs q=(((f1*q+f2*q % k*q) % k:Nat):Int))/\Obj3 wr w.heap.size b k f1 f2/\Below w.heap.size w wr
def MadeInv(w:World)(k f1 f2 b:Nat)(A:Option Addr)(i:Value)(wr:World):Prop:=∃ j:Nat,j<=k/\i= .int .i64 j/\MadeSt w wr k f1 f2 b A j
def ordR(k:Int):List Int:=if validK k=true then ordL k.toNat else []
theorem madei_any(k:Int)(w:World):Calls prog 293 #[.int .i64 k,.func (.func 294) #[] #[]] w fun e w'=>∃ A n,e= .returned (.tuple #[.slice A n n,.int .i64 (permE k)])/\Own .i64 3 w' w.heap.size A n n (ordR k)/\Below w.heap.size w w':=by
 by_cases hv:validK k=true
 . obtain⟨kb0,kb1⟩:=valid_bd hv
   obtain⟨n,rfl⟩:∃ n:Nat,k=(n:Int):=⟨k.toNat,by omega⟩
   have hP:=prm hv;have e1:permV (n:Int)= .agg #[.int .i64 n,.int .i64 (f1N n:Int),.int .i64 (f2N n:Int)]:=by unfold permV;rw [if_pos hv,Int.toNat_natCast]
   have e2:permE (n:Int)=0:=by unfold permE;rw [if_pos hv]
   have e3:ordR (n:Int)=ordL n:=by unfold ordR;rw [if_pos hv,Int.toNat_natCast]
   rw [e2,e3];have ho:=fun W=>aq (of_any (n:Int) W);rw [e1,e2]at ho;have hf1:=hP.b1;have hf2:=hP.b2;have HORD:Hid (∀ vs:List Int,vs.length=n->(∀ q,q<n->gi vs q=(((f1N n*q+f2N n*q % n*q) % n:Nat):Int))->vs=ordL n):=aq (by
    intro vs hl hq;refine ext_gi (by rw [hl];simp [ordL]) fun q hq'=>?_;rw [hq q (by omega),gi_eq _ _ (by simp [ordL];omega)];simp [ordL,piN])
   clear e1 e2 e3 hv hP;generalize f1N n=f1 at *;generalize f2N n=f2 at *;go_enter func293,ntmps293;go_wp2_with fail;refine(ho _).out.mono ?_;rintro e w1 ⟨rfl,hB1⟩;have hO1:=Obj3.new w1 n f1 f2;go_wp2_with (at_make;refine list_of rfl fun K hK=>wp_mk (n:=n) _ _ 51 rfl el33 rfl rfl (by omega) (by unfold maxLen;omega) ?_;intro Am wm hOm hBm hA;refine hK _ _ ?_;clear hK K);have hsz:=hB1.size;have hO2:Obj3 wm w.heap.size w1.heap.size n f1 f2:=(hO1.mono hsz).below hBm;have hblk:blk Am≠w1.heap.size:=by
    have:=(Ownv.blk_ge hOm (by omega)).1;simp at this;omega
   have hst:MadeSt w wm n f1 f2 w1.heap.size Am 0:=⟨List.replicate n 0,Own.of_eq (Ownv.mono hOm (by simp;omega)) rfl (by simp),by intro q hq;omega,hO2,(hB1.alloc hsz _).trans (hBm.mono (by simp;omega))⟩
   have HBLK:=aq hblk;clear hO1 hO2 hOm hBm hblk hsz hB1;generalize w1.heap.size=b at *;go_loopw [21] (fun i wr=>MadeInv w n f1 f2 b Am i wr) (fun i _=>n - (intOf i).toNat)
   case atStart=>exact⟨0,by omega,rfl,hst⟩
   case round =>
    obtain⟨j,hj,rfl,vs,hO,hq,hobj,hB⟩:=hrel;clear hst;by_cases hlt:j<n
    . obtain⟨c0,c1,c2,f0,f1',f2'⟩:=hobj.facts
      have ha:=fun W=>aq (at_any n f1 f2 j (by omega) (by omega) hf1 hf2 (by omega) W);have HQ:=aq hq;clear hq f0 f1' f2';unfold polyV at ha;go_wp2_with (first
       | (go_at_call 325;refine(ha _).out.mono ?_;rintro e w4 ⟨rfl,hB4⟩)
       | (go_at_call 294;refine(ordset_any Am n n vs j _ w.heap.size _ (Ownv.below hO hB4) hlt).mono ?_;rintro e w5 ⟨rfl,hO5,hg5⟩))
      have hl:=(Own.rd hO).len;have hg5':=hg5;refine⟨⟨j+1,by omega,by go_num,_,hO5,fun q hq=>?_,Ownv.grown (hobj.below hB4) hg5 (fun _ he=>HBLK.o (Option.some.inj he).symm),?_⟩,by simp [intOf];omega⟩
      . rw [gi_set _ _ _ _ (by omega)]
        by_cases e:j=q
        . subst e;rw [if_pos rfl];simp [Int.natCast_emod,Int.natCast_add,Int.natCast_mul]
        . rw [if_neg e];exact HQ.o q (by omega)
      . have hB':=hB.trans (hB4.mono hB.size)
        exact grown_below hB' hg5 (Ownv.blk_ge hO (by omega)).1 hB'.size
    . obtain rfl:j=n:=by omega
      have HQ:=aq hq;clear hq;go_wp2;go_ret2;exact⟨Am,j,rfl,by rw [<- HORD.o vs (Own.rd hO).len HQ.o];exact hO,hB⟩
 . have e1:permV k= .agg #[.int .i64 0,.int .i64 0,.int .i64 0]:=by unfold permV;rw [if_neg hv]
   have e2:permE k=2:=by unfold permE;rw [if_neg hv]
   have e3:ordR k=[]:=by unfold ordR;rw [if_neg hv]
   rw [e2,e3];have ho:=fun W=>aq (of_any k W);rw [e1,e2]at ho;clear e1 e2 e3 hv;go_enter func293,ntmps293;go_wp2_with fail;refine(ho _).out.mono ?_;rintro e w1 ⟨rfl,hB1⟩;go_wp2;go_ret2;exact⟨none,0,rfl,Own.nilv _ _ _ _,hB1.alloc hB1.size _⟩
theorem order_any(k:Int)(w:World):Calls prog 240 #[.int .i64 k] w fun e w'=>∃ A n,e= .returned (.tuple #[.slice A n n,.int .i64 (permE k)])/\Own .i64 3 w' w.heap.size A n n (ordR k)/\Below w.heap.size w w':=by
 go_enter func240,ntmps240;go_wp2_with fail;refine(madei_any k _).mono ?_;rintro e w1 ⟨A,n,rfl,hO,hB⟩;go_wp2;go_ret2;exact⟨A,n,rfl,hO,hB⟩
theorem el22:El prog 53 5 (.int .u8 0) 1:=⟨by kernel_rfl,by kernel_rfl,fun _=>by kernel_rfl,rfl⟩
theorem bitset_any(A B:Option Addr)(n c m d:Nat)(vs xs:List Int)(j v bb:Nat)(base:Nat)(w:World)(h:Own .u8 5 w base A n c vs)(hj:j<n)(hx:Rd .u8 w B m d xs)(hv:v<m)(hb:w.cell? ⟨bb,0,none⟩=some (.slice B m d)) :
 Calls prog 342 #[.slice A n c,.int .i64 j,.int .i64 v,.pointer (some ⟨bb,0,none⟩)] w fun e w'=>e= .returned (.tuple #[])/\Own .u8 5 w' base A n c (vs.set j (gi xs v))/\w.grownBy w' (some (blk A)):=by
 have hix:=fun W=>Rdv.ix (Own.rd h) el22 hj .i64 W;have hcell:=Rd.cell (Own.rd h) hj;have hfz:=Ownv.frozen h (by have:=Rdv.le (Own.rd h);omega) j;have hix2:=fun W=>Rdv.ix hx el22 hv .i64 W;have hcell2:=Rd.cell hx hv;have HSET:=aq (Own.set_ h hj (gi xs v));clear h hx;go_enter func342,ntmps342;go_wp2;go_returns;exact⟨rfl,HSET.o.1,HSET.o.2⟩
def MixSt(w wr:World)(k f1 f2 b bb:Nat)(A B:Option Addr)(d:Nat)(xs:List Int)(j:Nat):Prop :=
 ∃ vs,Own .u8 5 wr w.heap.size A k k vs/\(∀ q,q<j->gi vs q=gi xs ((f1*q+f2*q % k*q) % k))/\Obj3 wr w.heap.size b k f1 f2/\Below w.heap.size w wr
def MixInv(w:World)(k f1 f2 b bb:Nat)(A B:Option Addr)(d:Nat)(xs:List Int)(i:Value)(wr:World):Prop:=∃ j:Nat,j<=k/\i= .int .i64 j/\MixSt w wr k f1 f2 b bb A B d xs j
def mixR(xs:List Int):List Int:=if validK (xs.length:Int)=true then(List.range xs.length).map (fun i=>gi xs (piN xs.length i)) else []
theorem madeb_any(n:Nat)(B:Option Addr)(d bb:Nat)(xs:List Int)(w:World)(hx:Rd .u8 w B n d xs)(hb:w.cell? ⟨bb,0,none⟩=some (.slice B n d))(hbb:bb<w.heap.size) :
 Calls prog 341 #[.int .i64 n,.func (.func 342) #[] #[.pointer (some ⟨bb,0,none⟩)]] w fun e w'=>∃ A l,e= .returned (.tuple #[.slice A l l,.int .i64 (permE n)])/\Own .u8 5 w' w.heap.size A l l (mixR xs)/\Below w.heap.size w w':=by
 have hxl:=hx.len;by_cases hv:validK (n:Int)=true
 . obtain⟨kb0,kb1⟩:=valid_bd hv
   have hP:=prm hv;have e1:permV (n:Int)= .agg #[.int .i64 n,.int .i64 (f1N n:Int),.int .i64 (f2N n:Int)]:=by unfold permV;rw [if_pos hv,Int.toNat_natCast]
   have e2:permE (n:Int)=0:=by unfold permE;rw [if_pos hv]
   have e3:mixR xs=(List.range n).map (fun i=>gi xs (piN n i)):=by unfold mixR;rw [hxl,if_pos hv]
   rw [e2,e3];have ho:=fun W=>aq (of_any (n:Int) W);rw [e1,e2]at ho;have hf1:=hP.b1;have hf2:=hP.b2;have HORD:Hid (∀ vs:List Int,vs.length=n->(∀ q,q<n->gi vs q=gi xs ((f1N n*q+f2N n*q % n*q) % n))->vs=(List.range n).map (fun i=>gi xs (piN n i))):=aq (by
    intro vs hl hq;refine ext_gi (by rw [hl];simp) fun q hq'=>?_;rw [hq q (by omega),gi_eq ((List.range n).map fun i=>gi xs (piN n i)) q (by simp;omega),List.getElem_map,List.getElem_range];rfl)
   clear e1 e2 e3 hv hP hxl;generalize f1N n=f1 at *;generalize f2N n=f2 at *;go_enter func341,ntmps341;go_wp2_with fail;refine(ho _).out.mono ?_;rintro e w1 ⟨rfl,hB1⟩;have hO1:=Obj3.new w1 n f1 f2;go_wp2_with (at_make;refine list_of rfl fun K hK=>wp_mk (n:=n) _ _ 53 rfl el22 rfl rfl (by omega) (by unfold maxLen;omega) ?_;intro Am wm hOm hBm hA;refine hK _ _ ?_;clear hK K);have hsz:=hB1.size;have hO2:Obj3 wm w.heap.size w1.heap.size n f1 f2:=(hO1.mono hsz).below hBm;have hblk:blk Am≠w1.heap.size:=by
    have:=(Ownv.blk_ge hOm (by omega)).1;simp at this;omega
   have hst:MixSt w wm n f1 f2 w1.heap.size bb Am B d xs 0:=⟨List.replicate n 0,Own.of_eq (Ownv.mono hOm (by simp;omega)) rfl (by simp),by intro q hq;omega,hO2,(hB1.alloc hsz _).trans (hBm.mono (by simp;omega))⟩
   have HBLK:=aq hblk;clear hO1 hO2 hOm hBm hblk hsz hB1;generalize w1.heap.size=b at *;go_loopw [21] (fun i wr=>MixInv w n f1 f2 b bb Am B d xs i wr) (fun i _=>n - (intOf i).toNat)
   case atStart=>exact⟨0,by omega,rfl,hst⟩
   case round =>
    obtain⟨j,hj,rfl,vs,hO,hq,hobj,hB⟩:=hrel;clear hst;by_cases hlt:j<n
    . obtain⟨c0,c1,c2,f0,f1',f2'⟩:=hobj.facts
      have ha:=fun W=>aq (at_any n f1 f2 j (by omega) (by omega) hf1 hf2 (by omega) W);have hpn:(f1*j+f2*j % n*j) % n<n:=Nat.mod_lt _ (by omega);have HQ:=aq hq;obtain⟨pv,hpv⟩:∃ pv,(f1*j+f2*j % n*j) % n=pv:=⟨_,rfl⟩
      rw [hpv]at ha hpn;have HPV:=aq hpv;have HX:=aq hx;have HBC:=aq hb;clear hq f0 f1' f2' hpv hx hb;unfold polyV at ha;go_wp2_with (first
       | (go_at_call 325;refine(ha _).out.mono ?_;rintro e w4 ⟨rfl,hB4⟩)
       | (go_at_call 342;refine(bitset_any Am B n n n d vs xs j pv bb w.heap.size _ (Ownv.below hO hB4) hlt (Rdv.below HX.o (bnext hB hB4)) hpn (((bnext hB hB4).cell (p:=⟨bb,0,none⟩) hbb).trans HBC.o)).mono ?_;rintro e w5 ⟨rfl,hO5,hg5⟩))
      have hl:=(Own.rd hO).len;have hB':=hB.trans (hB4.mono hB.size);refine⟨⟨j+1,by omega,by go_num,_,hO5,fun q hq=>?_,Ownv.grown (hobj.below hB4) hg5 (fun _ he=>HBLK.o (Option.some.inj he).symm),grown_below hB' hg5 (Ownv.blk_ge hO (by omega)).1 hB'.size⟩,by simp [intOf];omega⟩;rw [gi_set _ _ _ _ (by omega)];by_cases e:j=q
      . subst e;rw [if_pos rfl,HPV.o]
      . rw [if_neg e];exact HQ.o q (by omega)
    . obtain rfl:j=n:=by omega
      have HQ:=aq hq;clear hq;go_wp2;go_ret2;exact⟨Am,j,rfl,by rw [<- HORD.o vs (Own.rd hO).len HQ.o];exact hO,hB⟩
 . have e1:permV (n:Int)= .agg #[.int .i64 0,.int .i64 0,.int .i64 0]:=by unfold permV;rw [if_neg hv]
   have e2:permE (n:Int)=2:=by unfold permE;rw [if_neg hv]
   have e3:mixR xs=[]:=by unfold mixR;rw [hxl,if_neg hv]
   rw [e2,e3];have ho:=fun W=>aq (of_any (n:Int) W);rw [e1,e2]at ho;clear e1 e2 e3 hv;go_enter func341,ntmps341;go_wp2_with fail;refine(ho _).out.mono ?_;rintro e w1 ⟨rfl,hB1⟩;go_wp2;go_ret2;exact⟨none,0,rfl,Own.nilv _ _ _ _,hB1.alloc hB1.size _⟩
theorem mix_any(B:Option Addr)(n d:Nat)(xs:List Int)(w:World)(hx:Rd .u8 w B n d xs):Calls prog 315 #[.slice B n d] w fun e w'=>∃ A l,e= .returned (.tuple #[.slice A l l,.int .i64 (permE n)])/\Own .u8 5 w' w.heap.size A l l (mixR xs)/\Below w.heap.size w w':=by
 have hx1:=Rdv.alloc hx (.cells #[.slice B n d] 53);have hbd:=hx.bd.1;go_enter func315,ntmps315;go_wp2_with fail;refine(madeb_any n B d w.heap.size xs _ hx1 (by simp [go_sem]) (by simp)).mono ?_;rintro e w1 ⟨A,l,rfl,hO,hB⟩;go_wp2;go_ret2;exact⟨A,l,rfl,Ownv.mono hO (by simp),((Below.refl _ w).alloc (Nat.le_refl _) _).trans (hB.mono (by simp))⟩
def invT(k:Nat):Nat->List Int
 | 0=>List.replicate k 0
 | j+1=>(invT k j).set (piN k j) (j:Int)
theorem invT_len(k:Nat):∀ j,(invT k j).length=k
 | 0=>List.length_replicate ..
 | j+1=>by simp only [invT];rw [List.length_set,invT_len k j]
def invL(k:Nat):List Int:=invT k k
theorem invset_any(A:Option Addr)(n c:Nat)(vs:List Int)(v:Nat)(j:Int)(base:Nat)(w:World)(h:Own .i64 3 w base A n c vs)(hj:v<n) :
 Calls prog 295 #[.slice A n c,.int .i64 j,.int .i64 (v:Int)] w fun e w'=>e= .returned (.tuple #[])/\Own .i64 3 w' base A n c (vs.set v j)/\w.grownBy w' (some (blk A)):=by
 have hix:=fun W=>Rdv.ix (Own.rd h) el33 hj .i64 W;have hcell:=Rd.cell (Own.rd h) hj;have hfz:=Ownv.frozen h (by have:=Rdv.le (Own.rd h);omega) v;have HSET:=aq (Own.set_ h hj j);clear h;go_enter func295,ntmps295;go_wp2;go_returns;exact⟨rfl,HSET.o.1,HSET.o.2⟩
def MakSt(w wr:World)(k f1 f2 b:Nat)(A:Option Addr)(T:Nat->List Int)(j:Nat):Prop :=
 Own .i64 3 wr w.heap.size A k k (T j)/\Obj3 wr w.heap.size b k f1 f2/\Below w.heap.size w wr
def MakInv(w:World)(k f1 f2 b:Nat)(A:Option Addr)(T:Nat->List Int)(i:Value)(wr:World):Prop:=∃ j:Nat,j<=k/\i= .int .i64 j/\MakSt w wr k f1 f2 b A T j
def invR(k:Int):List Int:=if validK k=true then invL k.toNat else []
theorem madev_any(k:Int)(w:World):Calls prog 293 #[.int .i64 k,.func (.func 295) #[] #[]] w fun e w'=>∃ A n,e= .returned (.tuple #[.slice A n n,.int .i64 (permE k)])/\Own .i64 3 w' w.heap.size A n n (invR k)/\Below w.heap.size w w':=by
 by_cases hv:validK k=true
 . obtain⟨kb0,kb1⟩:=valid_bd hv
   obtain⟨n,rfl⟩:∃ n:Nat,k=(n:Int):=⟨k.toNat,by omega⟩
   have hP:=prm hv;have e1:permV (n:Int)= .agg #[.int .i64 n,.int .i64 (f1N n:Int),.int .i64 (f2N n:Int)]:=by unfold permV;rw [if_pos hv,Int.toNat_natCast]
   have e2:permE (n:Int)=0:=by unfold permE;rw [if_pos hv]
   have e3:invR (n:Int)=invT n n:=by unfold invR;rw [if_pos hv,Int.toNat_natCast];rfl
   rw [e2,e3];have ho:=fun W=>aq (of_any (n:Int) W);rw [e1,e2]at ho;have hf1:=hP.b1;have hf2:=hP.b2;have HT:Hid (∀ j,invT n (j+1)=(invT n j).set ((f1N n*j+f2N n*j % n*j) % n) (j:Int)):=aq (fun j=>rfl);have hT0:invT n 0=List.replicate n 0:=rfl;clear e1 e2 e3 hv hP;generalize invT n=T at *;generalize f1N n=f1 at *;generalize f2N n=f2 at *;go_enter func293,ntmps293;go_wp2_with fail;refine(ho _).out.mono ?_;rintro e w1 ⟨rfl,hB1⟩;have hO1:=Obj3.new w1 n f1 f2;go_wp2_with (at_make;refine list_of rfl fun K hK=>wp_mk (n:=n) _ _ 51 rfl el33 rfl rfl (by omega) (by unfold maxLen;omega) ?_;intro Am wm hOm hBm hA;refine hK _ _ ?_;clear hK K);have hsz:=hB1.size;have hO2:Obj3 wm w.heap.size w1.heap.size n f1 f2:=(hO1.mono hsz).below hBm;have hblk:blk Am≠w1.heap.size:=by
    have:=(Ownv.blk_ge hOm (by omega)).1;simp at this;omega
   have hst:MakSt w wm n f1 f2 w1.heap.size Am T 0:=⟨Own.of_eq (Ownv.mono hOm (by simp;omega)) rfl (by rw [hT0];simp),hO2,(hB1.alloc hsz _).trans (hBm.mono (by simp;omega))⟩
   have HBLK:=aq hblk;clear hO1 hO2 hOm hBm hblk hsz hB1 hT0;generalize w1.heap.size=b at *;go_loopw [21] (fun i wr=>MakInv w n f1 f2 b Am T i wr) (fun i _=>n - (intOf i).toNat)
   case atStart=>exact⟨0,by omega,rfl,hst⟩
   case round =>
    obtain⟨j,hj,rfl,hO,hobj,hB⟩:=hrel;clear hst;by_cases hlt:j<n
    . obtain⟨c0,c1,c2,f0,f1',f2'⟩:=hobj.facts
      have ha:=fun W=>aq (at_any n f1 f2 j (by omega) (by omega) hf1 hf2 (by omega) W);obtain⟨pv,hpv⟩:∃ pv,pv=(f1*j+f2*j % n*j) % n:=⟨_,rfl⟩
      have hpn:pv<n:=by rw [hpv];exact Nat.mod_lt _ (by omega)
      have HPV:=aq hpv;rw [<- hpv]at ha;clear f0 f1' f2' hpv;unfold polyV at ha;go_wp2_with (first
       | (go_at_call 325;refine(ha _).out.mono ?_;rintro e w4 ⟨rfl,hB4⟩)
       | (go_at_call 295;refine(invset_any Am n n (T j) pv (j:Int) w.heap.size _ (Ownv.below hO hB4) hpn).mono ?_;rintro e w5 ⟨rfl,hO5,hg5⟩))
      refine⟨⟨j+1,by omega,by go_num,by rw [HT.o j,<- HPV.o];exact hO5,Ownv.grown (hobj.below hB4) hg5 (fun _ he=>HBLK.o (Option.some.inj he).symm),?_⟩,by simp [intOf];omega⟩;have hB':=hB.trans (hB4.mono hB.size);exact grown_below hB' hg5 (Ownv.blk_ge hO (by omega)).1 hB'.size
    . obtain rfl:j=n:=by omega
      go_wp2;go_ret2;exact⟨Am,j,rfl,hO,hB⟩
 . have e1:permV k= .agg #[.int .i64 0,.int .i64 0,.int .i64 0]:=by unfold permV;rw [if_neg hv]
   have e2:permE k=2:=by unfold permE;rw [if_neg hv]
   have e3:invR k=[]:=by unfold invR;rw [if_neg hv]
   rw [e2,e3];have ho:=fun W=>aq (of_any k W);rw [e1,e2]at ho;clear e1 e2 e3 hv;go_enter func293,ntmps293;go_wp2_with fail;refine(ho _).out.mono ?_;rintro e w1 ⟨rfl,hB1⟩;go_wp2;go_ret2;exact⟨none,0,rfl,Own.nilv _ _ _ _,hB1.alloc hB1.size _⟩
theorem inverse_any(k:Int)(w:World):Calls prog 241 #[.int .i64 k] w fun e w'=>∃ A n,e= .returned (.tuple #[.slice A n n,.int .i64 (permE k)])/\Own .i64 3 w' w.heap.size A n n (invR k)/\Below w.heap.size w w':=by
 go_enter func241,ntmps241;go_wp2_with fail;refine(madev_any k _).mono ?_;rintro e w1 ⟨A,n,rfl,hO,hB⟩;go_wp2;go_ret2;exact⟨A,n,rfl,hO,hB⟩
theorem invT_gi{k:Nat}(h1:∀ i,i<k->piN k i<k)(h2:∀ i j,i<k->j<k->piN k i=piN k j->i=j):∀ n,n<=k->∀ i,i<n->gi (invT k n) (piN k i)=(i:Int)
 | 0,_,i,hi=>by omega
 | n+1,hn,i,hi=>by
   simp only [invT];rw [gi_set _ _ _ _ (by rw [invT_len];exact h1 n (by omega))];by_cases e:piN k n=piN k i
   . rw [if_pos e,h2 n i (by omega) (by omega) e]
   . rw [if_neg e]
     have:i≠n:=fun h=>e (by rw [h]);exact invT_gi h1 h2 n (by omega) i (by omega)
end Go.Proofs.YthmhogdceolkdaaGreat.Tu