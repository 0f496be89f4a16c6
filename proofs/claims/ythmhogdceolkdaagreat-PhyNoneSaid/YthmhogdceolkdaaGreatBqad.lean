/- Bundle. Conditions: none. -/
import Derived.Test.YthmhogdceolkdaaGreatProg
import Derived.Test.YthmhogdceolkdaaGreatBqab
import Derived.WalkMore
import Derived.ScopeJumps
import Derived.OwnWalk
import Derived.Laws.ResultCell
import Derived.Handy
import Derived.BigRegion
import Derived.Test.YthmhogdceolkdaaGreatBqac
set_option linter.unusedVariables false
set_option linter.unusedSimpArgs false
namespace Go.Proofs.YthmhogdceolkdaaGreat
open Tryz
open Go.RowKit
theorem el26:El prog 53 5 (.int .u8 0) 1:=⟨by kernel_rfl,by kernel_rfl,fun _=>by kernel_rfl,rfl⟩
theorem el22:El prog 51 3 (.int .i64 0) 8:=⟨by kernel_rfl,by kernel_rfl,fun _=>by kernel_rfl,rfl⟩
theorem gi_set(m:List Int)(i t:Nat)(v:Int)(hi:i<m.length):gi (m.set i v) t=if i=t then v else gi m t:=by
 unfold gi;rw [List.getD_eq_getElem?_getD,List.getElem?_set];by_cases h:i=t
 . rw [if_pos h,if_pos h,if_pos (by omega)];rfl
 . rw [if_neg h,if_neg h,<- List.getD_eq_getElem?_getD]
def ib(b:Bool):Int:=if b then 1 else 0
def regV(a b c:Bool):Value:=.agg #[.int .i64 (ib a),.int .i64 (ib b),.int .i64 (ib c)]
theorem xor_ib(a b:Bool):bits .xor .i64 (ib a) (ib b)=ib (a ^^ b):=by cases a<;>cases b<;>decide
def stI(a b c:Bool):Int:=4*ib a+2*ib b+ib c
theorem fits_any(s:Int)(w:World):Calls prog 355 #[.int .i64 s,.int .i64 0] w fun e w'=>e= .returned (.bool (decide (0<=s/\s<8)))/\w=w':=by
 rcases (by omega:s<0\/(0<=s/\s<8)\/8<=s) with h | ⟨h,h'⟩ | h
 . have hd:decide (0<=s/\s<8)=false:=by simp;omega
   rw [hd];go_enter func355,ntmps355;go_wp2;go_ret;exact⟨rfl,rfl⟩
 . have hd:decide (0<=s/\s<8)=true:=by simp;omega
   rw [hd];go_enter func355,ntmps355;go_wp2;go_ret;exact⟨rfl,rfl⟩
 . have hd:decide (0<=s/\s<8)=false:=by simp;omega
   rw [hd];go_enter func355,ntmps355;go_wp2;go_ret;exact⟨rfl,rfl⟩
theorem ending_any(a b c:Bool)(w:World):Calls prog 357 #[regV a b c] w fun e w'=>e= .returned (.int .i64 (ib (b ^^ c)))/\Below w.heap.size w w':=by
 have hx:=xor_ib;unfold regV;go_enter func357,ntmps357;go_wp2;go_ret;exact⟨ret_int rfl,(Below.refl _ w).alloc (Nat.le_refl _) _⟩
theorem state_any(a b c:Bool)(w:World):Calls prog 354 #[regV a b c] w fun e w'=>e= .returned (.int .i64 (stI a b c))/\Below w.heap.size w w':=by
 unfold regV;cases a<;>cases b<;>cases c<;>(
  simp only [ib,if_true,if_false,Bool.false_eq_true]
  go_enter func354,ntmps354
  go_wp2
  go_ret
  exact⟨ret_int (by decide),(Below.refl _ w).alloc (Nat.le_refl _) _⟩)
set_option maxRecDepth 100000
set_option maxHeartbeats 1000000
theorem regat_any(a b c:Bool)(w:World):Calls prog 356 #[.int .i64 (stI a b c)] w fun e w'=>e= .returned (regV a b c)/\Below w.heap.size w w':=by
 unfold regV;cases a<;>cases b<;>cases c<;>(
  simp only [stI,ib,if_true,if_false,Bool.false_eq_true]
  go_enter func356,ntmps356
  go_wp2
  go_returns
  refine⟨?_,(Below.refl _ w).alloc (Nat.le_refl _) _⟩
  try rfl
  try decide)
theorem step_any(a b c x:Bool)(w:World):Calls prog 363 #[regV a b c,.int .i64 (ib x)] w fun e w'=>e= .returned (.tuple #[regV (x ^^ b ^^ c) a b,.int .i64 (ib (x ^^ b ^^ c ^^ a ^^ c))])/\Below w.heap.size w w':=by
 have hx:=xor_ib;unfold regV;go_enter func363,ntmps363;go_wp2;go_region;go_wp2;have e1:(x != (b != c))=(x ^^ b ^^ c):=by cases x<;>cases b<;>cases c<;>rfl
 have e2:(x != (b != (c != (a != c))))=(x ^^ b ^^ c ^^ a ^^ c):=by cases x<;>cases b<;>cases c<;>cases a<;>rfl
 go_returns;exact⟨by rw [e1,e2],((((Below.refl _ w).alloc (Nat.le_refl _) _).alloc (by simp) _).trans (by first | exact Below.refl _ _ | exact Qt.below ⟨_,rfl⟩ _))⟩
structure EncSt (base:Nat) (w:World) (o:Nat) (a b c:Bool) (A:Option Addr) (n cp:Nat) (ps:List Bool):Prop where
 obj:Ownv 404 w base (some ⟨o,0,none⟩) 4 4 [.int .i64 (ib a),.int .i64 (ib b),.int .i64 (ib c),.slice A n cp]
 row:Own .u8 5 w base A n cp (ps.map ib)
 ne:A≠none->blk A≠o
 le:base<=w.heap.size
theorem EncSt.facts{base:Nat}{w:World}{o:Nat}{a b c:Bool}{A:Option Addr}{n cp:Nat}{ps:List Bool}(h:EncSt base w o a b c A n cp ps) :
 w.cell? ⟨o,0,none⟩=some (.int .i64 (ib a))/\w.cell? ⟨o,1,none⟩=some (.int .i64 (ib b))/\w.cell? ⟨o,2,none⟩=some (.int .i64 (ib c))/\w.cell? ⟨o,3,none⟩=some (.slice A n cp) /\
 w.frozen? ⟨o,0,none⟩=false/\w.frozen? ⟨o,1,none⟩=false/\w.frozen? ⟨o,2,none⟩=false/\w.frozen? ⟨o,3,none⟩=false :=
 ⟨h.obj.rd.at_ 0 _ rfl,h.obj.rd.at_ 1 _ rfl,h.obj.rd.at_ 2 _ rfl,h.obj.rd.at_ 3 _ rfl,Ownv.frozen h.obj (by omega) 0,Ownv.frozen h.obj (by omega) 1,Ownv.frozen h.obj (by omega) 2,Ownv.frozen h.obj (by omega) 3⟩
theorem EncSt.below{base:Nat}{w w':World}{o:Nat}{a b c:Bool}{A:Option Addr}{n cp:Nat}{ps:List Bool}(h:EncSt base w o a b c A n cp ps)(hB:Below w.heap.size w w'):EncSt base w' o a b c A n cp ps :=
 ⟨h.obj.below hB,Ownv.below h.row hB,h.ne,Nat.le_trans h.le hB.size⟩
theorem EncSt.alloc{base:Nat}{w:World}{o:Nat}{a b c:Bool}{A:Option Addr}{n cp:Nat}{ps:List Bool}(h:EncSt base w o a b c A n cp ps)(x:Obj):EncSt base (w.alloc x) o a b c A n cp ps :=
 ⟨h.obj.alloc x,Ownv.alloc h.row x,h.ne,by have:=h.le;simp;omega⟩
theorem EncSt.put{base:Nat}{w:World}{o:Nat}{a b c:Bool}{A:Option Addr}{n cp:Nat}{ps:List Bool}(h:EncSt base w o a b c A n cp ps)(a' b' c':Bool) :
 EncSt base (((w.setCell ⟨o,0,none⟩ (.int .i64 (ib a'))).setCell ⟨o,1,none⟩ (.int .i64 (ib b'))).setCell ⟨o,2,none⟩ (.int .i64 (ib c'))) o a' b' c' A n cp ps /\
  Below base w (((w.setCell ⟨o,0,none⟩ (.int .i64 (ib a'))).setCell ⟨o,1,none⟩ (.int .i64 (ib b'))).setCell ⟨o,2,none⟩ (.int .i64 (ib c'))):=by
 have hb:base<=o:=(Ownv.blk_ge h.obj (by omega)).1;have s0:=Ownv.set_ h.obj (j:=0) (by omega) (.int .i64 (ib a'));have s1:=Ownv.set_ s0.1 (j:=1) (by omega) (.int .i64 (ib b'));have s2:=Ownv.set_ s1.1 (j:=2) (by omega) (.int .i64 (ib c'));have hn:A≠none->some (blk A)≠some o:=fun hA he=>h.ne hA (Option.some.inj he);have r0:=Ownv.grown h.row s0.2 hn;have r1:=Ownv.grown r0 s1.2 hn;have r2:=Ownv.grown r1 s2.2 hn;have g:∀ {W W':World},Below base w W->W.grownBy W' (some o)->Below base w W':=fun hB hg=>hB.grown hg (Nat.le_trans h.le hB.size) (fun k hk=>by injection hk with hk;omega);have g2:=g (g (g (Below.refl base w) s0.2) s1.2) s2.2;exact⟨⟨s2.1,r2,h.ne,Nat.le_trans h.le g2.size⟩,g2⟩
theorem own_tag_ne{e e':TypeId}{w:World}{base base':Nat}{A B:Option Addr}{n c m d:Nat}{vs us:List Value}(h:Ownv e w base A n c vs)(h':Ownv e' w base' B m d us)(he:e≠e')(hA:A≠none)(hB:B≠none):blk A≠blk B:=by
 obtain⟨_,h2⟩:=h.cases;obtain⟨_,h2'⟩:=h'.cases;rcases h2 with⟨rfl,_⟩ | ⟨g,cur,rfl,_,hh,_⟩
 . exact absurd rfl hA
 . rcases h2' with⟨rfl,_⟩ | ⟨g',cur',rfl,_,hh',_⟩
   . exact absurd rfl hB
   . intro hg
     have hg:g=g':=hg;subst hg;rw [hh]at hh';injection hh' with h3
     injection h3 with _ h4
     exact he h4
theorem Ownv.blk_of{e:TypeId}{w:World}{base:Nat}{A:Option Addr}{n c:Nat}{vs:List Value}(h:Ownv e w base A n c vs)(hA:A≠none):base<=blk A/\blk A<w.heap.size:=by
 obtain⟨hl,h2⟩:=h.cases;rcases h2 with⟨rfl,rfl,rfl⟩ | ⟨g,cur,rfl,hb,hh,hnc,hcm,hs,ht⟩
 . exact absurd rfl hA
 . exact⟨hb,(Array.getElem?_eq_some_iff.1 hh).1⟩
theorem takes_any(base o:Nat)(a b c x:Bool)(A:Option Addr)(n cp:Nat)(ps:List Bool)(w:World)(h:EncSt base w o a b c A n cp ps)(hn:n<=100000) :
 Calls prog 353 #[.pointer (some ⟨o,0,none⟩),.int .i64 (ib x)] w fun e w'=>e= .returned (.int .i64 (ib (x ^^ b ^^ c ^^ a ^^ c)))/\(∃ A' cp',EncSt base w' o (x ^^ b ^^ c) a b A' (n+1) cp' (ps ++ [x ^^ b ^^ c ^^ a ^^ c]))/\Below base w w':=by
 obtain⟨c0,c1,c2,c3,-,-,-,-⟩:=h.facts;have hs:=fun W=>aq (step_any a b c x W);generalize (x ^^ b ^^ c)=a' at *;generalize (a' ^^ a ^^ c)=p at *;unfold regV at hs;go_enter func353,ntmps353;go_wp2_with fail;refine(hs _).out.mono ?_;rintro e w1 ⟨rfl,hB1⟩;have h1:=(h.below hB1).alloc (.cells #[.int .i64 (ib a'),.int .i64 (ib a),.int .i64 (ib b)] 402);obtain⟨d0,d1,d2,d3,f0,f1,f2,f3⟩:=h1.facts;have HP:=aq (h1.put a' a b);have HLE:=aq h.le;have HNE:Hid (some (blk (some ⟨o,0,none⟩))=(Value.slice A n cp).ownBlock->False):=aq (fun he=>by
  rcases A with _ | A
  . simp [Value.ownBlock]at he
  . have h3:=(Ownv.cases h.row).2
    rcases h3 with⟨h4,_⟩ | ⟨g,cur,h4,_⟩
    . cases h4
    . cases h4
      refine h.ne (by simp) ?_;simp [Value.ownBlock]at he;exact he.symm)
 clear c0 c1 c2 c3 h1 h hs;have hp0:0<=ib p:=by cases p<;>decide
 have hp1:ib p<=1:=by cases p<;>decide
 obtain⟨ip,hip⟩:∃ ip,ib p=ip:=⟨_,rfl⟩
 rw [hip]at hp0 hp1 ⊢;have HSZ:Hid (((((w1.alloc (.cells #[.int .i64 (ib a'),.int .i64 (ib a),.int .i64 (ib b)] 402)).setCell ⟨o,0,none⟩ (.int .i64 (ib a'))).setCell ⟨o,1,none⟩ (.int .i64 (ib a))).setCell ⟨o,2,none⟩ (.int .i64 (ib b))).heap.size=w1.heap.size+1):=aq (by simp);go_wp2_with (at_builtin;refine list_of rfl fun K hK=>wp_app1 _ _ 53 rfl el26 rfl (.int .u8 ip) (by rw [HSZ.o];rfl) rfl HP.o.1.row (by omega) (by omega) HP.o.1.le ?_;intro A' c' w' hO' hg;have hobj:=Ownv.grown HP.o.1.obj hg (fun _ he=>HNE.o he);have e3:w'.cell? ⟨o,3,none⟩=some (.slice A n cp):=hobj.rd.at_ 3 _ rfl;have e3f:w'.frozen? ⟨o,3,none⟩=false:=Ownv.frozen hobj (by omega) 3;refine hK _ _ ?_;clear hK K);go_ret;have hb:base<=o:=(Ownv.blk_ge hobj (by omega)).1;have s3:=Ownv.set_ hobj (j:=3) (by omega) (.slice A' (n+1) c');have hB2:Below base w w1:=hB1.mono HLE.o;have hB3:Below base w w':=((hB2.alloc (Nat.le_trans HLE.o hB1.size) _).trans HP.o.2).grown hg (by have:=HP.o.1.le;exact this) (fun k hk=>Ownv.ob' HP.o.1.row hk);refine⟨ret_int hip.symm,⟨A',c',s3.1,?_,fun hA=>own_tag_ne hO' hobj (by decide) hA (by simp),?_⟩,?_⟩
 . rw [List.map_append]
   exact Ownv.grown (Own.of_eq hO' rfl (by simp [hip])) s3.2 (fun hA he=>own_tag_ne hO' hobj (by decide) hA (by simp) (Option.some.inj he))
 . exact Nat.le_trans (Nat.le_trans HLE.o hB3.size) s3.2.size
 . exact hB3.grown s3.2 (Nat.le_trans HLE.o hB3.size) (fun k hk=>by injection hk with hk;rw [<- hk];exact hb)
def ValidB(xs:List Int):Bool:=xs.all (fun x=>decide (x<=1))
theorem validB_f{xs:List Int}{j:Nat}(hj:j<xs.length)(h:1<gi xs j):ValidB xs=false:=by
 rw [Bool.eq_false_iff];intro hh;have:=all_gi.1 hh j hj;simp at this;omega
theorem validB_t{xs:List Int}(h:∀ q,q<xs.length->gi xs q<=1):ValidB xs=true:=all_gi.2 fun j hj=>by simpa using h j hj
theorem inv1_any(b:Int)(w:World):Calls prog 352 #[.int .u8 b] w fun e w'=>e= .returned (.bool (decide (1<b)))/\w=w':=by
 go_enter func352,ntmps352;go_wp2;go_ret;exact⟨rfl,rfl⟩
def IdxInv(n:Nat)(xs:List Int)(i:Value):Prop:=∃ j:Nat,j<=n/\i= .int .i64 j/\∀ q,q<j->gi xs q<=1
def IdxPost(xs:List Int)(w:World)(e:Ending)(w':World):Prop:=∃ r:Int,e= .returned (.int .i64 r)/\(0<=r↔ValidB xs=false)/\w=w'
theorem idx_any(A:Option Addr)(n c:Nat)(xs:List Int)(w:World)(h:Rd .u8 w A n c xs) :
 Calls prog 279 #[.slice A n c,.func (.func 352) #[] #[]] w (IdxPost xs w):=by
 have hbd:=h.bd.1;go_enter func279,ntmps279;go_wp2;go_loop [8] (fun i=>IdxInv n xs i) (fun i=>n - (intOf i).toNat)
 case atStart=>exact⟨0,by omega,rfl,by intro q hq;omega⟩
 case round =>
  obtain⟨j,hj,rfl,hv⟩:=hrel;by_cases hlt:j<n
  . have hc:=Rd.cell h hlt
    have hix:=fun W=>Rdv.ix h el26 hlt .i64 W;have HV:=aq hv;clear hv;by_cases h1:gi xs j<=1
    . have h1':decide (1<gi xs j)=false:=by simp;omega
      go_wp2_with (go_at_call 352;refine(inv1_any _ _).mono ?_;rintro e w' ⟨rfl,rfl⟩);go_round
      case rel=>exact⟨j+1,by omega,by go_num,fun q hq=>lt_succ_cases HV.o h1 q hq⟩
      case measure=>simp [intOf];omega
    . have h1':decide (1<gi xs j)=true:=by simp;omega
      have hf:=aq (validB_f (by rw [h.len];exact hlt) (by omega:1<gi xs j));go_wp2_with (go_at_call 352;refine(inv1_any _ _).mono ?_;rintro e w' ⟨rfl,rfl⟩);go_ret;exact⟨_,rfl,by rw [hf.o];simp,rfl⟩
  . have hf:=aq (validB_t (xs:=xs) (by rw [h.len];intro q hq;exact hv q (by omega)))
    go_wp2;go_ret;exact⟨_,rfl,by rw [hf.o];simp,rfl⟩
theorem contains_any(A:Option Addr)(n c:Nat)(xs:List Int)(w:World)(h:Rd .u8 w A n c xs) :
 Calls prog 218 #[.slice A n c,.func (.func 352) #[] #[]] w fun e w'=>e= .returned (.bool (!ValidB xs))/\w=w':=by
 go_enter func218,ntmps218;go_wp2_with (go_at_call 279;refine(idx_any A n c xs w h).mono ?_;rintro e w' ⟨r,rfl,hr,rfl⟩);go_ret;refine⟨ret_bool ?_,rfl⟩;cases hv:ValidB xs<;>simp_all
def pk(xs l:List Int):List Int:=l.map fun i=>gi xs i.toNat
theorem pk_len(xs l:List Int):(pk xs l).length=l.length:=by simp [pk]
theorem gi_pk{xs l:List Int}{j:Nat}(h:j<l.length):gi (pk xs l) j=gi xs (gi l j).toNat:=by
 rw [gi_eq _ _ (by rw [pk_len];exact h),gi_eq l j h];simp [pk]
end Go.Proofs.YthmhogdceolkdaaGreat
namespace Go.Proofs.YthmhogdceolkdaaGreat.Tu
open Tryz
open Go.RowKit
theorem el33:El prog 51 3 (.int .i64 0) 8:=⟨by kernel_rfl,by kernel_rfl,fun _=>by kernel_rfl,rfl⟩
set_option maxHeartbeats 1000000
def ints(D:List Nat):List Int:=D.map fun(d:Nat)=>(d:Int)
theorem ints_len(D:List Nat):(ints D).length=D.length:=by simp [ints]
theorem gi_ints(D:List Nat)(j:Nat)(h:j<D.length):gi (ints D) j=(D[j]:Int):=by
 rw [gi_eq _ _ (by rw [ints_len];exact h)];simp [ints]
def polyV(k f1 f2:Nat):Value:=.agg #[.int .i64 k,.int .i64 f1,.int .i64 f2]
theorem mul_bd{a b A B:Nat}(ha:a<=A)(hb:b<=B):a*b<=A*B:=Nat.mul_le_mul ha hb
theorem at_any(k f1 f2 i:Nat)(hk0:0<k)(hk:k<=6144)(h1:f1<=1000)(h2:f2<=6144)(hi:i<=6144)(w:World) :
 Calls prog 325 #[polyV k f1 f2,.int .i64 i] w fun e w'=>e= .returned (.int .i64 (((f1*i+f2*i % k*i) % k:Nat):Int))/\Below w.heap.size w w':=by
 have a1:=mul_bd h1 hi;have a2:=mul_bd h2 hi;have a3:f2*i % k<k:=Nat.mod_lt _ hk0;have a4:=mul_bd (show f2*i % k<=6144 by omega) hi;obtain⟨m1,h1'⟩:∃ m:Nat,m=f1*i:=⟨_,rfl⟩
 obtain⟨m2,h2'⟩:∃ m:Nat,m=f2*i:=⟨_,rfl⟩
 obtain⟨m3,h3'⟩:∃ m:Nat,m=m2 % k:=⟨_,rfl⟩
 obtain⟨m4,h4'⟩:∃ m:Nat,m=m3*i:=⟨_,rfl⟩
 obtain⟨m6,h6'⟩:∃ m:Nat,m=(m1+m4) % k:=⟨_,rfl⟩
 have e1:(f1:Int)*(i:Int)=(m1:Int):=by rw [h1',Int.natCast_mul]
 have e2:(f2:Int)*(i:Int)=(m2:Int):=by rw [h2',Int.natCast_mul]
 have e3:(m2:Int).tmod (k:Int)=(m3:Int):=by rw [h3'];rfl
 have e4:(m3:Int)*(i:Int)=(m4:Int):=by rw [h4',Int.natCast_mul]
 have e6:((m1:Int)+(m4:Int)).tmod (k:Int)=(m6:Int):=by rw [h6',<- Int.natCast_add];rfl
 have e3':(m2:Int) % (k:Int)=(m3:Int):=by rw [h3'];rfl
 have e6':((m1:Int)+(m4:Int)) % (k:Int)=(m6:Int):=by rw [h6',<- Int.natCast_add];rfl
 rw [<- h1',<- h2',<- h3',<- h4',<- h6'];have b1:m1<=6144000:=by omega
 have b2:m2<=37748736:=by omega
 have b3:m3<=6144:=by rw [h3'];have:=Nat.mod_lt m2 hk0;omega
 have b4:m4<=37748736:=by rw [h4'];have:=mul_bd b3 hi;omega
 clear h1' h2' h3' h4' h6' a1 a2 a3 a4;unfold polyV;go_enter func325,ntmps325;go_wp2;go_quiet (fail);go_wp2;go_ret;exact⟨rfl,((Below.refl _ w).alloc (Nat.le_refl _) _).trans (Qt.below ⟨_,rfl⟩ _)⟩
def CopInv(f:Nat)(D:List Nat)(i:Value):Prop:=∃ j:Nat,j<=D.length/\i= .int .i64 j/\∀ q,(h:q<j)->(h2:q<D.length)->f % D[q]≠0
theorem coprime_any(f:Nat)(hf:f<=100000)(A:Option Addr)(n c:Nat)(D:List Nat)(hD:∀ q ∈ D,1<=q)(w:World)(h:Rd .i64 w A n c (ints D)) :
 Calls prog 347 #[.int .i64 f,.slice A n c] w fun e w'=>e= .returned (.bool (cop f D))/\w=w':=by
 have hbd:=h.bd.1;have hl:=h.len;rw [ints_len]at hl;have HL:=aq hl;go_enter func347,ntmps347;go_wp2;go_loop [9] (fun i=>CopInv f D i) (fun i=>n - (intOf i).toNat)
 case atStart=>exact⟨0,by omega,rfl,by intro q hq;omega⟩
 case round =>
  obtain⟨j,hj,rfl,hv⟩:=hrel;rw [hl]at hj;clear hl;by_cases hlt:j<n
  . have hix:=fun W=>Rdv.ix h el33 hlt .i64 W
    have hcell:=Rd.cell h hlt;have hj':j<D.length:=by rw [HL.o];exact hlt
    rw [gi_ints _ _ hj']at hcell;have hp:=hD _ (List.getElem_mem hj');have hr:(f:Int).tmod (D[j]:Int)=((f % D[j]:Nat):Int):=rfl;have HV:=aq hv;clear hv hD;generalize hd:D[j]=d at *;by_cases h0:f % d=0
    . have hz:((f % d:Nat):Int)=0:=by omega
      have hc:cop f D=false:=by
       unfold cop;rw [Bool.eq_false_iff];intro hc;have:=List.all_eq_true.1 hc d (by rw [<- hd];exact List.getElem_mem hj');simp [h0]at this
      rw [hz]at hr;have HC:=aq hc;clear hc;go_wp2;go_ret;exact⟨ret_bool HC.o.symm,rfl⟩
    . have hz:(((f % d:Nat):Int) == 0)=false:=beq_f (by omega)
      have H0:=aq h0;clear h0;go_wp2;go_round
      case rel=>exact⟨j+1,by omega,by go_num,fun q hq h2=>by
       by_cases e:q=j
       . subst e;rw [hd];exact H0.o
       . exact HV.o q (by omega) h2⟩
      case measure=>simp [intOf];omega
  . have hc:cop f D=true:=by
     unfold cop;rw [List.all_eq_true];intro p hp;obtain⟨q,hq,rfl⟩:=List.getElem_of_mem hp;have:=hv q (by rw [HL.o]at hq;omega) hq;simpa using this
    have HC:=aq hc;clear hc hv
    go_wp2
    go_ret
    exact⟨ret_bool HC.o.symm,rfl⟩
def DivSt(w wr:World)(b:Nat)(acc:List Nat):Prop:=∃ vs,Own .i64 410 wr w.heap.size (some ⟨b,0,none⟩) 50 50 vs/\(∀ q,(h:q<acc.length)->gi vs q=(acc[q]:Int))/\Below w.heap.size w wr
theorem DivSt.cell{w wr:World}{b:Nat}{acc:List Nat}(h:DivSt w wr b acc)(j:Nat)(hj:j<50):∃ v,wr.cell? ⟨b,j,none⟩=some (.int .i64 v):=by
 obtain⟨vs,hO,_⟩:=h;have:=Rd.cell (Own.rd hO) hj;rw [adr_some,Nat.zero_add]at this;exact⟨_,this⟩
theorem DivSt.frozen{w wr:World}{b:Nat}{acc:List Nat}(h:DivSt w wr b acc)(j:Nat):wr.frozen? ⟨b,j,none⟩=false:=by
 obtain⟨vs,hO,_⟩:=h;have:=Ownv.frozen hO (by omega) j;rwa [adr_some,Nat.zero_add]at this
theorem DivSt.push{w wr:World}{b:Nat}{acc:List Nat}(h:DivSt w wr b acc)(hj:acc.length<50)(p:Nat):DivSt w (wr.setCell ⟨b,acc.length,none⟩ (.int .i64 p)) b (acc ++ [p]):=by
 obtain⟨vs,hO,hv,hB⟩:=h;have hs:=Own.set_ hO hj (p:Int);rw [adr_some,Nat.zero_add]at hs;have hl:=(Own.rd hO).len;refine⟨_,hs.1,fun q hq=>?_,hB.grown hs.2 hB.size (fun k hk=>by injection hk with hk;rw [<- hk];exact(Ownv.blk_ge hO (by omega)).1)⟩;rw [List.length_append]at hq;simp only [List.length_cons,List.length_nil]at hq;rw [gi_eq _ _ (by rw [List.length_set];omega),List.getElem_set];by_cases e:acc.length=q
 . subst e;rw [if_pos rfl,List.getElem_append_right (Nat.le_refl _)];simp
 . rw [if_neg e,List.getElem_append_left (by omega),<- gi_eq vs q (by omega)]
   exact hv q (by omega)
theorem slice122(b n:Nat)(hn:n<=50)(W:World):(Instr.sliceAt 410 (.pointer (some ⟨b,0,none⟩)) none (some (.int .i64 (n:Int))) (some (.int .i64 (n:Int)))).run prog W= .ok (.slice (some ⟨b,0,none⟩) n n) W:=by
 have h1:prog.arrayLen 410=50:=by kernel_rfl
 have h2:∀ W,(sizeOf (prog.elem 410)).run prog W= .ok 1 W:=fun _=>by kernel_rfl
 rw [run_sliceAt_array_hm W 410 ⟨b,0,none⟩ (by kernel_rfl) .i64 .i64 n n (by omega) (by omega) (by rw [h1];omega),h2];have h3:slicedAt ⟨b,0,none⟩ 0 n n 1= .slice (some ⟨b,0,none⟩) n n:=by
  unfold slicedAt;rw [Nat.zero_mul,add_lit,Nat.add_zero,ite_self,Nat.sub_zero]
 rw [Result.andThen_ok,Int.toNat_natCast,h3]
def DivInv(w:World)(b:Nat)(D:List Nat)(k n p:Value)(wr:World):Prop :=
 ∃ (kk q:Nat) (acc:List Nat),k= .int .i64 kk/\n= .int .i64 acc.length/\p= .int .i64 q/\1<=kk/\kk<=6144/\2<=q/\q<=102/\dvs (102 - q) q kk acc=some D/\DivSt w wr b acc
def StripInv(q K:Nat)(k:Value):Prop:=∃ (f x:Nat),k= .int .i64 x/\1<=x/\x<=6144/\strip f q x=some K
theorem divisors_any(k:Nat)(D:List Nat)(hk0:1<=k)(hk:k<=6144)(hD:dvs 100 2 k []=some D)(hDl:D.length<=12)(w:World) :
 Calls prog 346 #[.int .i64 k] w fun e w'=>e= .returned (.slice (some ⟨w.heap.size,0,none⟩) D.length D.length)/\Rd .i64 w' (some ⟨w.heap.size,0,none⟩) D.length D.length (ints D)/\Below w.heap.size w w':=by
 go_enter func346,ntmps346;go_wp2;go_loopw [0,4,5] (fun kv nv pv wr=>DivInv w w.heap.size D kv nv pv wr) (fun _ _ pv _=>102 - (intOf pv).toNat)
 case atStart=>exact⟨k,2,[],rfl,rfl,rfl,hk0,hk,by omega,by omega,hD,⟨List.replicate 50 0,Own.of_eq (Ownv.lit w _ 410 rfl (Nat.le_refl _) (by unfold maxLen;decide)) rfl rfl,(by intro q hq;cases hq),(Below.refl _ w).alloc (Nat.le_refl _) _⟩⟩
 case round =>
  obtain⟨kk,q,acc,rfl,rfl,rfl,h1,h2,hq2,hq102,hd,hst⟩:=hrel;clear hD hk0 hk;by_cases hk1:1<kk
  . obtain⟨f',k2,hf,hs,hd'⟩:=dvs_step hd hk1
    obtain rfl:f'=102 - (q+1):=by omega
    have HS:=aq hs;have ht:(kk:Int).tmod (q:Int)=((kk % q:Nat):Int):=rfl;have hm:(kk:Int) % (q:Int)=((kk % q:Nat):Int):=rfl;have hfq:q<102:=by omega
    clear hd hs hf;by_cases h0:kk % q=0
    . rw [if_pos h0]at hd'
      rw [h0]at ht hm;have hl:=dvs_len _ _ _ _ _ hd';rw [List.length_append]at hl;simp only [List.length_cons,List.length_nil]at hl;have HD:=aq hd';obtain⟨cv,hcell⟩:=hst.cell acc.length (by omega);have hfz:=hst.frozen acc.length;have HST:=aq (hst.push (by omega) q);have HLN:Hid ((acc ++ [q]).length=acc.length+1):=aq (by simp);clear hd' h0 hst;go_wp2;go_loop [0] (fun x=>StripInv q k2 x) (fun x=>(intOf x).toNat)
      case atStart=>exact⟨14,kk,rfl,h1,h2,HS.o⟩
      case round =>
       obtain⟨g,x,rfl,hx1,hx2,hxs⟩:=hrel;have hxt:(x:Int).tmod (q:Int)=((x % q:Nat):Int):=rfl;have hxm:(x:Int) % (q:Int)=((x % q:Nat):Int):=rfl;have hxq:(x:Int).tdiv (q:Int)=((x / q:Nat):Int):=rfl;have hxd:(x:Int) / (q:Int)=((x / q:Nat):Int):=rfl;by_cases hx0:x % q=0
       . rw [hx0]at hxt hxm
         obtain⟨g',rfl,hg⟩:=strip_step hxs hx0;have hge:1<=x / q:=by
          rcases Nat.eq_zero_or_pos (x / q) with e | e
          . have:=Nat.div_add_mod x q;rw [e,hx0]at this;omega
          . exact e
         have hlt:x / q<x:=Nat.div_lt_self hx1 hq2;have HG:=aq hg;clear hxs hg hx0;generalize x / q=y at *;go_wp2;go_round
         case rel=>exact⟨g',y,by go_num,hge,by omega,HG.o⟩
         case measure=>simp [intOf];omega
       . have hxe:=strip_end hxs hx0
         subst hxe;obtain⟨m,hm',hmp⟩:∃ m:Nat,x % q=m/\m≠0:=⟨_,rfl,hx0⟩
         rw [hm']at hxt hxm;have hz:((m:Int) == 0)=false:=beq_f (by omega);clear hx0 hxs;go_wp2;go_roundw
         case rel=>exact⟨x,q+1,_,rfl,by rw [HLN.o];go_num,by go_num,hx1,hx2,by omega,by omega,HD.o,HST.o⟩
         case measure=>simp [intOf];omega
    . rw [if_neg h0]at hd'
      obtain⟨m0,hm0,hmp0⟩:∃ m:Nat,kk % q=m/\m≠0:=⟨_,rfl,h0⟩
      rw [hm0]at ht hm;have hz0:((m0:Int) == 0)=false:=beq_f (by omega);have HD:=aq hd';have HST:=aq hst;clear hd' h0 hst hm0;go_wp2;go_loop [0] (fun x=>StripInv q k2 x) (fun x=>(intOf x).toNat)
      case atStart=>exact⟨14,kk,rfl,h1,h2,HS.o⟩
      case round =>
       obtain⟨g,x,rfl,hx1,hx2,hxs⟩:=hrel;have hxt:(x:Int).tmod (q:Int)=((x % q:Nat):Int):=rfl;have hxm:(x:Int) % (q:Int)=((x % q:Nat):Int):=rfl;have hxq:(x:Int).tdiv (q:Int)=((x / q:Nat):Int):=rfl;have hxd:(x:Int) / (q:Int)=((x / q:Nat):Int):=rfl;by_cases hx0:x % q=0
       . rw [hx0]at hxt hxm
         obtain⟨g',rfl,hg⟩:=strip_step hxs hx0;have hge:1<=x / q:=by
          rcases Nat.eq_zero_or_pos (x / q) with e | e
          . have:=Nat.div_add_mod x q;rw [e,hx0]at this;omega
          . exact e
         have hlt:x / q<x:=Nat.div_lt_self hx1 hq2;have HG:=aq hg;clear hxs hg hx0;generalize x / q=y at *;go_wp2;go_round
         case rel=>exact⟨g',y,by go_num,hge,by omega,HG.o⟩
         case measure=>simp [intOf];omega
       . have hxe:=strip_end hxs hx0
         subst hxe;obtain⟨m,hm',hmp⟩:∃ m:Nat,x % q=m/\m≠0:=⟨_,rfl,hx0⟩
         rw [hm']at hxt hxm;have hz:((m:Int) == 0)=false:=beq_f (by omega);clear hx0 hxs;go_wp2;go_roundw
         case rel=>exact⟨x,q+1,_,rfl,by go_num,by go_num,hx1,hx2,by omega,by omega,HD.o,HST.o⟩
         case measure=>simp [intOf];omega
  . have he:=dvs_end hd (by omega)
    subst he;have hsl:=slice122 w.heap.size acc.length (by omega);have hb:acc.length<=50:=by omega
    have HST:=aq hst;clear hst hd;go_wp2;go_ret;obtain⟨vs,hO,hv,hB⟩:=HST.o;refine⟨rfl,?_,hB⟩;have hl:=(Own.rd hO).len;have hr:=Rdv.upto (Ownv.rd (Ownv.upto hO (m:=acc.length) hb)) (Nat.le_refl _);refine⟨by simp [ints],Nat.le_refl _,by unfold maxLen;omega,nofun,(Own.rd hO).spot ∘ fun _=>by omega,(Own.rd hO).lt ∘ fun _=>by omega,fun q v hq=>?_⟩;rw [List.getElem?_map]at hq;cases hq2:(ints acc)[q]? with
    | none=>rw [hq2]at hq;cases hq
    | some x =>
      rw [hq2]at hq;obtain rfl:=Option.some.inj hq;obtain⟨hql,hqe⟩:=List.getElem?_eq_some_iff.1 hq2;rw [ints_len]at hql;have hc:=Rd.cell (Own.rd hO) (show q<50 by omega);rw [hc,hv q hql,<- hqe,<- gi_eq,gi_ints _ _ hql]
theorem wp_scope_fwd{P:Program}{a:Act}{w:World}{Q:Exit->Act->World->Prop}{c rest:Code}(l:Nat)(hf:findLabel c l=some rest)
 (first:c.wp P (Exit.jump l (fun a w=>rest.wp P (Exit.jump l (fun _ _=>False) Q) a w) Q) a w):(Code.scope c).wp P Q a w :=
 wp_scope_jumps l (fun a w=>rest.wp P (Exit.jump l (fun _ _=>False) Q) a w) (fun _ _=>0) hf first fun a w h=>Code.wp_mono (fun e a w h=>by
  cases e<;>first | exact h | exact⟨h.1,h.2.elim⟩) h
def Obj3(w:World)(base b:Nat)(x y z:Int):Prop:=Own .i64 372 w base (some ⟨b,0,none⟩) 3 3 [x,y,z]
theorem Obj3.new(w:World)(x y z:Int):Obj3 (w.alloc (.cells #[.int .i64 x,.int .i64 y,.int .i64 z] 372)) w.heap.size w.heap.size x y z :=
 Own.of_eq (Ownv.lit w #[.int .i64 x,.int .i64 y,.int .i64 z] 372 rfl (Nat.le_refl _) (by show 3<=maxLen;unfold maxLen;omega)) rfl rfl
theorem Obj3.facts{w:World}{base b:Nat}{x y z:Int}(h:Obj3 w base b x y z):w.cell? ⟨b,0,none⟩=some (.int .i64 x)/\w.cell? ⟨b,1,none⟩=some (.int .i64 y)/\w.cell? ⟨b,2,none⟩=some (.int .i64 z)/\w.frozen? ⟨b,0,none⟩=false/\w.frozen? ⟨b,1,none⟩=false/\w.frozen? ⟨b,2,none⟩=false :=
 ⟨Rd.cell (Own.rd h) (j:=0) (by omega),Rd.cell (Own.rd h) (j:=1) (by omega),Rd.cell (Own.rd h) (j:=2) (by omega),Ownv.frozen h (by omega) 0,Ownv.frozen h (by omega) 1,Ownv.frozen h (by omega) 2⟩
theorem Obj3.row{w:World}{base b:Nat}{x y z:Int}(h:Obj3 w base b x y z):w.heap[b]?=some (.cells #[.int .i64 x,.int .i64 y,.int .i64 z] 372 (0,0)):=by
 obtain⟨_,h2⟩:=Ownv.cases h;rcases h2 with⟨h3,_⟩ | ⟨g,cur,h3,hb,hh,hnc,hcm,hs,ht⟩
 . cases h3
 . cases h3
   have:cur.toList=[.int .i64 x,.int .i64 y,.int .i64 z]:=by
    rw [<- List.take_of_length_le (l:=cur.toList) (i:=3) (by simp [hs])];exact ht
   rw [hh,show cur=#[.int .i64 x,.int .i64 y,.int .i64 z] from Array.toList_inj.1 this]
theorem Obj3.mono{w:World}{base base' b:Nat}{x y z:Int}(h:Obj3 w base b x y z)(hb:base'<=base):Obj3 w base' b x y z:=Ownv.mono h hb
theorem Obj3.set0{w:World}{base b:Nat}{x y z:Int}(h:Obj3 w base b x y z)(v:Int):Obj3 (w.setCell ⟨b,0,none⟩ (.int .i64 v)) base b v y z:=(Own.set_ h (j:=0) (by omega) v).1
theorem Obj3.set1{w:World}{base b:Nat}{x y z:Int}(h:Obj3 w base b x y z)(v:Int):Obj3 (w.setCell ⟨b,1,none⟩ (.int .i64 v)) base b x v z:=(Own.set_ h (j:=1) (by omega) v).1
theorem Obj3.set2{w:World}{base b:Nat}{x y z:Int}(h:Obj3 w base b x y z)(v:Int):Obj3 (w.setCell ⟨b,2,none⟩ (.int .i64 v)) base b x y v:=(Own.set_ h (j:=2) (by omega) v).1
theorem Obj3.below{w w1:World}{base b:Nat}{x y z:Int}(h:Obj3 w base b x y z)(hB:Below w.heap.size w w1):Obj3 w1 base b x y z:=Ownv.below h hB
theorem Obj3.gr{w:World}{base b:Nat}{x y z:Int}(h:Obj3 w base b x y z)(j:Nat)(hj:j<3)(v:Int):w.grownBy (w.setCell ⟨b,j,none⟩ (.int .i64 v)) (some b):=by
 have:=(Own.set_ h (j:=j) hj v).2;rw [adr_some,Nat.zero_add]at this;exact this
theorem Obj3.beside{w:World}{base b B b':Nat}{x y z x' y' z':Int}(h:Obj3 w base b x y z)(h':Obj3 w B b' x' y' z')(hne:b'≠b)(j:Nat)(hj:j<3)(v:Int):Obj3 (w.setCell ⟨b,j,none⟩ (.int .i64 v)) B b' x' y' z' :=
 Ownv.grown h' (h.gr j hj v) (fun _ he=>hne (Option.some.inj he))
theorem Obj3.bel{w w0:World}{base b B:Nat}{x y z:Int}(h:Obj3 w base b x y z)(hB:Below B w0 w)(hb:B<=b)(hs:w0.heap.size<=w.heap.size)(j:Nat)(hj:j<3)(v:Int):Below B w0 (w.setCell ⟨b,j,none⟩ (.int .i64 v)):=by
 have hg:=h.gr j hj v;exact⟨hg.os.trans hB.os,hg.tape.trans hB.tape,hg.output.trans hB.output,Nat.le_trans hs hg.size,fun k hk=>(hg.block k (Nat.lt_of_lt_of_le (Nat.lt_of_lt_of_le hk hb) (Nat.le_of_lt (Ownv.blk_ge h (by omega)).2)) (by intro he;have:=Option.some.inj he;omega)).trans (hB.block k hk)⟩
theorem res64(a:Array Value)(W:World)(base g:Nat)(x y z:Int)(E:Int)(h2:a.getD 2 undef= .pointer (some ⟨g,0,none⟩))(h3:a.getD 3 undef= .int .i64 E)(hO:Obj3 W base g x y z) :
 (results Tryz.f324 a).run prog W= .ok (.tuple #[.agg #[.int .i64 x,.int .i64 y,.int .i64 z],.int .i64 E]) W:=by
 rw [results_cell_tmp rfl,h2,h3];have hl:=run_loadVar_row (P:=prog) W g 372 372 _ (0,0) _ hO.row underlying372 rfl (by kernel_rfl);simp [asAddr,hl,Sem.run_pure]
def permV(k:Int):Value:=if validK k=true then .agg #[.int .i64 k,.int .i64 (f1N k.toNat:Int),.int .i64 (f2N k.toNat:Int)] else .agg #[.int .i64 0,.int .i64 0,.int .i64 0]
def permE(k:Int):Int:=if validK k=true then 0 else 2
def OfSt(w wr:World)(k a b:Nat)(A:Option Addr)(n:Nat)(D:List Nat):Prop :=
 Obj3 wr w.heap.size (w.heap.size+1) k a b/\Obj3 wr w.heap.size w.heap.size 0 0 0/\Rd .i64 wr A n n (ints D)/\Below w.heap.size w wr
theorem OfSt.set{w wr:World}{k a b:Nat}{A:Option Addr}{n:Nat}{D:List Nat}(h:OfSt w wr k a b A n D)(hA:A≠none->blk A≠w.heap.size+1)(j:Nat)(hj:j<3)(v:Int){a' b':Nat}(hO:Obj3 (wr.setCell ⟨w.heap.size+1,j,none⟩ (.int .i64 v)) w.heap.size (w.heap.size+1) k a' b') :
 OfSt w (wr.setCell ⟨w.heap.size+1,j,none⟩ (.int .i64 v)) k a' b' A n D :=
 ⟨hO,h.1.beside h.2.1 (by omega) j hj v,Rdv.grown h.2.2.1 (h.1.gr j hj v) (fun ha he=>hA ha (Option.some.inj he)),h.1.bel h.2.2.2 (by omega) h.2.2.2.size j hj v⟩
def OfInv(w:World)(k:Nat)(A:Option Addr)(n:Nat)(D:List Nat)(i:Value)(wr:World):Prop:=∃ j:Nat,j<=n/\i= .int .i64 j/\OfSt w wr k 3 (prodL (D.take j)) A n D
def OfInv2(w:World)(k F f2:Nat)(A:Option Addr)(n:Nat)(D:List Nat)(wr:World):Prop:=∃ m f:Nat,fnd m f D=some F/\OfSt w wr k f f2 A n D
def cellNat(wr:World)(b j:Nat):Nat:=match wr.cell? ⟨b,j,none⟩ with
 | some (.int _ v)=>v.toNat
 | _=>0
theorem prodL_take(D:List Nat)(j:Nat)(h:j<D.length):prodL (D.take (j+1))=prodL (D.take j)*D[j]:=by
 rw [List.take_add_one,List.getElem?_eq_getElem h,prodL_app];simp [prodL]
theorem prodL_take_le{D:List Nat}(hp:∀ q ∈ D,1<=q)(j:Nat):prodL (D.take j)<=prodL D:=by
 have:=prodL_le (a:=D.take j) (t:=D.drop j) (by rw [List.take_append_drop];exact hp);rwa [List.take_append_drop]at this
theorem of_any(k:Int)(w:World):Calls prog 324 #[.int .i64 k] w fun e w'=>e= .returned (.tuple #[permV k,.int .i64 (permE k)])/\Below w.heap.size w w':=by
 by_cases hv:validK k=true
 . obtain⟨kb0,kb1⟩:=valid_bd hv
   obtain⟨n,rfl⟩:∃ n:Nat,k=(n:Int):=⟨k.toNat,by omega⟩
   have hP:=prm hv;have e1:permV (n:Int)= .agg #[.int .i64 n,.int .i64 (f1N n:Int),.int .i64 (f2N n:Int)]:=by unfold permV;rw [if_pos hv,Int.toNat_natCast]
   have e2:permE (n:Int)=0:=by unfold permE;rw [if_pos hv]
   rw [e1,e2];clear e1 e2;have hf2:f2N n=prodL (dvL n):=rfl;obtain⟨-,-,pd,pf,-,pl,pb1,pb2,pp⟩:=hP;rw [hf2]at pb2 ⊢;have HP:=aq pp;have HF:=aq pf;clear pp pf hf2;generalize dvL n=D at *;generalize f1N n=F at *;have HPB:=aq pb2;clear pb2;go_enter func324,ntmps324;go_wp2_with fail;go_step3;go_wp2_with fail;refine(valid_any _ _).mono ?_;rintro e w1 ⟨rfl,hB1⟩;rw [hv];have hO:Obj3 w1 w.heap.size w.heap.size 0 0 0:=Ownv.below (Ownv.alloc (Obj3.new w 0 0 0) _) hB1;have hO1:Obj3 w1 w.heap.size (w.heap.size+1) n 3 1:=by
    have h1:=Obj3.new (w.alloc (.cells #[.int .i64 0,.int .i64 0,.int .i64 0] 372)) n 3 1;rw [show (w.alloc (.cells #[.int .i64 0,.int .i64 0,.int .i64 0] 372)).heap.size=w.heap.size+1 by simp]at h1;exact(h1.mono (by omega)).below hB1
   have hBw:Below w.heap.size w w1:=(((Below.refl _ w).alloc (Nat.le_refl _) _).alloc (by simp) _).trans (hB1.mono (by simp;omega));have hsz:w.heap.size+2<=w1.heap.size:=by have:=hB1.size;simpa using this
   clear hB1 hv;go_wp2_with fail;refine(divisors_any n D (by omega) (by omega) pd pl w1).mono ?_;rintro e w2 ⟨rfl,hR,hB2⟩;have hst:OfSt w w2 n 3 (prodL (D.take 0)) (some ⟨w1.heap.size,0,none⟩) D.length D:=⟨hO1.below hB2,hO.below hB2,hR,hBw.trans (hB2.mono hBw.size)⟩
   have hA:(some ⟨w1.heap.size,0,none⟩:Option Addr)≠none->blk (some ⟨w1.heap.size,0,none⟩)≠w.heap.size+1:=fun _ he=>by
    have:w1.heap.size=w.heap.size+1:=he;omega
   have HA:=aq hA;have hDl:D.length<=12:=pl;clear hO hO1 hBw hB2 hR hA pd;generalize w1.heap.size=g at *;go_wp2_with fail;go_loopw [18] (fun i wr=>OfInv w n (some ⟨g,0,none⟩) D.length D i wr) (fun i _=>D.length - (intOf i).toNat)
   case atStart=>exact⟨0,by omega,rfl,hst⟩
   case round =>
    obtain⟨j,hj,rfl,hs⟩:=hrel;clear hst;by_cases hlt:j<D.length
    . have hix:=fun W=>Rdv.ix hs.2.2.1 el33 hlt .i64 W
      have hcell:=Rd.cell hs.2.2.1 hlt;rw [gi_ints _ _ hlt,adr_some,Nat.zero_add]at hcell;obtain⟨c0,c1,c2,f0,f1,f2⟩:=hs.1.facts;have hpt:=prodL_take D j hlt;have hple:=prodL_take_le HP.o (j+1);have hpb:=HPB.o;obtain⟨P',hP'⟩:∃ P',prodL (D.take (j+1))=P':=⟨_,rfl⟩
      have HS:=aq hs;rw [hP']at hpt hple;have HPT:=aq hP';generalize prodL (D.take j)=p at *;have em:(p:Int)*(D[j]:Int)=(P':Int):=by rw [hpt,Int.natCast_mul]
      have hP'b:P'<=6144:=by omega
      clear hs hP' hpt hple hpb;generalize D[j]=d at *;go_wp2;go_roundw
      case rel=>exact⟨j+1,by omega,by go_num,by rw [HPT.o];exact HS.o.set HA.o 2 (by omega) _ (HS.o.1.set2 _)⟩
      case measure=>simp [intOf];omega
    . obtain rfl:j=D.length:=by omega
      rw [List.take_length]at hs;go_wp2_with fail;go_loopw [35] (fun _ wr=>OfInv2 w n F (prodL D) (some ⟨g,0,none⟩) D.length D wr) (fun _ wr=>F - cellNat wr (w.heap.size+1) 1)
      case atStart=>exact⟨50,3,HF.o,hs⟩
      case round =>
       obtain⟨m,f,hfd,hst⟩:=hrel;clear hs;obtain⟨c0,c1,c2,f0,f1,f2⟩:=hst.1.facts;have hfF:=fnd_le _ _ _ _ hfd;have HFD:=aq hfd;clear hfd;go_wp2_with fail;refine(coprime_any f (by omega) _ _ _ D HP.o _ hst.2.2.1).mono ?_;rintro e w4 ⟨rfl,rfl⟩;by_cases hc:cop f D=true
       . obtain rfl:=fnd_end HFD.o hc
         rw [hc];obtain⟨d0,d1,d2,g0,g1,g2⟩:=hst.2.1.facts;have HST:=aq hst;clear hst hc;go_wp2;rw [Exit.noGoto_ret];have q0:=HST.o.2.1;have qB:=HST.o.2.2.2;have h1:=q0.bel (B:=w.heap.size) (w0:=w) qB (Nat.le_refl _) qB.size 0 (by omega) n;have h2:=(q0.set0 n).bel h1 (Nat.le_refl _) h1.size 1 (by omega) f;have h3:=((q0.set0 n).set1 f).bel h2 (Nat.le_refl _) h2.size 2 (by omega) (prodL D);exact bodyPost_ret (res64 _ _ _ w.heap.size n f (prodL D) 0 rfl rfl (((q0.set0 n).set1 f).set2 (prodL D))) rfl ⟨rfl,h3⟩
       . have hcf:cop f D=false:=by simpa using hc
         obtain⟨hle,m',hm'⟩:=fnd_step HFD.o hcf;rw [hcf];have HM:=aq hm';have HST:=aq hst;clear hst hc hcf hm';go_wp2;go_roundw
         case rel=>exact⟨m',f+2,HM.o,HST.o.set HA.o 1 (by omega) _ (HST.o.1.set1 _)⟩
         case measure =>
          have h1:cellNat wr (w.heap.size+1) 1=f:=by unfold cellNat;rw [c1];rfl
          have h2:cellNat (wr.setCell ⟨w.heap.size+1,1,none⟩ (.int .i64 ((f:Int)+2))) (w.heap.size+1) 1=f+2:=by
           unfold cellNat;rw [(HST.o.1.set1 ((f:Int)+2)).facts.2.1];simp;omega
          rw [h1,h2];omega
 . have e1:permV k= .agg #[.int .i64 0,.int .i64 0,.int .i64 0]:=by unfold permV;rw [if_neg hv]
   have e2:permE k=2:=by unfold permE;rw [if_neg hv]
   rw [e1,e2];have hv':validK k=false:=by simpa using hv
   clear e1 e2 hv;go_enter func324,ntmps324;go_wp2_with fail;refine wp_scope_fwd 0 rfl ?_;go_wp2_with fail;refine(valid_any _ _).mono ?_;rintro e w1 ⟨rfl,hB1⟩;have hO:Obj3 w1 w.heap.size w.heap.size 0 0 0:=Ownv.below (Ownv.alloc (Obj3.new w 0 0 0) _) hB1;obtain⟨c0,c1,c2,f0,f1,f2⟩:=hO.facts;go_wp2;go_step3;refine⟨rfl,?_⟩;go_wp2;simp only [Exit.jump];have hO':=((hO.set0 0).set1 0).set2 0;have h1:=hO.bel (B:=w.heap.size) (w0:=w) ((((Below.refl _ w).alloc (Nat.le_refl _) _).alloc (by simp) _).trans (hB1.mono (by simp;omega))) (Nat.le_refl _) (by have:=hB1.size;simp at this;omega) 0 (by omega) 0;have h2:=(hO.set0 0).bel h1 (Nat.le_refl _) h1.size 1 (by omega) 0;have h3:=((hO.set0 0).set1 0).bel h2 (Nat.le_refl _) h2.size 2 (by omega) 0;exact bodyPost_ret (res64 _ _ _ w.heap.size 0 0 0 2 rfl rfl hO') rfl ⟨rfl,h3⟩
end Go.Proofs.YthmhogdceolkdaaGreat.Tu