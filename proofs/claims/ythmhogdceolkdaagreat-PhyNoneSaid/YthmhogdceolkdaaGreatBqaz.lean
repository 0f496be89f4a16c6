/- Bundle. Conditions: none. -/
import Derived.Test.YthmhogdceolkdaaGreatBqay
import Derived.Deep.AppendLies
import Derived.Test.YthmhogdceolkdaaGreatBqaj
import Derived.Test.YthmhogdceolkdaaGreatBqad
import Derived.Test.YthmhogdceolkdaaGreatBqao
import Derived.Deep.QuietTactic
import Derived.BigQuiet
set_option linter.unusedVariables false
set_option linter.unusedSimpArgs false
namespace Go.Proofs.YthmhogdceolkdaaGreat
open Tryz
open Go.RowKit
structure RowD where
 k:IntKind
 e:TypeId
 A:Option Addr
 n:Nat
 c:Nat
 xs:List Int
section
variable {base : Nat} {W W' : World} {r1 r2 r3 : RowD}
end
section
variable {w wr w' : World} {bf bg N bA cap base : Nat} {F G : Nat -> List Int}
end
theorem Rdv.slhm{P:Program}{w:World}{A:Option Addr}{n c:Nat}{vs:List Value}(h:Rdv w A n c vs){t e:TypeId}{z:Value}{bytes:Nat}(E:El P t e z bytes)(kh km:IntKind){m:Nat}(hm:m<=c)(W:World) :
 (Instr.sliceAt t (.slice A n c) none (some (.int kh (m:Int))) (some (.int km (m:Int)))).run P W= .ok (.slice A m m) W:=by
 have e1:P.underlying t=some (.slice (P.elem t)):=by rw [E.u];simp [Program.elem,E.u]
 have e2:P.elem t=e:=by simp [Program.elem,E.u]
 rw [run_sliceAt_slice W t _ _ _ _ e1,run_slice_hm W t A n c e1 kh km m m (by omega) (by omega) (by omega),e2,E.s];simp only [Result.andThen_ok,Int.toNat_natCast,sliced,Nat.zero_mul,Nat.sub_zero];congr 2;split
 . rfl
 . cases A<;>simp [Addr.add]
theorem Rdv.capn{w:World}{A:Option Addr}{n c:Nat}{vs:List Value}(h:Rdv w A n c vs):Rdv w A n n vs:=by
 have hle:=h.le;exact⟨h.len,Nat.le_refl _,Nat.le_trans hle h.cm,fun e=>by have:=h.nil e;omega,fun hn=>h.spot (by omega),fun hn=>h.lt (by omega),h.at_⟩
def u3(f:Nat->Bool):List Int:=[ib (f 0),ib (f 1),ib (f 2)]
set_option maxRecDepth 100000
set_option maxHeartbeats 1000000
theorem cell_below{w w':World}{p:Addr}{v:Value}(hc:w.cell? p=some v)(h:Below w.heap.size w w'):w'.cell? p=some v:=(h.cell (World.block_lt_of_cell? w _ hc)).trans hc
theorem size_any(A:Option Addr)(n c:Nat)(w:World)(hn:n<=1000000):Calls prog 237 #[.slice A n c] w fun e w'=>e= .returned (.int .i64 ((n:Int) / 3 - 4))/\w=w':=by
 have a1:(n:Int).tdiv 3=(n:Int) / 3:=Int.tdiv_eq_ediv_of_nonneg (by omega);have a2:IntKind.i64.wrap ((n:Int) / 3)=(n:Int) / 3:=by rw [IntKind.wrap_i64];omega
 have a3:IntKind.i64.wrap ((n:Int) / 3 - 4)=(n:Int) / 3 - 4:=by rw [IntKind.wrap_i64];omega
 go_enter func237,ntmps237;go_wp2;go_ret;exact⟨rfl,rfl⟩
theorem bsoft_any(v:Int)(w:World):Calls prog 239 #[.int .i64 v] w fun e w'=>e= .returned (.bool (!decide (-127<=v/\v<=127)))/\w=w':=by
 by_cases h1:v < -127
 . rw [show decide (-127<=v/\v<=127)=false from by simp;omega]
   go_enter func239,ntmps239;go_wp2;go_ret;exact⟨rfl,rfl⟩
 . rw [show decide (-127<=v/\v<=127)=!decide (127<v) from by rw [Bool.eq_iff_iff];simp;omega,Bool.not_not]
   go_enter func239,ntmps239;go_wp2;go_ret;exact⟨rfl,rfl⟩
theorem bidx_any(A:Option Addr)(n c:Nat)(xs:List Int)(w:World)(h:Rd .i64 w A n c xs) :
 Calls prog 230 #[.slice A n c,.func (.func 239) #[] #[]] w (SPost (SoftB xs) w):=by
 have hbd:=h.bd.1;go_enter func230,ntmps230;go_wp2;go_loop [8] (fun i=>SIdx n xs i) (fun i=>n - (intOf i).toNat)
 case atStart=>exact⟨0,by omega,rfl,by intro q hq;omega⟩
 case round =>
  obtain⟨j,hj,rfl,hv⟩:=hrel;by_cases hlt:j<n
  . have hc:=Rd.cell h hlt
    have hix:=fun W=>Rdv.ix h el22 hlt .i64 W;have HV:=aq hv;clear hv;by_cases h1:-127<=gi xs j/\gi xs j<=127
    . have h1':(!decide (-127<=gi xs j/\gi xs j<=127))=false:=by simp;omega
      have H1:=aq h1;clear h1;go_wp2_with (go_at_call 239;refine(bsoft_any _ _).mono ?_;rintro e w' ⟨rfl,rfl⟩;rw [h1']);go_round
      case rel=>exact⟨j+1,by omega,by go_num,fun q hq=>lt_succ_cases HV.o H1.o q hq⟩
      case measure=>simp [intOf];omega
    . have h1':(!decide (-127<=gi xs j/\gi xs j<=127))=true:=by simp;omega
      have hf:=aq (softB_f (by rw [h.len];exact hlt) h1);clear h1;go_wp2_with (go_at_call 239;refine(bsoft_any _ _).mono ?_;rintro e w' ⟨rfl,rfl⟩;rw [h1']);go_ret;exact⟨_,rfl,by rw [hf.o];simp,rfl⟩
  . have hf:=aq (softB_t (xs:=xs) (by rw [h.len];intro q hq;exact hv q (by omega)))
    clear hv;go_wp2;go_ret;exact⟨_,rfl,by rw [hf.o];simp,rfl⟩
theorem bcont_any(A:Option Addr)(n c:Nat)(xs:List Int)(w:World)(h:Rd .i64 w A n c xs) :
 Calls prog 233 #[.slice A n c,.func (.func 239) #[] #[]] w fun e w'=>e= .returned (.bool (!SoftB xs))/\w=w':=by
 go_enter func233,ntmps233;go_wp2_with (go_at_call 230;refine(bidx_any A n c xs w h).mono ?_;rintro e w' ⟨r,rfl,hr,rfl⟩);go_ret;refine⟨ret_bool ?_,rfl⟩;cases hv:SoftB xs<;>simp_all
def PkII(w:World)(n:Nat)(Am:Option Addr)(g:Int->Int)(l:List Int)(i:Value)(wr:World):Prop:=∃ (j:Nat) (cur:List Int),j<=n/\i= .int .i64 (j:Int)/\Own .i64 3 wr w.heap.size Am n n cur/\(∀ q,q<j->gi cur q=g (gi l q))/\Below w.heap.size w wr
theorem pickedA_any(p1:Value)(g:Int->Int)(A:Option Addr)(n c:Nat)(l:List Int)(w:World)(hl:Rd .i64 w A n c l)(hn:n<=100000)
 (hcl:∀ j,j<n->∀ wr,Below w.heap.size w wr->Calls prog 303 #[.int .i64 (gi l j),p1] wr fun e w'=>e= .returned (.int .i64 (g (gi l j)))/\wr=w') :
 Calls prog 247 #[.func (.func 303) #[] #[p1],.slice A n c] w fun e w'=>∃ A',e= .returned (.slice A' n n)/\Own .i64 3 w' w.heap.size A' n n (l.map g)/\Below w.heap.size w w':=by
 have HC:=aq hcl;have HL:=aq hl;have hll:=hl.len;clear hcl hl;go_enter func247,ntmps247
 go_wp2_with (at_make;refine list_of rfl fun K hK=>wp_mk (n:=n) _ _ 51 rfl el22 rfl rfl (by omega) (by unfold maxLen;omega) ?_
              intro Am w3 hO3 hB3 hA;have HO3:=aq hO3;have HB3:=aq hB3;clear hO3 hB3 hA;refine hK _ _ ?_
              clear hK K)
 go_loopw [13] (fun i wr=>PkII w n Am g l i wr) (fun i _=>n - (intOf i).toNat)
 case atStart=>exact⟨0,List.replicate n 0,Nat.zero_le _,rfl,by have:=HO3.o;unfold Own;simpa using this,fun q hq=>by omega,HB3.o⟩
 case round =>
  obtain⟨j,cur,hj,rfl,hO,hsame,hB⟩:=hrel;have HB:=aq hB;have HS:=aq hsame;by_cases hlt:j<n
  . have hrl:=Rdv.below HL.o hB
    have cl:=Rd.cell hrl hlt;have il:=fun W=>Rdv.ix hrl el22 hlt .i64 W;have hcu:=Rd.cell (Own.rd hO) hlt;have hfu:=Ownv.frozen hO (by omega) j;have hiu:=fun W=>Rdv.ix (Own.rd hO) el22 hlt .i64 W;have hcall:=aq (HC.o j hlt wr hB);obtain⟨x,hx⟩:∃ x,gi l j=x:=⟨_,rfl⟩
    rw [hx]at cl hcall;have HXE:=aq hx;obtain⟨u,hu⟩:∃ u,g x=u:=⟨_,rfl⟩
    rw [hu]at hcall;have HUE:=aq hu;have HST:=aq (Own.set_ hO hlt u);have hbA:=(Ownv.blk_ge hO (by omega)).1;have HB2:=aq (hB.grown (Own.set_ hO hlt u).2 hB.size (fun k e=>by cases e;exact hbA));have hcl:=Rd.len (Own.rd hO);clear hO hB hsame hx hu;go_wp2_with fail;refine hcall.o.mono ?_;rintro e w4 ⟨rfl,rfl⟩;go_wp2;go_roundw
    case rel=>exact⟨j+1,cur.set j u,by omega,by go_num,HST.o.1,lt_succ_cases (fun q hq=>by rw [gi_set' _ _ _ _ (by omega),if_neg (by omega)];exact HS.o q hq) (by rw [gi_set' _ _ _ _ (by omega),if_pos rfl,HXE.o,HUE.o]),HB2.o⟩
    case measure=>simp [intOf];omega
  . obtain rfl:j=n:=by omega
    have hle:=Rd.len (Own.rd hO)
    have HLE:=aq (show cur=l.map g from ext_gi (by rw [List.length_map];omega) fun q hq=>by
     rw [hsame q (by omega),gi_eq (l.map g) q (by rw [List.length_map];omega),List.getElem_map,gi_eq l q (by omega)])
    have HO9:=aq hO;clear hO hsame hle hB;go_wp2;go_ret;exact⟨Am,rfl,by rw [<- HLE.o];exact HO9.o,HB.o⟩
theorem pickedI_any(p1:Value)(g:Int->Int)(A:Option Addr)(n c:Nat)(l:List Int)(w:World)(hl:Rd .i64 w A n c l)(hn:n<=100000)
 (hcl:∀ j,j<n->∀ wr,Below w.heap.size w wr->Calls prog 246 #[.int .i64 (gi l j),p1] wr fun e w'=>e= .returned (.int .i64 (g (gi l j)))/\wr=w') :
 Calls prog 247 #[.func (.func 246) #[] #[p1],.slice A n c] w fun e w'=>∃ A',e= .returned (.slice A' n n)/\Own .i64 3 w' w.heap.size A' n n (l.map g)/\Below w.heap.size w w':=by
 have HC:=aq hcl;have HL:=aq hl;have hll:=hl.len;clear hcl hl;go_enter func247,ntmps247
 go_wp2_with (at_make;refine list_of rfl fun K hK=>wp_mk (n:=n) _ _ 51 rfl el22 rfl rfl (by omega) (by unfold maxLen;omega) ?_
              intro Am w3 hO3 hB3 hA;have HO3:=aq hO3;have HB3:=aq hB3;clear hO3 hB3 hA;refine hK _ _ ?_
              clear hK K)
 go_loopw [13] (fun i wr=>PkII w n Am g l i wr) (fun i _=>n - (intOf i).toNat)
 case atStart=>exact⟨0,List.replicate n 0,Nat.zero_le _,rfl,by have:=HO3.o;unfold Own;simpa using this,fun q hq=>by omega,HB3.o⟩
 case round =>
  obtain⟨j,cur,hj,rfl,hO,hsame,hB⟩:=hrel;have HB:=aq hB;have HS:=aq hsame;by_cases hlt:j<n
  . have hrl:=Rdv.below HL.o hB
    have cl:=Rd.cell hrl hlt;have il:=fun W=>Rdv.ix hrl el22 hlt .i64 W;have hcu:=Rd.cell (Own.rd hO) hlt;have hfu:=Ownv.frozen hO (by omega) j;have hiu:=fun W=>Rdv.ix (Own.rd hO) el22 hlt .i64 W;have hcall:=aq (HC.o j hlt wr hB);obtain⟨x,hx⟩:∃ x,gi l j=x:=⟨_,rfl⟩
    rw [hx]at cl hcall;have HXE:=aq hx;obtain⟨u,hu⟩:∃ u,g x=u:=⟨_,rfl⟩
    rw [hu]at hcall;have HUE:=aq hu;have HST:=aq (Own.set_ hO hlt u);have hbA:=(Ownv.blk_ge hO (by omega)).1;have HB2:=aq (hB.grown (Own.set_ hO hlt u).2 hB.size (fun k e=>by cases e;exact hbA));have hcl:=Rd.len (Own.rd hO);clear hO hB hsame hx hu;go_wp2_with fail;refine hcall.o.mono ?_;rintro e w4 ⟨rfl,rfl⟩;go_wp2;go_roundw
    case rel=>exact⟨j+1,cur.set j u,by omega,by go_num,HST.o.1,lt_succ_cases (fun q hq=>by rw [gi_set' _ _ _ _ (by omega),if_neg (by omega)];exact HS.o q hq) (by rw [gi_set' _ _ _ _ (by omega),if_pos rfl,HXE.o,HUE.o]),HB2.o⟩
    case measure=>simp [intOf];omega
  . obtain rfl:j=n:=by omega
    have hle:=Rd.len (Own.rd hO)
    have HLE:=aq (show cur=l.map g from ext_gi (by rw [List.length_map];omega) fun q hq=>by
     rw [hsame q (by omega),gi_eq (l.map g) q (by rw [List.length_map];omega),List.getElem_map,gi_eq l q (by omega)])
    have HO9:=aq hO;clear hO hsame hle hB;go_wp2;go_ret;exact⟨Am,rfl,by rw [<- HLE.o];exact HO9.o,HB.o⟩
theorem elV:El prog 240 3 (.int .i64 0) 8:=⟨by kernel_rfl,by kernel_rfl,fun _=>by kernel_rfl,rfl⟩
theorem at1_any(B:Nat)(V:Option Addr)(n c:Nat)(vs:List Int)(i:Int)(w:World)(h:Rd .i64 w V n c vs)(hb:w.cell? ⟨B,0,none⟩=some (.slice V n c))(hi:0<=i/\i<n) :
 Calls prog 303 #[.int .i64 i,.pointer (some ⟨B,0,none⟩)] w fun e w'=>e= .returned (.int .i64 (gi vs i.toNat))/\w=w':=by
 obtain⟨j,rfl⟩:∃ j:Nat,i=(j:Int):=⟨i.toNat,by omega⟩
 have hj:j<n:=by omega
 have hc:=Rd.cell h hj;have hix:=fun W=>Rdv.ix h elV hj .i64 W;rw [Int.toNat_natCast];clear hi;go_enter func303,ntmps303;go_wp2;go_ret;exact⟨rfl,rfl⟩
theorem at_any(V L:Option Addr)(n c m d:Nat)(vs l:List Int)(w:World)(h:Rd .i64 w V n c vs)(hl:Rd .i64 w L m d l)(hm:m<=100000)(hi:∀ j,j<m->0<=gi l j/\gi l j<(n:Int)) :
 Calls prog 244 #[.slice V n c,.slice L m d] w fun e w'=>∃ A',e= .returned (.slice A' m m)/\Own .i64 3 w' w.heap.size A' m m (pk vs l)/\Below w.heap.size w w':=by
 have hsl:=fun W=>Rdv.slhm hl el22 .i64 .i64 (Rdv.le hl) W;have HB0:=aq (bal (Below.refl _ w) (.cells #[.slice V n c] 240));have HK0:Hid ((w.alloc (.cells #[.slice V n c] 240)).cell? ⟨w.heap.size,0,none⟩=some (.slice V n c)):=aq ((Blk.new w [.slice V n c] 240 rfl).cell rfl);have H1:=aq (h.alloc (.cells #[.slice V n c] 240));have HL1:=aq ((Rdv.capn hl).alloc (.cells #[.slice V n c] 240));have HI:=aq hi;clear hi h hl;go_enter func244,ntmps244;go_wp2_with fail;refine(pickedA_any (.pointer (some ⟨w.heap.size,0,none⟩)) (fun i=>gi vs i.toNat) L m m l _ HL1.o hm (fun j hj wr hB=>at1_any w.heap.size V n c vs _ wr (Rdv.below H1.o hB) (cell_below HK0.o hB) (HI.o j hj))).mono ?_;rintro e w1 ⟨A',rfl,hO,hB⟩;have HO:=aq (Ownv.mono hO (show w.heap.size<=_ from HB0.o.size));have HB:=aq (HB0.o.trans (hB.mono HB0.o.size));clear hO hB;go_wp2;go_ret;exact⟨A',rfl,HO.o,HB.o⟩
section
variable {P : Program} {ops : Array Oper} {Q : Exit -> Act -> World -> Prop} {md : Region.Mode} {S : World -> Prop} {p : Nat}
theorem P_twoS(i j:Nat)(l1 l2:Array Bool){oi oj:Oper}{fuel:Nat}{listed:Array Bool}{a:Act}{w:World}(hi:ops[i]?=some oi)(hj:ops[j]?=some oj)(e1:listed.setIfInBounds i true=l1)(e2:listed.setIfInBounds j true=l2)(hr:Region.ready md ops listed=[i,j])(gi:oi.guard=none)(gj:oj.guard=none)
 (h1:∀ K:Act->World->Prop,(∀ a' w',S w'->wpAnyP P md ops Q S p fuel l1 a' w'->K a' w')->oi.wp P a w K Q)
 (h2:∀ K:Act->World->Prop,(∀ a' w',S w'->wpAnyP P md ops Q S p fuel l2 a' w'->K a' w')->oj.wp P a w K Q):wpAnyP P md ops Q S p (fuel+1) listed a w:=by
 subst e1;subst e2;refine⟨fun h0=>(by rw [hr]at h0;cases h0),fun q hq=>?_⟩;rw [hr]at hq;simp only [List.mem_cons,List.not_mem_nil,or_false]at hq;rcases hq with rfl | rfl
 . unfold wpOp
   simp only [hi];rw [if_pos (by simp [Region.wanted,gi])];exact .inl (h1 _ fun _ _ q1 q2=>⟨fun _=>q1,q2⟩)
 . unfold wpOp
   simp only [hj];rw [if_pos (by simp [Region.wanted,gj])];exact .inl (h2 _ fun _ _ q1 q2=>⟨fun _=>q1,q2⟩)
end
theorem z0{α:Type}{l:List α}{i:Nat}{a:α}:l.toArray.setIfInBounds i a=(l.set i a).toArray:=List.setIfInBounds_toArray _ _ _
theorem z1{α:Type}{x a:α}{xs:List α}:(x :: xs).set 0 a=a :: xs:=List.set_cons_zero
theorem z2{α:Type}{x a:α}{xs:List α}{n:Nat}:(x :: xs).set (n+1) a=x :: xs.set n a:=List.set_cons_succ
section
variable {P : Program} {ops : Array Oper} {Q : Exit -> Act -> World -> Prop} {md : Region.Mode} {S : World -> Prop} {p n m fuel : Nat} {ts : Array Value} {ds : List Deferred} {w : World} {oi : Oper} {a : Act}
theorem Q_2S(i j m1 m2:Nat){oj:Oper}(hi:ops[i]?=some oi)(hj:ops[j]?=some oj)
 (h1:∀ K:Act->World->Prop,(∀ a' w',S w'->wpAnyP P md ops Q S p fuel (bz n m1) a' w'->K a' w')->oi.wp P a w K Q)
 (h2:∀ K:Act->World->Prop,(∀ a' w',S w'->wpAnyP P md ops Q S p fuel (bz n m2) a' w'->K a' w')->oj.wp P a w K Q)
 (e1:(bz n m).setIfInBounds i true=bz n m1:=by kernel_rfl) (e2:(bz n m).setIfInBounds j true=bz n m2:=by kernel_rfl) (hr:Region.ready md ops (bz n m)=[i,j]:=by kernel_rfl) (gi:oi.guard=none:=by rfl) (gj:oj.guard=none:=by rfl):wpAnyP P md ops Q S p (fuel+1) (bz n m) a w :=
 P_twoS i j _ _ hi hj e1 e2 hr gi gj h1 h2
end
def Ob.eT(o:Ob)(i:Nat):Int:=ext (o.tot i - gi o.s i - gi o.a i)
def Ob.bT(o:Ob)(i:Nat):Int:=if o.tot i<0 then 1 else 0
section
variable {w W W' : World} {bf bg N bA cap b6 b12 B0 : Nat} {o : Ob} {vs vs' : List Value} {r1 r2 r3 q1 q2 q3 : RowD}
end
section
variable {W : World} {B0 i gx : Nat} {v : Int} {A : Option Addr} {c : Nat} {r2 r3 : RowD} {op : Oper} {ts : Array Value} {ds : List Deferred} {K : Act -> World -> Prop} {Q : Exit -> Act -> World -> Prop} {o : Ob}
end
def inW(bs:List Bool):List Bool:=bs ++ [tu (fin bs) 0,tu (fin bs) 1,tu (fin bs) 2]
def outW(bs:List Bool):List Bool:=parL s0 bs ++ [tz (fin bs) 0,tz (fin bs) 1,tz (fin bs) 2]
def bq(b:Bool):Nat:=if b then 1 else 0
theorem inW_len(bs:List Bool):(inW bs).length=bs.length+3:=by simp [inW]
/-! ### the two decoders in plain Lean -/
theorem gN_val(o:Ob)(i bit:Nat)(f g:List Int)(hf:∀ b ∈ brT,UU<=gi f b.fr)(hg:∀ b ∈ brT,UU<=gi g b.tt):gN o i bit f g 16=o.val i bit f g:=by
 have key:∀ (l:List Br),(∀ b ∈ l,b ∈ brT)->∀ best,UU<=best->l.foldl (fun best x=>max best (o.vX i bit f g x)) best=l.foldl (o.vB i bit f g) best/\True:=by
  intro l;induction l with
  | nil=>intro _ best _;exact⟨rfl,trivial⟩
  | cons b l ih =>
    intro hl best hb;have hb1:=hf b (hl b (by simp));have hb2:=hg b (hl b (by simp));have e:max best (o.vX i bit f g b)=o.vB i bit f g best b:=by
     unfold Ob.vX Ob.vB;by_cases h1:b.bt=bit/\gi f b.fr≠UU/\gi g b.tt≠UU
     . rw [if_pos h1,if_pos ⟨h1.1,by omega,by omega⟩]
     . rw [if_neg h1,if_neg (fun h=>h1 ⟨h.1,by omega,by omega⟩)];omega
    simp only [List.foldl_cons];rw [e];refine ih (fun c hc=>hl c (by simp [hc])) _ ?_;rw [<- e];omega
 have e16:brT.take 16=brT:=rfl;unfold gN Ob.val;rw [e16];exact(key brT (fun _ h=>h) UU (Int.le_refl _)).1
theorem met_ge{B:Int}{m:List Int}(h:Met B m)(hB:B<=1125899906842624)(j:Nat)(hj:j<8):UU<=gi m j:=by
 have:=h.bd j hj;rw [UU_eq]at *;omega
theorem tN_tot{o:Ob}(h:o.ok)(i:Nat)(hi:i<o.s.length):o.tN i=o.tot i:=by
 have hl:=h.2.1;have hl2:=h.2.2.1;have hf:=f_met h i (by omega);have hb:=bd_met h (o.s.length - (i+1)) (by omega);unfold Ob.tN Ob.tot;have q:∀ bit,gN o i bit (o.f i) (o.b (i+1)) 16=o.val i bit (o.f i) (o.b (i+1)):=fun bit =>
  gN_val o i bit _ _ (fun b hb'=>met_ge hf (by omega) _ (br_bd b hb').1) (fun b hb'=>met_ge hb (by omega) _ (br_bd b hb').2.2.2)
 rw [q,q]
theorem rows_same{o:Ob}(h:o.ok):(List.range o.a.length).map o.tN=(List.range o.a.length).map o.tot/\(List.range o.a.length).map o.eN=(List.range o.a.length).map o.eT/\(List.range o.a.length).map o.bN=(List.range o.a.length).map o.bT:=by
 have hl2:=h.2.2.1;have hlt:∀ i,i ∈ List.range o.a.length->i<o.s.length:=fun i hi=>by
  have:i<o.a.length:=by simpa using hi
  omega
 refine⟨List.map_congr_left fun i hi=>tN_tot h i (hlt i hi),List.map_congr_left fun i hi=>?_,List.map_congr_left fun i hi=>?_⟩
 . unfold Ob.eN Ob.eT;rw [tN_tot h i (hlt i hi)]
 . unfold Ob.bN Ob.bT;rw [tN_tot h i (hlt i hi)]
open Classical in
noncomputable def Ob.dE (o:Ob):List Int:=if o.ok then(List.range o.a.length).map o.eT else []
open Classical in
noncomputable def Ob.dB (o:Ob):List Int:=if o.ok then(List.range o.a.length).map o.bT else []
/-! ### the examples -/
theorem eq_of_le{a b:Int}(h:∀ v,a<=v↔b<=v):a=b:=Int.le_antisymm ((h b).2 (Int.le_refl _)) ((h a).1 (Int.le_refl _))
theorem foldF_le(o:Ob)(i:Nat)(m:List Int)(t:Nat)(ht:t<8)(v:Int):∀ (l:List Br) (nx:List Int),(∀ b ∈ l,b ∈ brT)->nx.length=8 ->
 (gi (l.foldl (o.fB i m) nx) t<=v↔gi nx t<=v/\∀ b ∈ l,b.tt=t->o.allow i b=true->UU<gi m b.fr->gi m b.fr+o.term i b<=v)
 | [],nx,_,_=>by simp
 | b :: l,nx,hb,hn=>by
   have hb1:=br_bd b (hb b (by simp));have hlen:(o.fB i m nx b).length=8:=by unfold Ob.fB;split<;>simp [hn]
   rw [List.foldl_cons,foldF_le o i m t ht v l _ (fun c hc=>hb c (by simp [hc])) hlen];have key:gi (o.fB i m nx b) t<=v↔gi nx t<=v/\(b.tt=t->o.allow i b=true->UU<gi m b.fr->gi m b.fr+o.term i b<=v):=by
    unfold Ob.fB;by_cases hc:o.allow i b=true/\UU<gi m b.fr
    . rw [if_pos hc,gi_set' _ _ _ _ (by omega)]
      by_cases e:b.tt=t
      . rw [if_pos e,e]
        constructor
        . intro h;exact⟨by omega,fun _ _ _=>by omega⟩
        . rintro⟨h1,h2⟩;have:=h2 rfl hc.1 hc.2;omega
      . rw [if_neg e]
        exact⟨fun h=>⟨h,fun e'=>absurd e' e⟩,fun h=>h.1⟩
    . rw [if_neg hc]
      exact⟨fun h=>⟨h,fun _ h1 h2=>absurd ⟨h1,h2⟩ hc⟩,fun h=>h.1⟩
   rw [key];simp only [List.mem_cons,forall_eq_or_imp,and_assoc]
theorem foldB_le(o:Ob)(i:Nat)(m:List Int)(t:Nat)(ht:t<8)(v:Int):∀ (l:List Br) (nx:List Int),(∀ b ∈ l,b ∈ brT)->nx.length=8 ->
 (gi (l.foldl (o.bB i m) nx) t<=v↔gi nx t<=v/\∀ b ∈ l,b.fr=t->o.allow i b=true->UU<gi m b.tt->gi m b.tt+o.term i b<=v)
 | [],nx,_,_=>by simp
 | b :: l,nx,hb,hn=>by
   have hb1:=br_bd b (hb b (by simp));have hlen:(o.bB i m nx b).length=8:=by unfold Ob.bB;split<;>simp [hn]
   rw [List.foldl_cons,foldB_le o i m t ht v l _ (fun c hc=>hb c (by simp [hc])) hlen];have key:gi (o.bB i m nx b) t<=v↔gi nx t<=v/\(b.fr=t->o.allow i b=true->UU<gi m b.tt->gi m b.tt+o.term i b<=v):=by
    unfold Ob.bB;by_cases hc:o.allow i b=true/\UU<gi m b.tt
    . rw [if_pos hc,gi_set' _ _ _ _ (by omega)]
      by_cases e:b.fr=t
      . rw [if_pos e,e]
        constructor
        . intro h;exact⟨by omega,fun _ _ _=>by omega⟩
        . rintro⟨h1,h2⟩;have:=h2 rfl hc.1 hc.2;omega
      . rw [if_neg e]
        exact⟨fun h=>⟨h,fun e'=>absurd e' e⟩,fun h=>h.1⟩
    . rw [if_neg hc]
      exact⟨fun h=>⟨h,fun _ h1 h2=>absurd ⟨h1,h2⟩ hc⟩,fun h=>h.1⟩
   rw [key];simp only [List.mem_cons,forall_eq_or_imp,and_assoc]
theorem foldV_le(o:Ob)(i bit:Nat)(f g:List Int)(v:Int):∀ (l:List Br) (best:Int),
 (l.foldl (o.vB i bit f g) best<=v↔best<=v/\∀ b ∈ l,b.bt=bit->UU<gi f b.fr->UU<gi g b.tt->gi f b.fr+o.term i b+gi g b.tt<=v)
 | [],best=>by simp
 | b :: l,best=>by
   rw [List.foldl_cons,foldV_le o i bit f g v l];have key:o.vB i bit f g best b<=v↔best<=v/\(b.bt=bit->UU<gi f b.fr->UU<gi g b.tt->gi f b.fr+o.term i b+gi g b.tt<=v):=by
    unfold Ob.vB;by_cases hc:b.bt=bit/\UU<gi f b.fr/\UU<gi g b.tt
    . rw [if_pos hc]
      constructor
      . intro h;exact⟨by omega,fun _ _ _=>by omega⟩
      . rintro⟨h1,h2⟩;have:=h2 hc.1 hc.2.1 hc.2.2;omega
    . rw [if_neg hc]
      exact⟨fun h=>⟨h,fun h1 h2 h3=>absurd ⟨h1,h2,h3⟩ hc⟩,fun h=>h.1⟩
   rw [key];simp only [List.mem_cons,forall_eq_or_imp,and_assoc]
theorem fwd_le(o:Ob)(i:Nat)(m:List Int)(t:Nat)(ht:t<8)(v:Int):gi (o.fwd i m) t<=v↔UU<=v/\∀ b ∈ brT,b.tt=t->o.allow i b=true->UU<gi m b.fr->gi m b.fr+o.term i b<=v:=by
 unfold Ob.fwd;rw [foldF_le o i m t ht v brT noneL (fun _ h=>h) (by simp [noneL]),gi_noneL t ht]
theorem bwd_le(o:Ob)(i:Nat)(m:List Int)(t:Nat)(ht:t<8)(v:Int):gi (o.bwd i m) t<=v↔UU<=v/\∀ b ∈ brT,b.fr=t->o.allow i b=true->UU<gi m b.tt->gi m b.tt+o.term i b<=v:=by
 unfold Ob.bwd;rw [foldB_le o i m t ht v brT noneL (fun _ h=>h) (by simp [noneL]),gi_noneL t ht]
theorem val_le(o:Ob)(i bit:Nat)(f g:List Int)(v:Int):o.val i bit f g<=v↔UU<=v/\∀ b ∈ brT,b.bt=bit->UU<gi f b.fr->UU<gi g b.tt->gi f b.fr+o.term i b+gi g b.tt<=v:=by
 unfold Ob.val;exact foldV_le o i bit f g v brT UU
/-! ### turning -/
def bx(c b:Br):Br:=⟨b.fr ^^^ c.fr,b.bt ^^^ c.bt,b.pr ^^^ c.pr,b.tt ^^^ c.tt⟩
theorem bx_mem:∀ c ∈ brT,∀ b ∈ brT,bx c b ∈ brT/\bx c (bx c b)=b/\((bx c b).bt=tailBit (bx c b).fr↔(c.bt=tailBit c.fr↔b.bt=tailBit b.fr)):=by decide
theorem x8:∀ a,a<8->∀ b,b<8->a ^^^ b<8/\a ^^^ b ^^^ b=a:=by decide
theorem x8_inj{a b c:Nat}(ha:a<8)(hb:b<8)(hc:c<8):a ^^^ c=b ^^^ c↔a=b :=
 ⟨fun h=>by rw [<- (x8 a ha c hc).2,<- (x8 b hb c hc).2,h],fun h=>by rw [h]⟩
theorem all_bx{c:Br}(hc:c ∈ brT){P:Br->Prop}:(∀ b ∈ brT,P (bx c b))↔∀ b ∈ brT,P b :=
 ⟨fun h b hb=>by have:=h _ (bx_mem c hc b hb).1;rwa [(bx_mem c hc b hb).2.1]at this,fun h b hb=>h _ (bx_mem c hc b hb).1⟩
theorem sg_x:∀ a,a<2->∀ b,b<2->(1 - 2*((a ^^^ b:Nat):Int))=(1 - 2*(a:Int))*(1 - 2*(b:Int))/\(1 - 2*(b:Int))*(1 - 2*(b:Int))=1:=by decide
structure Tn (o o':Ob) (c:Nat->Br):Prop where
 n:o'.s.length=o.s.length
 k:o'.k=o.k
 mem:∀ i,i<o.s.length->c i ∈ brT
 st:∀ i,i<o.s.length->(c i).tt=(c (i+1)).fr
 s0:(c 0).fr=0
 sn:(c o.s.length).fr=0
 tl:∀ i,i<o.s.length->o.k<=i->(c i).bt=tailBit (c i).fr
 x:∀ i,i<o.s.length->o'.x i=o.x i*(1 - 2*((c i).bt:Int))
 p:∀ i,i<o.s.length->gi o'.p i=gi o.p i*(1 - 2*((c i).pr:Int))
theorem Tn.term{o o':Ob}{c:Nat->Br}(h:Tn o o' c)(i:Nat)(hi:i<o.s.length)(b:Br)(hb:b ∈ brT):o'.term i b=o.term i (bx (c i) b):=by
 obtain⟨-,b1,b2,-⟩:=br_bd b hb;obtain⟨-,c1,c2,-⟩:=br_bd _ (h.mem i hi);unfold Ob.term bx;rw [h.x i hi,h.p i hi];dsimp only;rw [(sg_x _ b1 _ c1).1,(sg_x _ b2 _ c2).1];rw [Int.mul_assoc,Int.mul_assoc,Int.mul_comm (1 - 2*((c i).bt:Int)),Int.mul_comm (1 - 2*((c i).pr:Int))]
theorem Tn.allow{o o':Ob}{c:Nat->Br}(h:Tn o o' c)(i:Nat)(hi:i<o.s.length)(b:Br)(hb:b ∈ brT):o'.allow i b=o.allow i (bx (c i) b):=by
 unfold Ob.allow;rw [h.k];by_cases hk:i<o.k
 . simp [hk]
 . have h1:=(bx_mem _ (h.mem i hi) b hb).2.2
   have h2:=h.tl i hi (by omega);simp only [h2,true_iff]at h1;have h3:decide ((bx (c i) b).bt=tailBit (bx (c i) b).fr)=decide (b.bt=tailBit b.fr):=by simp only [h1]
   rw [h3]
theorem Tn.fwd{o o':Ob}{c:Nat->Br}(h:Tn o o' c)(i:Nat)(hi:i<o.s.length)(m m':List Int)(hm:∀ t,t<8->gi m' t=gi m (t ^^^ (c i).fr)) :
 ∀ t,t<8->gi (o'.fwd i m') t=gi (o.fwd i m) (t ^^^ (c (i+1)).fr):=by
 intro t ht;have hc:=h.mem i hi;have hc4:=(br_bd _ hc).2.2.2;rw [<- h.st i hi];refine eq_of_le fun v=>?_;rw [fwd_le _ _ _ _ ht,fwd_le _ _ _ _ (x8 _ ht _ hc4).1];refine and_congr_right fun _=>?_;refine Iff.trans ?_ (all_bx hc);refine forall₂_congr fun b hb=>?_;have b4:=br_bd b hb;rw [h.term i hi b hb,h.allow i hi b hb,hm _ b4.1];show _↔(b.tt ^^^ (c i).tt=t ^^^ (c i).tt->_);rw [x8_inj b4.2.2.2 ht hc4];rfl
theorem Tn.bwd{o o':Ob}{c:Nat->Br}(h:Tn o o' c)(i:Nat)(hi:i<o.s.length)(m m':List Int)(hm:∀ t,t<8->gi m' t=gi m (t ^^^ (c (i+1)).fr)) :
 ∀ t,t<8->gi (o'.bwd i m') t=gi (o.bwd i m) (t ^^^ (c i).fr):=by
 intro t ht;have hc:=h.mem i hi;have hc1:=(br_bd _ hc).1;rw [<- h.st i hi]at hm;refine eq_of_le fun v=>?_;rw [bwd_le _ _ _ _ ht,bwd_le _ _ _ _ (x8 _ ht _ hc1).1];refine and_congr_right fun _=>?_;refine Iff.trans ?_ (all_bx hc);refine forall₂_congr fun b hb=>?_;have b4:=br_bd b hb;rw [h.term i hi b hb,h.allow i hi b hb,hm _ b4.2.2.2];show _↔(b.fr ^^^ (c i).fr=t ^^^ (c i).fr->_);rw [x8_inj b4.1 ht hc1];rfl
theorem x2_inj:∀ a,a<2->∀ b,b<2->∀ c,c<2->(a ^^^ c=b ^^^ c↔a=b):=by decide
theorem Tn.val{o o':Ob}{c:Nat->Br}(h:Tn o o' c)(i:Nat)(hi:i<o.s.length)(bit:Nat)(hbit:bit<2)(f f' g g':List Int)(hf:∀ t,t<8->gi f' t=gi f (t ^^^ (c i).fr))(hg:∀ t,t<8->gi g' t=gi g (t ^^^ (c (i+1)).fr)) :
 o'.val i bit f' g'=o.val i (bit ^^^ (c i).bt) f g:=by
 have hc:=h.mem i hi;rw [<- h.st i hi]at hg;refine eq_of_le fun v=>?_;rw [val_le,val_le];refine and_congr_right fun _=>?_;refine Iff.trans ?_ (all_bx hc);refine forall₂_congr fun b hb=>?_;have b4:=br_bd b hb;rw [h.term i hi b hb,hf _ b4.1,hg _ b4.2.2.2];show _↔(b.bt ^^^ (c i).bt=bit ^^^ (c i).bt->_);rw [x2_inj _ b4.2.1 _ hbit _ (br_bd _ hc).2.1];rfl
theorem Tn.f{o o':Ob}{c:Nat->Br}(h:Tn o o' c):∀ i,i<=o.s.length->∀ t,t<8->gi (o'.f i) t=gi (o.f i) (t ^^^ (c i).fr)
 | 0,_,t,ht=>by rw [h.s0,Nat.xor_zero];rfl
 | i+1,hi,t,ht=>h.fwd i (by omega) _ _ (h.f i (by omega)) t ht
theorem Tn.bd{o o':Ob}{c:Nat->Br}(h:Tn o o' c):∀ d,d<=o.s.length->∀ t,t<8->gi (o'.bd d) t=gi (o.bd d) (t ^^^ (c (o.s.length - d)).fr)
 | 0,_,t,ht=>by rw [Nat.sub_zero,h.sn,Nat.xor_zero];rfl
 | d+1,hd,t,ht=>by
   show gi (o'.bwd (o'.s.length - 1 - d) (o'.bd d)) t=gi (o.bwd (o.s.length - 1 - d) (o.bd d)) _;have e1:o.s.length - 1 - d=o.s.length - (d+1):=by omega
   have e2:o.s.length - (d+1)+1=o.s.length - d:=by omega
   rw [h.n,e1];exact h.bwd _ (by omega) _ _ (by rw [e2];exact h.bd d (by omega)) t ht
theorem Tn.tot{o o':Ob}{c:Nat->Br}(h:Tn o o' c)(i:Nat)(hi:i<o.s.length):o'.tot i=o.tot i*(1 - 2*((c i).bt:Int)):=by
 have hb:=h.bd (o.s.length - (i+1)) (by omega);have e:o.s.length - (o.s.length - (i+1))=i+1:=by omega
 rw [e]at hb;unfold Ob.tot Ob.b;rw [h.n];have q:∀ bit,bit<2->_:=fun bit hb2=>h.val i hi bit hb2 _ _ _ _ (h.f i (by omega)) hb;rw [q 0 (by decide),q 1 (by decide)];rcases (by have:=(br_bd _ (h.mem i hi)).2.1;omega:(c i).bt=0\/(c i).bt=1) with e | e<;>rw [e]
 . simp
 . show(Int.tdiv (o.val i 1 _ _ - o.val i 0 _ _) 2)=Int.tdiv (o.val i 0 _ _ - o.val i 1 _ _) 2*(1 - 2*1)
   rw [show (1 - 2*1:Int) = -1 from rfl,Int.mul_neg_one,<- Int.neg_tdiv,Int.neg_sub]
def flp(xs:List Int)(bs:List Bool):List Int:=(List.range xs.length).map (fun i=>if bs.getD i false=true then -gi xs i else gi xs i)
theorem flp_len(xs:List Int)(bs:List Bool):(flp xs bs).length=xs.length:=by simp [flp]
theorem gi_range{n i:Nat}(f:Nat->Int)(h:i<n):gi ((List.range n).map f) i=f i:=by simp [gi,List.getD,h]
theorem gi_over{xs:List Int}{i:Nat}(h:xs.length<=i):gi xs i=0:=by simp [gi,List.getD,h]
theorem gi_flp(xs:List Int)(bs:List Bool)(i:Nat):gi (flp xs bs) i=gi xs i*(1 - 2*(bq (bs.getD i false):Int)):=by
 rcases Nat.lt_or_ge i xs.length with h | h
 . unfold flp
   rw [gi_range _ h];cases bs.getD i false<;>simp [bq]
 . rw [gi_over h,gi_over (by rw [flp_len];exact h),Int.zero_mul]
def sn(s:St3):Nat:=4*bq s.1+2*bq s.2.1+bq s.2.2
def stW(bs:List Bool)(i:Nat):St3:=((inW bs).take i).foldl stp s0
def cW(bs:List Bool)(i:Nat):Br:=⟨sn (stW bs i),bq ((inW bs).getD i false),bq ((outW bs).getD i false),sn (stW bs (i+1))⟩
theorem br_stp:∀ (s:St3) (x:Bool),(⟨sn s,bq x,bq (par s x),sn (stp s x)⟩:Br) ∈ brT:=by
 rintro⟨a,b,c⟩ x;cases a<;>cases b<;>cases c<;>cases x<;>decide
theorem parL_app(l m:List Bool):∀ s,parL s (l ++ m)=parL s l ++ parL (l.foldl stp s) m:=by
 induction l with
 | nil=>intro s;rfl
 | cons x l ih=>intro s;simp [parL,ih]
theorem parL_get(l:List Bool):∀ (s:St3) (i:Nat),i<l.length->(parL s l).getD i false=par ((l.take i).foldl stp s) (l.getD i false):=by
 induction l with
 | nil=>intro s i h;simp at h
 | cons x l ih =>
   intro s i h;cases i with
   | zero=>simp [parL]
   | succ i =>
     have:=ih (stp s x) i (by simpa using h);simpa [parL] using this
theorem tail_all:∀ s:St3,parL s [tu s 0,tu s 1,tu s 2]=[tz s 0,tz s 1,tz s 2]/\[tu s 0,tu s 1,tu s 2].foldl stp s=s0 /\
 bq (tu s 0)=tailBit (sn s)/\bq (tu s 1)=tailBit (sn ([tu s 0].foldl stp s))/\bq (tu s 2)=tailBit (sn ([tu s 0,tu s 1].foldl stp s)):=by
 rintro⟨a,b,c⟩;cases a<;>cases b<;>cases c<;>decide
theorem outW_eq(bs:List Bool):outW bs=parL s0 (inW bs):=by
 unfold outW inW;rw [parL_app];congr 1;exact(tail_all (fin bs)).1.symm
theorem stW_succ(bs:List Bool)(i:Nat)(hi:i<bs.length+3):stW bs (i+1)=stp (stW bs i) ((inW bs).getD i false):=by
 have hl:i<(inW bs).length:=by rw [inW_len];exact hi
 unfold stW;rw [List.take_succ_eq_append_getElem hl,List.foldl_append];simp [List.getD,hl]
theorem cW_mem(bs:List Bool)(i:Nat)(hi:i<bs.length+3):cW bs i ∈ brT:=by
 unfold cW;rw [stW_succ bs i hi,outW_eq,parL_get _ _ _ (by rw [inW_len];exact hi)];exact br_stp _ _
theorem cW_end(bs:List Bool):(cW bs (bs.length+3)).fr=0:=by
 show sn (stW bs (bs.length+3))=0;unfold stW;rw [List.take_of_length_le (by rw [inW_len];omega)];unfold inW;rw [List.foldl_append];have:=(tail_all (fin bs)).2.1;unfold fin at this ⊢;rw [this];rfl
theorem inW_lo(bs:List Bool)(i:Nat)(h:i<bs.length):(inW bs).getD i false=bs.getD i false:=by
 unfold inW;simp [List.getD,List.getElem?_append_left h]
theorem cW_tail(bs:List Bool)(i:Nat)(hi:i<bs.length+3)(hk:bs.length<=i):(cW bs i).bt=tailBit (cW bs i).fr:=by
 obtain⟨j,rfl⟩:∃ j,i=bs.length+j:=⟨i - bs.length,by omega⟩
 show bq ((inW bs).getD (bs.length+j) false)=tailBit (sn (stW bs (bs.length+j)));have e1:(inW bs).getD (bs.length+j) false=[tu (fin bs) 0,tu (fin bs) 1,tu (fin bs) 2].getD j false:=by
  unfold inW;rw [List.getD_eq_getElem?_getD,List.getD_eq_getElem?_getD,List.getElem?_append_right (by omega),Nat.add_sub_cancel_left]
 have e2:stW bs (bs.length+j)=([tu (fin bs) 0,tu (fin bs) 1,tu (fin bs) 2].take j).foldl stp (fin bs):=by
  unfold stW inW;rw [List.take_append,List.foldl_append,List.take_of_length_le (by omega)];unfold fin;congr 2;omega
 obtain⟨-,-,t0,t1,t2⟩:=tail_all (fin bs);rw [e1,e2];rcases (by omega:j=0\/j=1\/j=2) with rfl | rfl | rfl
 . exact t0
 . exact t1
 . exact t2
def Ob.turn(o:Ob)(bs:List Bool):Ob:=⟨flp o.s (inW bs),flp o.p (outW bs),flp o.a bs⟩
theorem turn_tn{o:Ob}(h:o.ok){bs:List Bool}(hb:bs.length=o.a.length):Tn o (o.turn bs) (cW bs):=by
 have hn:=h.2.2.1;refine⟨flp_len _ _,flp_len _ _,fun i hi=>cW_mem bs i (by omega),fun i hi=>rfl,rfl,?_,fun i hi hk=>cW_tail bs i (by omega) (by rw [hb];exact hk),fun i hi=>?_,fun i hi=>gi_flp _ _ i⟩
 . rw [hn,<- hb];exact cW_end bs
 . unfold Ob.x Ob.turn Ob.k
   dsimp only;rw [flp_len,gi_flp,gi_flp];show _=_*(1 - 2*(bq ((inW bs).getD i false):Int));by_cases hk:i<o.a.length
   . rw [if_pos hk,if_pos hk,inW_lo bs i (by omega),Int.add_mul]
   . rw [if_neg hk,if_neg hk]
theorem flp_bd{xs:List Int}(h:∀ v ∈ xs,-127<=v/\v<=127)(bs:List Bool):∀ v ∈ flp xs bs,-127<=v/\v<=127:=by
 intro v hv;obtain⟨i,hi,rfl⟩:=List.mem_map.1 hv;have hi:i<xs.length:=by simpa using hi
 have:=h (gi xs i) (by simp [gi,List.getD,hi]);split<;>omega
theorem turn_ok{o:Ob}(h:o.ok)(bs:List Bool):(o.turn bs).ok:=by
 obtain⟨h1,h2,h3,h4,h5,h6,h7⟩:=h;refine⟨?_,?_,?_,?_,flp_bd h5 _,flp_bd h6 _,flp_bd h7 _⟩<;>simp only [Ob.turn,flp_len]<;>assumption
theorem ext_neg(v:Int):ext (-v) = -ext v:=by
 unfold ext;rw [Int.mul_neg,Int.neg_tdiv];generalize (3*v).tdiv 4=u;omega
theorem turn_dE{o:Ob}(h:o.ok){bs:List Bool}(hb:bs.length=o.a.length):(o.turn bs).dE=flp o.dE bs:=by
 have hn:=h.2.2.1;have ht:=turn_tn h hb;unfold Ob.dE;rw [if_pos h,if_pos (turn_ok h bs)];refine ext_gi (by simp [flp_len,Ob.turn]) fun j hj=>?_;have hj:j<o.a.length:=by simpa [flp_len,Ob.turn] using hj
 rw [gi_flp,gi_range _ hj,gi_range _ (by simpa [flp_len,Ob.turn] using hj)];unfold Ob.eT;rw [ht.tot j (by omega)];show ext (_*(1 - 2*(bq ((inW bs).getD j false):Int)) - gi (flp o.s (inW bs)) j - gi (flp o.a bs) j)=_;rw [gi_flp,gi_flp,inW_lo bs j (by omega)];cases bs.getD j false
 . simp [bq]
 . show ext (_*(1 - 2*1) - _*(1 - 2*1) - _*(1 - 2*1))=_*(1 - 2*1)
   rw [show (1 - 2*1:Int) = -1 from rfl];simp only [Int.mul_neg_one];rw [<- ext_neg];congr 1;omega
/-! ### the theorem of the stage -/
def Ob.Z(o:Ob):Nat->Int
 | 0=>0
 | i+1=>o.Z i+o.x i+gi o.p i
theorem b0_mem:(⟨0,0,0,0⟩:Br) ∈ brT:=by decide
theorem allow0(o:Ob)(i:Nat):o.allow i ⟨0,0,0,0⟩=true:=by unfold Ob.allow;simp [tailBit]
theorem term0(o:Ob)(i:Nat):o.term i ⟨0,0,0,0⟩=o.x i+gi o.p i:=by unfold Ob.term;simp
end Go.Proofs.YthmhogdceolkdaaGreat