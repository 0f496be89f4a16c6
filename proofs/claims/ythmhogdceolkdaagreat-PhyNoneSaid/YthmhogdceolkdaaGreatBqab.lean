/- Bundle. Conditions: none. -/
import Derived.Test.YthmhogdceolkdaaGreatBqaa
import Derived.RangeFuncNested
import Derived.RangeFuncBound
import Derived.RangeFuncCalls
import Derived.RangeFuncLeaves
import Derived.Shelf.Abstract
import Derived.Shelf.RegionOpen
import Derived.OwnWalkIn
import Derived.TacticsInMore
import Derived.LoopNIn
import Derived.LoopIn
import Derived.RangeFuncBox
import Derived.Test.YthmhogdceolkdaaGreatProg
import Derived.Deep.QuietTactic
set_option linter.unusedVariables false
set_option linter.unusedSimpArgs false
namespace Go.Proofs.YthmhogdceolkdaaGreat
open Tryz
open Go.RowKit Go.Shelf
section
variable {P : Program} {ops : Array Oper} {Q : Exit -> Act -> World -> Prop} {l n : Nat}
theorem rowsIn_wide{row:String}{args:Array Value}{w:World}{R:Value->World->Prop}(h:Rows P row args w R):RowsIn (Fence.wide.inRound l) n P row args w R :=
 fun c cs _=>let ⟨v,w',r,s⟩:=h c cs;⟨v,w',r,by rw [fenced_inRound];exact stepsIn_wide.2 s⟩
theorem operIn_of{o:Oper}{a:Act}{w:World}{K:Act->World->Prop}(hd:∀ c,o.op≠.defer c)(hL:¬ LetsOut Q)(h:o.wp P a w K Q):o.wpIn (Fence.wide.inRound l) n P a w K Q:=by
 refine⟨fun _ _=>trivial,?_⟩;rw [Oper.semAt_eq _ _ _ hd];unfold Oper.wp at h;cases hr:(execOp a.eval o).run P w with
 | ok x w' =>
   rw [hr]at h;cases x<;>first | exact h | exact(h:False).elim | skip
   . refine⟨by simp [Fence.wide],?_⟩
     exact CallsIn.inRound l (callsIn_wide.2 h)
   all_goals exact⟨by simp [Fence.wide],rowsIn_wide h⟩
 | halt x w' =>
   rw [hr]at h;cases x<;>first | exact h | exact(h:False).elim
def noDefer(ops:Array Oper):Bool:=ops.all fun o=>match o.op with | .defer _=>false | _=>true
theorem noDefer_spec(h:noDefer ops=true){i:Nat}{o:Oper}(ho:ops[i]?=some o):∀ c,o.op≠.defer c:=by
 intro c hc;have h1:=(Array.all_eq_true.1 h) i (Array.getElem?_eq_some_iff.1 ho).1;rw [(Array.getElem?_eq_some_iff.1 ho).2,hc]at h1;cases h1
theorem anyIn_of(hd:noDefer ops=true)(hL:¬ LetsOut Q){md:Region.Mode}:∀ (fuel:Nat) (listed:Array Bool) (a:Act) (w:World),wpAny P md ops Q fuel listed a w->wpAnyIn (Fence.wide.inRound l) n P md ops Q fuel listed a w
 | 0,_,_,_,h=>h
 | fuel+1,listed,a,w,h=>by
   refine⟨h.1,fun i hi=>?_⟩;have h1:=h.2 i hi;unfold wpOp at h1;unfold wpOpIn;cases ho:ops[i]? with
   | none=>rw [ho]at h1;exact anyIn_of hd hL _ _ _ _ h1
   | some o =>
     rw [ho]at h1;simp only at h1 ⊢;split
     . rename_i hw
       rw [if_pos hw]at h1;rcases h1 with h1 | h1
       . exact Oper.wpIn_mono (fun a w=>anyIn_of hd hL _ _ _ _) (operIn_of (noDefer_spec hd ho) hL h1)
       . exact absurd h1.2 hL
     . rename_i hw
       rw [if_neg hw]at h1;exact⟨fun _ _=>trivial,anyIn_of hd hL _ _ _ _ h1⟩
theorem regIn_any{id:Nat}{a:Act}{w:World}(hm:P.follows .mixedOrders=true)(hd:noDefer ops=true)(hL:¬ LetsOut Q)
 (h:wpAny P .any ops Q ops.size (Array.replicate ops.size false) a {w with drawn:=w.drawn+1}):(Code.region id ops true).wpIn (Fence.wide.inRound l) n P Q a w :=
 wpIn_region_any hm (anyIn_of hd hL _ _ _ _ h)
theorem regIn_still_tail{id:Nat}{a:Act}{w:World}{L:List Oper}(m:Nat)(hm:P.follows .mixedOrders=true)(hB:Region.lexTailB .any L.toArray m=true)(hd:noDefer L.toArray=true)(hLo:¬ LetsOut Q)
 (h:wpStill P L.toArray {w with drawn:=w.drawn+1} (fun a'=>wpList P L.toArray Q (L.drop m) a' {w with drawn:=w.drawn+1}) (L.take m) a):(Code.region id L.toArray true).wpIn (Fence.wide.inRound l) n P Q a w:=by
 simp only [Region.lexTailB,Bool.and_eq_true,decide_eq_true_eq]at hB;obtain⟨⟨⟨⟨hsel,hn⟩,hs⟩,hc⟩,hlex⟩:=hB;have hn':m<L.length:=by simpa using hn
 have htl:(L.take m).length=m:=by simp;omega
 have hdl:(L.drop m).length=L.toArray.size - m:=by simp
 have inv0:HeadInv .any L.toArray m (Array.replicate L.toArray.size false) :=
  ⟨by simp,fun j oj _ hl=>(by rw [getD_replicate_false]at hl;cases hl),fun t _ ht=>getD_in (by simpa using ht) (getD_replicate_false _ _)⟩
 have H:=wpAnyL_lex (md:=.any) (g:=L.toArray.size - m) hsel hs hc hn (L.take m) 0 _ a (fun j hj=>by
  have hj':j<m:=by rw [htl]at hj;exact hj
  simp [hj']) (by simpa using htl) inv0 (by rw [htl];exact hlex) h
 refine regIn_any hm hd hLo ?_;have:=wpAny_of_head (Q':=Q) (g:=L.toArray.size - m) (fun listed a' hL=>by
  have:=wpAny_of_seq (md:=.any) (Q':=Q) (L.drop m) m listed a' {w with drawn:=w.drawn+1} (fun j=>by simp [List.getElem?_drop]) (by rw [hdl];exact hL.1) hL.2;rwa [hdl]at this) _ _ _ H
 rw [htl,show m+(L.toArray.size - m)=L.toArray.size by omega]at this;exact this
end
end Go.Proofs.YthmhogdceolkdaaGreat
namespace Go.Proofs.YthmhogdceolkdaaGreat.Cr
open Tryz
open Go.RowKit
theorem el53:El prog 53 5 (.int .u8 0) 1:=⟨by kernel_rfl,by kernel_rfl,fun _=>by kernel_rfl,rfl⟩
def SameInv(w:World)(n:Nat)(xs ys:List Int)(i:Value)(wr:World):Prop:=∃ j:Nat,j<=n/\i= .int .i64 j/\(∀ q,q<j->gi xs q=gi ys q)/\Qt w wr
def ValidB(xs:List Int):Bool:=xs.all (fun x=>decide (x<=1))
theorem validB_f{xs:List Int}{j:Nat}(hj:j<xs.length)(h:1<gi xs j):ValidB xs=false:=by
 rw [Bool.eq_false_iff];intro hh;have:=all_gi.1 hh j hj;simp at this;omega
theorem validB_t{xs:List Int}(h:∀ q,q<xs.length->gi xs q<=1):ValidB xs=true:=all_gi.2 fun j hj=>by simpa using h j hj
/-! ### Poly -/
theorem validB_take{xs:List Int}(m:Nat)(h:ValidB xs=true):ValidB (xs.take m)=true:=by
 unfold ValidB at *;rw [List.all_eq_true]at *;intro x hx;exact h x (List.mem_of_mem_take hx)
set_option maxRecDepth 100000
set_option maxHeartbeats 400000
/-! ### slices.Equal -/
theorem equal_any(A B:Option Addr)(n c m d:Nat)(xs ys:List Int)(w:World)(hx:Rd .u8 w A n c xs)(hy:Rd .u8 w B m d ys) :
 Calls prog 189 #[.slice A n c,.slice B m d] w fun e w'=>e= .returned (.bool (decide (xs=ys)))/\Qt w w':=by
 have b1:=hx.bd.1;have b2:=hy.bd.1;by_cases hnm:n=m
 . subst hnm
   have hne:((n:Int) != (n:Int))=false:=bne_f rfl;go_enter func189,ntmps189;go_wp2;go_loopw [13] (fun i wr=>SameInv w n xs ys i wr) (fun i _=>n - (intOf i).toNat)
   case atStart=>exact⟨0,by omega,rfl,by intro q hq;omega,0,rfl⟩
   case round =>
    obtain⟨j,hj,rfl,hv,q0,rfl⟩:=hrel;by_cases hlt:j<n
    . have hc:=Rd.cell hx hlt
      have hd:=Rd.cell hy hlt;have hix:=fun W=>Rdv.ix hx el53 hlt .i64 W;have hiy:=fun W=>Rdv.ix hy el53 hlt .i64 W;have HV:=aq hv;clear hv;by_cases h1:gi xs j=gi ys j
      . have h1':=bne_f h1
        have H1:=aq h1;clear h1;go_wp2;go_quiet (fail);go_wp2;go_roundw
        case rel=>exact⟨j+1,by omega,by go_num,fun q hq=>lt_succ_cases HV.o H1.o q hq,by first | exact⟨_,rfl⟩ | exact Qt.drewN ⟨_,rfl⟩ _⟩
        case measure=>simp [intOf];omega
      . have h1':=bne_t h1
        have hf:decide (xs=ys)=false:=by simp;rintro rfl;exact h1 rfl
        go_wp2;go_quiet (fail);go_wp2;go_ret;exact⟨ret_bool hf.symm,by first | exact⟨_,rfl⟩ | exact Qt.drewN ⟨_,rfl⟩ _⟩
    . have hf:decide (xs=ys)=true:=by
       have hl1:=hx.len;have hl2:=hy.len;simp only [decide_eq_true_eq];refine ext_gi (by rw [hl1,hl2]) fun q hq=>hv q (by omega)
      go_wp2
      go_ret
      exact⟨ret_bool hf.symm,by first | exact⟨_,rfl⟩ | exact Qt.drewN ⟨_,rfl⟩ _⟩
 . have hne:((n:Int) != (m:Int))=true:=bne_t (by omega)
   have hf:decide (xs=ys)=false:=by
    simp;rintro rfl;have:=hx.len;have:=hy.len;omega
   go_enter func189,ntmps189;go_wp2;go_ret;exact⟨ret_bool hf.symm,0,rfl⟩
theorem inv1_any(b:Int)(w:World):Calls prog 255 #[.int .u8 b] w fun e w'=>e= .returned (.bool (decide (1<b)))/\w=w':=by
 go_enter func255,ntmps255;go_wp2;go_ret;exact⟨rfl,rfl⟩
def IdxInv(n:Nat)(xs:List Int)(i:Value):Prop:=∃ j:Nat,j<=n/\i= .int .i64 j/\∀ q,q<j->gi xs q<=1
def IdxPost(xs:List Int)(w:World)(e:Ending)(w':World):Prop:=∃ r:Int,e= .returned (.int .i64 r)/\(0<=r↔ValidB xs=false)/\w=w'
theorem idx_any(A:Option Addr)(n c:Nat)(xs:List Int)(w:World)(h:Rd .u8 w A n c xs) :
 Calls prog 279 #[.slice A n c,.func (.func 255) #[] #[]] w (IdxPost xs w):=by
 have hbd:=h.bd.1;go_enter func279,ntmps279;go_wp2;go_loop [8] (fun i=>IdxInv n xs i) (fun i=>n - (intOf i).toNat)
 case atStart=>exact⟨0,by omega,rfl,by intro q hq;omega⟩
 case round =>
  obtain⟨j,hj,rfl,hv⟩:=hrel;by_cases hlt:j<n
  . have hc:=Rd.cell h hlt
    have hix:=fun W=>Rdv.ix h el53 hlt .i64 W;have HV:=aq hv;clear hv;by_cases h1:gi xs j<=1
    . have h1':decide (1<gi xs j)=false:=by simp;omega
      go_wp2_with (go_at_call 255;refine(inv1_any _ _).mono ?_;rintro e w' ⟨rfl,rfl⟩);go_round
      case rel=>exact⟨j+1,by omega,by go_num,fun q hq=>lt_succ_cases HV.o h1 q hq⟩
      case measure=>simp [intOf];omega
    . have h1':decide (1<gi xs j)=true:=by simp;omega
      have hf:=aq (validB_f (by rw [h.len];exact hlt) (by omega:1<gi xs j));go_wp2_with (go_at_call 255;refine(inv1_any _ _).mono ?_;rintro e w' ⟨rfl,rfl⟩);go_ret;exact⟨_,rfl,by rw [hf.o];simp,rfl⟩
  . have hf:=aq (validB_t (xs:=xs) (by rw [h.len];intro q hq;exact hv q (by omega)))
    go_wp2;go_ret;exact⟨_,rfl,by rw [hf.o];simp,rfl⟩
theorem contains_any(A:Option Addr)(n c:Nat)(xs:List Int)(w:World)(h:Rd .u8 w A n c xs) :
 Calls prog 218 #[.slice A n c,.func (.func 255) #[] #[]] w fun e w'=>e= .returned (.bool (!ValidB xs))/\w=w':=by
 go_enter func218,ntmps218;go_wp2_with (go_at_call 279;refine(idx_any A n c xs w h).mono ?_;rintro e w' ⟨r,rfl,hr,rfl⟩);go_ret;refine⟨ret_bool ?_,rfl⟩;cases hv:ValidB xs<;>simp_all
theorem invalid_any(A:Option Addr)(n c:Nat)(xs:List Int)(w:World)(h:Rd .u8 w A n c xs) :
 Calls prog 187 #[.slice A n c] w fun e w'=>e= .returned (.bool (!ValidB xs))/\w=w':=by
 go_enter func187,ntmps187;go_wp2_with (go_at_call 218;refine(contains_any A n c xs w h).mono ?_;rintro e w' ⟨rfl,rfl⟩);go_ret;exact⟨rfl,rfl⟩
/-! ### slices.Clone -/
theorem clone_any(A:Option Addr)(n c:Nat)(xs:List Int)(w:World)(h:Rd .u8 w A n c xs)(hn:n<=100000) :
 Calls prog 190 #[.slice A n c] w fun e w'=>∃ A' c',e= .returned (.slice A' n c')/\Own .u8 5 w' w.heap.size A' n c' xs/\Below w.heap.size w w':=by
 have e1:=fun W=>Lib.run_eql_slice_nil (P:=prog) W 53 5 A n c 0 0 el53.u;cases A with
 | none =>
   have hc:=h.nil rfl;have hnc:=h.le;obtain rfl:n=0:=by omega
   subst hc;obtain rfl:xs=[]:=List.eq_nil_of_length_eq_zero h.len;go_enter func190,ntmps190;go_wp2;go_ret;exact⟨none,0,rfl,Own.nilv .u8 5 w _,Below.refl _ _⟩
 | some ad =>
   have h1:=Rdv.alloc h (.cells #[] 5);have hO0:Ownv 5 (w.alloc (.cells #[] 5)) w.heap.size (some ⟨w.heap.size,0,none⟩) 0 0 []:=Ownv.lit w #[] 5 rfl (Nat.le_refl _) (Nat.zero_le _);go_enter func190,ntmps190;go_wp2_with (at_builtin;go_loud (refine list_of rfl fun K hK=>wp_app _ _ 53 rfl el53 rfl rfl hO0 h1 (oneCell_ints .u8 xs) (by omega) (by unfold maxLen;omega) (by simp) ?_);intro A' c' w' hO hg;refine hK _ _ ?_;clear hK K);go_ret;exact⟨A',c',ret_sl rfl rfl rfl,Own.of_eq hO (Nat.zero_add n) (List.nil_append _),(Below.refl _ _).grown (grownBy_of_alloc hg) (Nat.le_refl _) (by simp [Value.ownBlock])⟩
/-! ### slices.Grow(nil, n) -/
theorem grow_any(n:Nat)(w:World)(hn:n<=1000000) :
 Calls prog 278 #[.slice none 0 0,.int .i64 n] w fun e w'=>∃ A' c',e= .returned (.slice A' 0 c')/\Ownv 5 w' w.heap.size A' 0 c' []/\Below w.heap.size w w':=by
 by_cases h0:n=0
 . subst h0
   go_enter func278,ntmps278;go_wp2;go_ret;exact⟨none,0,rfl,Ownv.nilv 5 w _,Below.refl _ _⟩
 . have h1:(0:Int)<(n:Int):=by omega
   go_enter func278,ntmps278;go_wp2_with (at_builtin;go_loud (refine list_of rfl fun K hK=>wp_appz _ _ 53 3 rfl el53 (kn:=.i64) (by kernel_rfl) rfl n rfl rfl rfl (Ownv.nilv 5 w w.heap.size) (by omega) (by omega) (Nat.le_refl _) ?_);intro A' c' w' hO hg;have hsl:=fun W=>Rdv.slh hO.rd el53 .i64 (Nat.zero_le c') W;refine hK _ _ ?_;clear hK K);go_ret;exact⟨A',c',rfl,Ownv.upto hO (Nat.zero_le _),(Below.refl _ _).grown hg (Nat.le_refl _) (by simp [Value.ownBlock])⟩
/-! ### split -/
def splitL(v:Int)(n:Nat):List Int:=(List.range n).map fun j=>IntKind.u8.wrap (bits .and .u32 (v / 2 ^ (n - 1 - j)) 1)
theorem splitL_step(v:Int)(n j:Nat)(hj:j<n):((splitL v n).take j ++ List.replicate (n - j) 0).set j (IntKind.u8.wrap (bits .and .u32 (v / 2 ^ (n - 1 - j)) 1))=(splitL v n).take (j+1) ++ List.replicate (n - (j+1)) 0:=by
 have hl:(splitL v n).length=n:=by simp [splitL]
 rw [List.set_append_right _ _ (by rw [List.length_take];omega),List.length_take,Nat.min_eq_left (by omega),Nat.sub_self,show n - j=(n - (j+1))+1 by omega,List.replicate_succ,List.set_cons_zero,
  List.take_succ_eq_append_getElem (by omega),List.append_assoc]
 simp [splitL]
def SplitInv(w1:World)(v:Int)(n:Nat)(A:Option Addr)(i:Value)(wr:World):Prop:=∃ j:Nat,j<=n/\i= .int .i64 j /\
 Own .u8 5 wr w1.heap.size A n n ((splitL v n).take j ++ List.replicate (n - j) 0)/\Below w1.heap.size w1 wr
theorem split_any(v:Int)(n:Nat)(w:World)(hn:n<=32) :
 Calls prog 256 #[.int .u32 v,.int .i64 n] w fun e w'=>∃ A' c',e= .returned (.slice A' n c')/\Own .u8 5 w' w.heap.size A' n c' (splitL v n)/\Below w.heap.size w w':=by
 go_enter func256,ntmps256;go_wp2_with (at_make;refine list_of rfl fun K hK=>wp_mk _ _ 53 rfl el53 rfl rfl (by omega) (by unfold maxLen;omega) ?_;intro A w1 hO hB1 hA;refine hK _ _ ?_;clear hK K);go_loopw [11] (fun i wr=>SplitInv w v n A i wr) (fun i _=>n - (intOf i).toNat)
 case atStart=>exact⟨0,by omega,rfl,Own.of_eq hO rfl (by simp),hB1⟩
 case round =>
  obtain⟨j,hj,rfl,hOj,hBj⟩:=hrel;by_cases hlt:j<n
  . have hix:=fun W=>Rdv.ix (Own.rd hOj) el53 hlt .i64 W
    have hcell:=Rd.cell (Own.rd hOj) hlt;have hfz:=Ownv.frozen hOj (by omega) j;have HSET:=aq (Own.set_ hOj hlt (IntKind.u8.wrap (bits .and .u32 (v / 2 ^ (n - 1 - j)) 1)));go_wp2;go_roundw
    case rel=>exact⟨j+1,by omega,by go_num,Own.of_eq HSET.o.1 rfl (by rw [splitL_step v n j hlt]),hBj.grown HSET.o.2 hBj.size (fun k hk=>by injection hk with hk;rw [<- hk];exact(Ownv.blk_ge hOj (by omega)).1)⟩
    case measure=>simp [intOf];omega
  . obtain rfl:j=n:=by omega
    go_wp2;go_ret;exact⟨_,_,rfl,Own.of_eq hOj rfl (by rw [Nat.sub_self,List.replicate_zero,List.append_nil,List.take_of_length_le (by simp [splitL])]),hBj⟩
open Go.Shelf
attribute [local go_sem] Oper.semAt_some
set_option maxHeartbeats 1000000
theorem values_any(A:Option Addr)(n c:Nat)(w:World) :
 Calls prog 258 #[.slice A n c] w fun e w'=>e= .returned (.func (.func 304) #[] #[.pointer (some ⟨w.heap.size,0,none⟩)])/\w.alloc (.cells #[.slice A n c] 53)=w':=by
 go_enter func258,ntmps258;go_wp2;go_ret;exact⟨rfl,rfl⟩
def uptoL(xs:List Int)(k:Nat):List Int:=xs.take k
theorem uptoL_succ(xs:List Int)(k:Nat)(h:k<xs.length):uptoL xs (k+1)=uptoL xs k ++ [gi xs k]:=by
 unfold uptoL;rw [List.take_succ_eq_append_getElem h,gi_eq xs k h]
def V1Inv(n:Nat)(xs:List Int)(n₀:Nat)(W:World)(J:List Int->World->Prop)(i:Value)(wr:World):Prop:=∃ k:Nat,k<=n/\i= .int .i64 k/\J (uptoL xs k) wr/\Below n₀ W wr
def V1Post(xs:List Int)(J Jx:List Int->World->Prop)(e:Ending)(W':World):Prop :=
 (∃ v,e= .returned v)/\((∃ ys,ys=xs/\J ys W')\/(∃ pre,(∃ k,k<=xs.length/\pre=uptoL xs k)/\Jx pre W'))
theorem values1_in(F:Fence)(m:Nat)(hF:F.fn 304)(hro:F.round=none)(hm:1<=m)(l Bs n₀:Nat)(A:Option Addr)(n c:Nat)(xs:List Int)(w0:World)(hR:Rd .u8 w0 A n c xs)(h0n:w0.heap.size=n₀)(J Jx:List Int->World->Prop)
 (hY:∀ pre x W,J pre W->pre.length<n->YieldAt F (m - 1) prog l #[.int .u8 x] W fun e W' =>
   (e= .returned (.bool true)/\J (pre ++ [x]) W'/\Below n₀ W W')\/(e= .returned (.bool false)/\Jx (pre ++ [x]) W'))
 (W:World) (hW:Below n₀ w0 W) (hBs:W.cell? ⟨Bs,0,none⟩=some (.slice A n c)) (h0:J [] W) :
 CallsIn F m prog 304 #[.func (.yield l) #[] #[],.pointer (some ⟨Bs,0,none⟩)] W (V1Post xs J Jx):=by
 have hxl:=hR.len;have hbd:=hR.bd.1;have HXL:=aq hxl;clear hxl;have HR:=aq hR;refine callsIn_of_wp func304 rfl hF ?_ hro;simp only [ntmps304,List.size_toArray,List.length_cons,List.length_nil,Nat.reduceAdd,Nat.reduceSub,Array.replicate_succ,Array.replicate_zero,List.push_toArray,List.append_toArray,List.nil_append,List.cons_append];gi_wp2;gi_loopw [7] (fun i wr=>V1Inv n xs n₀ W J i wr) (fun i _=>n - (intOf i).toNat)
 case atStart=>exact⟨0,Nat.zero_le _,rfl,h0,Below.refl _ _⟩
 case round =>
  obtain⟨k,hk,rfl,hJs,hnx⟩:=hrel;by_cases hlt:k<n
  . have hRr:Rd .u8 wr A n c xs:=Rdv.below HR.o (by rw [h0n];exact hW.trans hnx)
    have hc:=Rd.cell hRr hlt;have hix:=fun W=>Rdv.ix hRr el53 hlt .i64 W;obtain⟨fn,tmps,assign,body,hy,hRd⟩:=hY _ (gi xs k) wr hJs (by unfold uptoL;rw [List.length_take,HXL.o];omega);gi_wp2;refine hRd.mono ?_;rintro e W3 (⟨rfl,hJ3,hk3⟩ | ⟨rfl,hJx3⟩)
    . gi_wp2
      go_roundw
      case rel=>exact⟨k+1,by omega,by simp,by rw [uptoL_succ _ _ (by rw [HXL.o];exact hlt)];exact hJ3,hnx.trans hk3⟩
      case measure=>simp [intOf];omega
    . gi_wp2
      refine bodyPost_ret (results_none rfl _ _ _) rfl ?_;exact⟨⟨_,rfl⟩,.inr ⟨_,⟨k+1,by rw [HXL.o];omega,(uptoL_succ _ _ (by rw [HXL.o];exact hlt)).symm⟩,hJx3⟩⟩
  . obtain rfl:k=n:=by omega
    gi_wp2;go_end0;exact⟨⟨_,rfl⟩,.inl ⟨_,by unfold uptoL;exact List.take_of_length_le (Nat.le_of_eq HXL.o),hJs⟩⟩
theorem values_stops(F:Fence)(m:Nat)(hF:F.fn 304)(hro:F.round=none)(hm:1<=m)(Bs n₀:Nat)(A:Option Addr)(n c:Nat)(xs:List Int)(w0 w:World)(hR:Rd .u8 w0 A n c xs)(h0n:w0.heap.size=n₀)(hW0:Below n₀ w0 w)
 (hBs:Bs<w.heap.size) (hc:w.cell? ⟨Bs,0,none⟩=some (.slice A n c)) :
 SeqStopsK F m prog 304 #[.pointer (some ⟨Bs,0,none⟩)] (fun x:Int=>#[Value.int .u8 x]) (Below n₀) (fun ys=>ys=xs) (fun pre=>∃ k,k<=xs.length/\pre=uptoL xs k) n w:=fun l J Jx W hW _ _ hY h0 =>
 values1_in F m hF hro hm l Bs n₀ A n c xs w0 hR h0n J Jx hY W (hW0.trans (hW.mono (by have:=hW0.size;omega))) ((hW.cell (p:=⟨Bs,0,none⟩) hBs).trans hc) h0
/-! ### divide -/
def crcStep(L:Nat)(p:Int)(reg b:Int):Int :=
 bits .xor .u32 (bits .and .u32 (reg*2 % 4294967296) ((2 ^ L % 4294967296 - 1) % 4294967296)) (bits .xor .u32 (bits .and .u32 (reg / 2 ^ (L - 1)) 1) (b % 4294967296)*p % 4294967296)
def crcFold(L:Nat)(p:Int)(xs:List Int):Int:=xs.foldl (crcStep L p) 0
theorem crcFold_snoc(L:Nat)(p:Int)(xs:List Int)(x:Int):crcFold L p (xs ++ [x])=crcStep L p (crcFold L p xs) x:=by simp [crcFold]
theorem divide_any(L:Nat)(p:Int)(Bs:Nat)(A:Option Addr)(n c:Nat)(xs:List Int)(w:World)(hR:Rd .u8 w A n c xs)(hBs:Bs<w.heap.size)(hc:w.cell? ⟨Bs,0,none⟩=some (.slice A n c))(hL:8<=L)(hL2:L<=24) :
 Calls prog 257 #[.agg #[.int .i64 (L:Int),.int .u32 p],.func (.func 304) #[] #[.pointer (some ⟨Bs,0,none⟩)]] w fun e w'=>e= .returned (.int .u32 (crcFold L p xs))/\Below w.heap.size w w':=by
 refine(callsIn_wide (n:=3)).1 ?_;refine callsIn_of_wp_marks func257 rfl trivial ?_;simp only [ntmps257,List.size_toArray,List.length_cons,List.length_nil,Nat.reduceAdd,Nat.reduceSub,Array.replicate_succ,Array.replicate_zero,List.push_toArray,List.append_toArray,List.nil_append,List.cons_append];gi_wp2;have cS0:((w.alloc (Obj.cells #[.int .i64 L,.int .u32 p] 303)).alloc (Obj.cells #[.int .u32 0] 143)).cell? ⟨w.heap.size,0,none⟩=some (.int .i64 L):=by simp [go_sem]
 have cS1:((w.alloc (Obj.cells #[.int .i64 L,.int .u32 p] 303)).alloc (Obj.cells #[.int .u32 0] 143)).cell? ⟨w.heap.size,1,none⟩=some (.int .u32 p):=by simp [go_sem]
 have cR:((w.alloc (Obj.cells #[.int .i64 L,.int .u32 p] 303)).alloc (Obj.cells #[.int .u32 0] 143)).cell? ⟨w.heap.size+1,0,none⟩=some (.int .u32 0)/\((w.alloc (Obj.cells #[.int .i64 L,.int .u32 p] 303)).alloc (Obj.cells #[.int .u32 0] 143)).frozen? ⟨w.heap.size+1,0,none⟩=false:=by simp [go_sem]
 have hB0:Below w.heap.size w ((w.alloc (Obj.cells #[.int .i64 L,.int .u32 p] 303)).alloc (Obj.cells #[.int .u32 0] 143)):=((Below.refl _ w).alloc (Nat.le_refl _) _).alloc (by simp) _;have hc2:=(hB0.cell (p:=⟨Bs,0,none⟩) hBs).trans hc;generalize hw2:(w.alloc (Obj.cells #[.int .i64 L,.int .u32 p] 303)).alloc (Obj.cells #[.int .u32 0] 143)=w2 at *;have hsz:w2.heap.size=w.heap.size+2:=by rw [<- hw2];simp
 refine wpIn_rangeFunc_ownF rfl (by omega) (gf:=304) (lb:=#[.pointer (some ⟨Bs,0,none⟩)]) rfl trivial (enters_of func304 (by kernel_rfl) rfl)
  (values_stops Fence.wide 2 trivial rfl (by omega) Bs w.heap.size A n c xs w w2 hR rfl hB0 (by omega) hc2) belowK_t (belowK_b (by omega)) (Below.refl _ _) (fun _=>rfl)
  (fun pre W=>(W.cell? ⟨w.heap.size,0,none⟩=some (.int .i64 L)/\W.cell? ⟨w.heap.size,1,none⟩=some (.int .u32 p)/\W.cell? ⟨w.heap.size+1,0,none⟩=some (.int .u32 (crcFold L p pre))/\W.frozen? ⟨w.heap.size+1,0,none⟩=false)/\Below w.heap.size w W)
  (fun _ _ _=>False)
  (OwnFrom.and (Own.from (fun s A B row hs hg hr=>⟨cell_kept hs.1 hg hr,cell_kept hs.2.1 hg hr,cell_kept hs.2.2.1 hg hr,(frozen_kept hs.2.2.1 hg hr).trans hs.2.2.2⟩) _) (ownFrom_below (Nat.le_refl _) (by omega)))
  (fun _ _ _ _ _ hs _ _=>hs)
  ⟨⟨cS0,cS1,cR.1,cR.2⟩,hB0⟩
  (fun x=>{tmps:=#[.agg #[.int .i64 L,.int .u32 p],.func (.func 304) #[] #[.pointer (some ⟨Bs,0,none⟩)],.pointer (some ⟨w.heap.size,0,none⟩),undef,.int .u32 0,.pointer (some ⟨w.heap.size+1,0,none⟩),.int .u8 x,undef,.func (.func 304) #[] #[.pointer (some ⟨Bs,0,none⟩)],.int .u8 x,
    undef,undef,undef,undef,undef,undef,undef,undef,undef,undef,undef,undef,undef,undef,undef,undef,undef,undef,undef,undef,undef,undef],defers:=[]}) ?assign ?body ?done ?stop
 case assign =>
  intro l x W K hK;gi_wp2;exact hK
 case body =>
  rintro l pre x W ⟨⟨h1,h2,h3,h4⟩,hB⟩ _;gi_wp2;refine regIn_still_tail 12 (by kernel_rfl) (by kernel_rfl) (by kernel_rfl) (fun⟨_,_,h⟩=>h) ?_;simp only [List.take_succ_cons,List.take_zero,List.drop_succ_cons,List.drop_zero];repeat still_step
  try refine wpStill_nil ?_
  simp only [World.drew_eq];go_wp2;have hset:=World.cell?_setCell_same' W ⟨w.heap.size+1,0,none⟩ (.int .u32 (crcFold L p (pre ++ [x]))) (by rw [h3];rfl);have hs0:=(World.cell?_setCell_other W ⟨w.heap.size+1,0,none⟩ ⟨w.heap.size,0,none⟩ (.int .u32 (crcFold L p (pre ++ [x]))) (by simp)).trans h1;have hs1:=(World.cell?_setCell_other W ⟨w.heap.size+1,0,none⟩ ⟨w.heap.size,1,none⟩ (.int .u32 (crcFold L p (pre ++ [x]))) (by simp)).trans h2;have hsf:(W.setCell ⟨w.heap.size+1,0,none⟩ (.int .u32 (crcFold L p (pre ++ [x])))).frozen? ⟨w.heap.size+1,0,none⟩=false:=by rw [World.frozen?_setCell];exact h4
  rw [crcFold_snoc]at hset hs0 hs1 hsf;exact⟨(KeepsOthers.setCell _ _ _).trans (KeepsOthers.drew _),((Below.refl w.heap.size W).setCell (p:=⟨w.heap.size+1,0,none⟩) (Nat.le_succ _) _).drew,⟨hs0,hs1,by rw [crcFold_snoc];exact hset,hsf⟩,(hB.setCell (p:=⟨w.heap.size+1,0,none⟩) (Nat.le_succ _) _).drew⟩
 case done =>
  rintro D ys W hD rfl ⟨⟨h1,h2,h3,h4⟩,hB⟩ hK;gi_wp2;refine⟨by simp,.inl ⟨_,_,rfl,run_takeDeferred hK,?_⟩⟩;exact⟨_,results_tmp rfl _ _ _,rfl,hB.trans (belowK_b (w:=w) (Nat.le_refl _) W D _ _ (by omega) hK rfl rfl)⟩
 case stop =>
  rintro D c pre W _ _ h _;exact h.elim
end Go.Proofs.YthmhogdceolkdaaGreat.Cr
namespace Go.Proofs.YthmhogdceolkdaaGreat.Cr
open Tryz
open Go.RowKit
set_option maxRecDepth 100000
set_option maxHeartbeats 400000
def sLen(k:Int):Nat:=if k=1 then 24 else if k=2 then 24 else if k=3 then 16 else if k=4 then 8 else 0
def sPoly(k:Int):Int:=if k=1 then 0x864cfb else if k=2 then 0x800063 else if k=3 then 0x1021 else if k=4 then 0x9b else 0
theorem sLen_cases(k:Int):sLen k=0\/8<=sLen k/\sLen k<=24:=by unfold sLen;repeat (split<;>try omega)
theorem of_lit(k:Int)(w:World)(h:k=0\/k=1\/k=2\/k=3\/k=4) :
 Calls prog 254 #[.int .i64 k] w fun e w'=>e= .returned (.agg #[.int .i64 (sLen k:Int),.int .u32 (sPoly k)])/\Below w.heap.size w w':=by
 rcases h with rfl | rfl | rfl | rfl | rfl
 all_goals
  go_enter func254,ntmps254
  go_wp2
  refine bodyPost_ret (v:=.agg #[_,_]) (by simp [results,results254,go_sem];exact⟨rfl,rfl⟩) rfl ⟨rfl,?_⟩
  exact(((Below.refl _ _).alloc (Nat.le_refl _) _).alloc (by simp) _)
theorem of_out(k:Int)(w:World)(h:k<0\/5<=k) :
 Calls prog 254 #[.int .i64 k] w fun e w'=>e= .returned (.agg #[.int .i64 (sLen k:Int),.int .u32 (sPoly k)])/\Below w.heap.size w w':=by
 have e1:sLen k=0:=by unfold sLen;repeat (first | rw [if_neg (by omega)] | rfl)
 have e2:sPoly k=0:=by unfold sPoly;repeat (first | rw [if_neg (by omega)] | rfl)
 rw [e1,e2];clear e1 e2;rcases h with h | h
 . go_enter func254,ntmps254
   go_wp2;refine bodyPost_ret (v:=.agg #[_,_]) (by simp [results,results254,go_sem]) rfl ⟨rfl,?_⟩;exact(((Below.refl _ _).alloc (Nat.le_refl _) _).alloc (by simp) _)
 . have h0:decide (k<0)=false:=by simp;omega
   go_enter func254,ntmps254;go_wp2;refine bodyPost_ret (v:=.agg #[_,_]) (by simp [results,results254,go_sem]) rfl ⟨rfl,?_⟩;exact(((Below.refl _ _).alloc (Nat.le_refl _) _).alloc (by simp) _)
theorem of_any(k:Int)(w:World) :
 Calls prog 254 #[.int .i64 k] w fun e w'=>e= .returned (.agg #[.int .i64 (sLen k:Int),.int .u32 (sPoly k)])/\Below w.heap.size w w':=by
 by_cases h:k<0\/5<=k
 . exact of_out k w h
 . exact of_lit k w (by omega)
theorem len_any(k:Int)(w:World):Calls prog 186 #[.int .i64 k] w fun e w'=>e= .returned (.int .i64 (sLen k:Int))/\Below w.heap.size w w':=by
 have h1:=aq (of_any k w);generalize sLen k=L at *;generalize sPoly k=p at *;have hfld:∀ W,(Instr.field 303 (.agg #[.int .i64 (L:Int),.int .u32 p]) 0).run prog W= .ok (.int .i64 (L:Int)) W:=fun _=>by kernel_rfl
 go_enter func186,ntmps186;go_wp2_with fail;refine h1.o.mono ?_;rintro e w1 ⟨rfl,hB⟩;go_wp2;go_ret;exact⟨rfl,hB⟩
end Go.Proofs.YthmhogdceolkdaaGreat.Cr