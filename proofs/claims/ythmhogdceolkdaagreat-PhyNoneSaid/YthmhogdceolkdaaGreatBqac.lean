/- Bundle. Conditions: none. -/
import Derived.Test.YthmhogdceolkdaaGreatProg
import Derived.Test.YthmhogdceolkdaaGreatBqaa
import Derived.Handy
set_option linter.unusedVariables false
set_option linter.unusedSimpArgs false
namespace Go.Proofs.YthmhogdceolkdaaGreat.Tu
open Tryz
open Go.RowKit
def validK(k:Int):Bool:=decide (40<=k/\k<=512/\k % 8=0\/528<=k/\k<=1024/\k % 16=0\/1056<=k/\k<=2048/\k % 32=0\/2112<=k/\k<=6144/\k % 64=0)
def spansV:Value:=.agg #[.int .i64 40,.int .i64 512,.int .i64 8,.int .i64 528,.int .i64 1024,.int .i64 16,.int .i64 1056,.int .i64 2048,.int .i64 32,.int .i64 2112,.int .i64 6144,.int .i64 64]
theorem spans_any(w:World):Calls prog 284 #[] w fun e w'=>e= .returned spansV/\Below w.heap.size w w':=by
 go_enter func284,ntmps284;go_wp2;refine bodyPost_ret (v:=spansV) (by simp [results,results284,go_sem];rfl) rfl ?_;exact⟨rfl,(Below.refl _ w).alloc (Nat.le_refl _) _⟩
theorem span0(W:World):(Instr.index 334 spansV (.int .i64 0)).run prog W= .ok (.agg #[.int .i64 40,.int .i64 512,.int .i64 8]) W:=by kernel_rfl
theorem span1(W:World):(Instr.index 334 spansV (.int .i64 1)).run prog W= .ok (.agg #[.int .i64 528,.int .i64 1024,.int .i64 16]) W:=by kernel_rfl
theorem span2(W:World):(Instr.index 334 spansV (.int .i64 2)).run prog W= .ok (.agg #[.int .i64 1056,.int .i64 2048,.int .i64 32]) W:=by kernel_rfl
theorem span3(W:World):(Instr.index 334 spansV (.int .i64 3)).run prog W= .ok (.agg #[.int .i64 2112,.int .i64 6144,.int .i64 64]) W:=by kernel_rfl
def SpanInv(k:Int)(w:World)(i:Value)(wr:World):Prop:=∃ j:Nat,j<=4/\i= .int .i64 j/\(0<j->¬ (40<=k/\k<=512))/\(1<j->¬ (528<=k/\k<=1024))/\(2<j->¬ (1056<=k/\k<=2048))/\(3<j->¬ (2112<=k/\k<=6144))/\Below w.heap.size w wr
theorem valid_any(k:Int)(w:World):Calls prog 238 #[.int .i64 k] w fun e w'=>e= .returned (.bool (validK k))/\Below w.heap.size w w':=by
 have hV:Hid (∀ b:Bool,(b=true↔(40<=k/\k<=512/\k % 8=0\/528<=k/\k<=1024/\k % 16=0\/1056<=k/\k<=2048/\k % 32=0\/2112<=k/\k<=6144/\k % 64=0))->b=validK k):=aq (by
  intro b hb;unfold validK;rw [Bool.eq_iff_iff,hb,decide_eq_true_iff])
 generalize validK k=V at *;go_enter func238,ntmps238;go_wp2_with fail;refine(spans_any _).mono ?_;rintro e w1 ⟨rfl,hB1⟩;have e0:=span0;have e1:=span1;have e2:=span2;have e3:=span3;generalize spansV=SV at *;go_wp2_with fail;go_loopw [6] (fun i wr=>SpanInv k w i wr) (fun i _=>4 - (intOf i).toNat)
 case atStart=>exact⟨0,by omega,rfl,by omega,by omega,by omega,by omega,hB1⟩
 case round =>
  obtain⟨j,hj,rfl,h1,h2,h3,h4,hB⟩:=hrel;have H1:=aq h1;have H2:=aq h2;have H3:=aq h3;have H4:=aq h4;clear h1 h2 h3 h4;rcases (by omega:j=0\/j=1\/j=2\/j=3\/j=4) with rfl | rfl | rfl | rfl | rfl
  all_goals try simp only [Int.ofNat_zero,Int.ofNat_one,Int.cast_ofNat_Int]
  all_goals go_wp2
  all_goals (have h1:=H1.o;have h2:=H2.o;have h3:=H3.o;have h4:=H4.o)
  all_goals first
   | exact⟨⟨_,by omega,rfl,by omega,by omega,by omega,by omega,hB.alloc hB.size _⟩,by simp [intOf]⟩
   | exact⟨⟨1,by omega,rfl,by omega,by omega,by omega,by omega,hB.alloc hB.size _⟩,by simp [intOf]⟩
   | exact⟨⟨2,by omega,rfl,by omega,by omega,by omega,by omega,hB.alloc hB.size _⟩,by simp [intOf]⟩
   | exact⟨⟨3,by omega,rfl,by omega,by omega,by omega,by omega,hB.alloc hB.size _⟩,by simp [intOf]⟩
   | exact⟨⟨4,by omega,rfl,by omega,by omega,by omega,by omega,hB.alloc hB.size _⟩,by simp [intOf]⟩
   | (go_ret
      refine⟨ret_bool (hV.o _ ?_),by first | exact hB.alloc hB.size _ | exact hB⟩
      first
       | (rw [beq_iff_eq];omega)
       | (refine iff_of_false (by decide) ?_;omega))
def strip:Nat->Nat->Nat->Option Nat
 | 0,_,_=>none
 | f+1,p,k=>if k % p=0 then strip f p (k / p) else some k
def dvs:Nat->Nat->Nat->List Nat->Option (List Nat)
 | 0,_,_,_=>none
 | f+1,p,k,acc=>if k<=1 then some acc else match strip 14 p k with
   | none=>none
   | some k2=>dvs f (p+1) k2 (if k % p=0 then acc ++ [p] else acc)
def cop(f:Nat)(D:List Nat):Bool:=D.all fun p=>decide (f % p≠0)
def fnd:Nat->Nat->List Nat->Option Nat
 | 0,_,_=>none
 | n+1,f,D=>if cop f D=true then some f else fnd n (f+2) D
def fndG:Nat->Nat->Nat->Option Nat
 | 0,_,_=>none
 | n+1,f,k=>if 1<Nat.gcd f k then fndG n (f+2) k else some f
def prodL(D:List Nat):Nat:=D.foldl (· * ·) 1
def validN(k:Nat):Bool:=validK (k:Int)
def chk(k:Nat):Bool:=match dvs 100 2 k [] with
 | none=>false
 | some D=>match fnd 50 3 D with
   | none=>false
   | some F=>decide (D.length<=12/\fndG 50 3 k=some F/\F<=1000/\prodL D<=6144) && D.all (fun p=>decide (1<=p))
theorem chk_all:((List.range 6145).all fun k=>!validN k || chk k)=true:=by decide +kernel
def dvL(k:Nat):List Nat:=(dvs 100 2 k []).getD []
def f1N(k:Nat):Nat:=(fnd 50 3 (dvL k)).getD 0
def f2N(k:Nat):Nat:=prodL (dvL k)
structure Prm (k:Nat):Prop where
 k0:40<=k
 k1:k<=6144
 d:dvs 100 2 k []=some (dvL k)
 f:fnd 50 3 (dvL k)=some (f1N k)
 g:fndG 50 3 k=some (f1N k)
 l:(dvL k).length<=12
 b1:f1N k<=1000
 b2:f2N k<=6144
 p:∀ q ∈ dvL k,1<=q
theorem valid_bd{k:Int}(h:validK k=true):40<=k/\k<=6144:=by
 unfold validK at h;rw [decide_eq_true_iff]at h;omega
theorem prm{k:Nat}(h:validK (k:Int)=true):Prm k:=by
 obtain⟨h0,h1⟩:=valid_bd h;have hc:=List.all_eq_true.1 chk_all k (List.mem_range.2 (by omega));have hv:validN k=true:=h;rw [hv]at hc;have hc:chk k=true:=by simpa using hc
 unfold chk at hc;have e1:dvs 100 2 k []=some (dvL k):=by
  unfold dvL;cases hd:dvs 100 2 k [] with
  | none=>rw [hd]at hc;cases hc
  | some D=>rfl
 rw [e1]at hc;simp only at hc;have e2:fnd 50 3 (dvL k)=some (f1N k):=by
  unfold f1N;cases hd:fnd 50 3 (dvL k) with
  | none=>rw [hd]at hc;cases hc
  | some D=>rfl
 rw [e2]at hc;simp only [Bool.and_eq_true,decide_eq_true_iff]at hc;obtain⟨⟨c1,c2,c3,c4⟩,c5⟩:=hc;exact⟨by omega,by omega,e1,e2,c2,c1,c3,c4,fun q hq=>by have:=List.all_eq_true.1 c5 q hq;simpa using this⟩
theorem dvs_len:∀ (f p k:Nat) (acc D:List Nat),dvs f p k acc=some D->acc.length<=D.length
 | 0,_,_,_,_,h=>by cases h
 | f+1,p,k,acc,D,h=>by
   unfold dvs at h;split at h
   . cases h;exact Nat.le_refl _
   . split at h
     . cases h
     . have:=dvs_len f (p+1) _ _ D h
       split at this
       . rw [List.length_append]at this;simp at this;omega
       . exact this
theorem dvs_step{f p k:Nat}{acc D:List Nat}(h:dvs f p k acc=some D)(hk:1<k):∃ f' k2,f=f'+1/\strip 14 p k=some k2/\dvs f' (p+1) k2 (if k % p=0 then acc ++ [p] else acc)=some D:=by
 cases f with
 | zero=>cases h
 | succ f =>
   unfold dvs at h;rw [if_neg (by omega)]at h;cases hs:strip 14 p k with
   | none=>rw [hs]at h;cases h
   | some k2=>rw [hs]at h;exact⟨f,k2,rfl,rfl,h⟩
theorem dvs_end{f p k:Nat}{acc D:List Nat}(h:dvs f p k acc=some D)(hk:k<=1):acc=D:=by
 cases f with
 | zero=>cases h
 | succ f=>unfold dvs at h;rw [if_pos hk]at h;exact Option.some.inj h
theorem strip_step{f p k K:Nat}(h:strip f p k=some K)(hk:k % p=0):∃ f',f=f'+1/\strip f' p (k / p)=some K:=by
 cases f with
 | zero=>cases h
 | succ f=>unfold strip at h;rw [if_pos hk]at h;exact⟨f,rfl,h⟩
theorem strip_end{f p k K:Nat}(h:strip f p k=some K)(hk:k % p≠0):k=K:=by
 cases f with
 | zero=>cases h
 | succ f=>unfold strip at h;rw [if_neg hk]at h;exact Option.some.inj h
theorem fnd_le:∀ (n f:Nat) (D:List Nat) (F:Nat),fnd n f D=some F->f<=F
 | 0,_,_,_,h=>by cases h
 | n+1,f,D,F,h=>by
   unfold fnd at h;split at h
   . cases h;exact Nat.le_refl _
   . have:=fnd_le n (f+2) D F h;omega
theorem fnd_step{n f:Nat}{D:List Nat}{F:Nat}(h:fnd n f D=some F)(hc:cop f D=false):f+2<=F/\∃ n',fnd n' (f+2) D=some F:=by
 cases n with
 | zero=>cases h
 | succ n=>unfold fnd at h;rw [if_neg (by rw [hc];decide)]at h;exact⟨fnd_le _ _ _ _ h,n,h⟩
theorem fnd_end{n f:Nat}{D:List Nat}{F:Nat}(h:fnd n f D=some F)(hc:cop f D=true):f=F:=by
 cases n with
 | zero=>cases h
 | succ n=>unfold fnd at h;rw [if_pos hc]at h;exact Option.some.inj h
theorem foldl_mul(D:List Nat):∀ a,D.foldl (· * ·) a=a*prodL D:=by
 induction D with
 | nil=>intro a;simp [prodL]
 | cons d D ih=>intro a;simp only [prodL,List.foldl_cons];rw [ih,ih (1*d)];rw [Nat.one_mul,Nat.mul_assoc]
theorem prodL_app(a b:List Nat):prodL (a ++ b)=prodL a*prodL b:=by
 unfold prodL;rw [List.foldl_append,foldl_mul];rfl
theorem prodL_pos{D:List Nat}(h:∀ q ∈ D,1<=q):1<=prodL D:=by
 induction D with
 | nil=>simp [prodL]
 | cons d D ih =>
   rw [show d :: D=[d] ++ D from rfl,prodL_app];have h1:=h d (by simp);have h2:=ih fun q hq=>h q (by simp [hq]);have:prodL [d]=d:=by simp [prodL]
   rw [this];exact Nat.mul_pos h1 h2
theorem prodL_le{a t:List Nat}(h:∀ q ∈ a ++ t,1<=q):prodL a<=prodL (a ++ t):=by
 rw [prodL_app];exact Nat.le_mul_of_pos_right _ (prodL_pos fun q hq=>h q (List.mem_append_right _ hq))
def piN(k i:Nat):Nat:=(f1N k*i+f2N k*i % k*i) % k
def ordL(k:Nat):List Int:=(List.range k).map fun i=>(piN k i:Int)
end Go.Proofs.YthmhogdceolkdaaGreat.Tu