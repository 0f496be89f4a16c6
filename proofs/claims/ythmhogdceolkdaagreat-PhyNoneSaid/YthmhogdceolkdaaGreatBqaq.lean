/- Bundle. Conditions: none. -/
import Derived.Test.YthmhogdceolkdaaGreatBqap
import Derived.BigQuiet
import Derived.StillTailTactics
import Derived.Test.YthmhogdceolkdaaGreatBqab
set_option linter.unusedVariables false
set_option linter.unusedSimpArgs false
namespace Go.Proofs.YthmhogdceolkdaaGreat.Cr
open Tryz
open CM Go.RowKit
set_option maxRecDepth 100000
set_option maxHeartbeats 1000000
theorem below_drewN{n:Nat}{w w':World}(h:Below n w w')(q:Nat):Below n w (w'.drewN q):=⟨h.1,h.2,h.3,h.4,h.5⟩
theorem Blk.ne{w:World}{b b':Nat}{t t':TypeId}{cs cs':List Value}(h:Blk w b t cs)(h':Blk w b' t' cs')(ht:t≠t'):b≠b':=by
 rintro rfl;have:=Option.some.inj (h.symm.trans h');simp only [Obj.cells.injEq]at this;exact ht this.2.1
def jV(L:List Sv):Bool:=L.all fun s=>ValidB s.xs
def jS(b:Nat)(L:List Sv):Bool:=(List.range L.length).all fun j=>decide (L[j]?.map Sv.n=some (sz b j))
def jC(L:List Sv):Bool:=L.all fun s=>decide (chkErr 2 s.xs=0)
def jF(b:Nat)(L:List Sv):Bool:=match L[0]? with | some s=>No1 (s.xs.take (fi b)) | none=>true
def jErr(b:Nat)(L:List Sv):Int :=
 if jV L=false then 3 else if L.length≠bC b then 60 else if jS b L=false then 60 else if jF b L=false then 60 else if ¬ b<=6144/\jC L=false then 61 else 0
def jD(b:Nat)(L:List Sv)(k:Nat):List Int:=(L.take k).flatMap fun s=>s.xs.take (s.n - ck b)
def jRes(b:Nat)(L:List Sv):List Int:=if jErr b L=0 then(jD b L L.length).drop (fi b) else []
def JPost(b:Nat)(L:List Sv)(w:World)(e:Ending)(w':World):Prop:=∃ A' n' c',e= .returned (.tuple #[.slice A' n' c',.int .i64 (jErr b L)])/\Rd .u8 w' A' n' c' (jRes b L)/\Below w.heap.size w w'
def JBad(k:Int)(w:World)(e:Ending)(w':World):Prop:=e= .returned (.tuple #[.slice none 0 0,.int .i64 k])/\Below w.heap.size w w'
theorem jbad_post{b:Nat}{L:List Sv}{k:Int}{w w':World}{e:Ending}(h:JBad k w e w')(hk:jErr b L=k)(h0:k≠0):JPost b L w e w':=by
 obtain⟨rfl,hB⟩:=h;refine⟨none,0,0,by rw [hk],?_,hB⟩;unfold jRes;rw [if_neg (by rw [hk];exact h0)];exact Rd.nilv _ _
theorem join_end(R:Ending->World->Prop)(w w1:World)(TB EB:Nat)(k:Int)(v:Value)(hR:∀ e w',JBad k w e w'->R e w')(hT:Blk w1 TB 53 [v])(hE:Blk w1 EB 30 [.int .i64 0])(hB:Below w.heap.size w w1)(hT0:w.heap.size<=TB)(hE0:w.heap.size<=EB)(hne:EB≠TB)(ts:Array Value)(h2:ts.getD 4 undef= .pointer (some ⟨TB,0,none⟩))(h3:ts.getD 5 undef= .pointer (some ⟨EB,0,none⟩)) :
 Leaves prog Tryz.f123 ts R [{target:=.fn (.func 164) #[],args:=#[.pointer (some ⟨EB,0,none⟩),.func (.func 181) #[] #[.pointer (some ⟨TB,0,none⟩)]]}] (.panicking (pan k)) w1:=by
 refine leaves_cons (f:=164) (args:=#[.pointer (some ⟨EB,0,none⟩),.func (.func 181) #[] #[.pointer (some ⟨TB,0,none⟩)]]) (by simp) (by simp [go_sem]) ?_;refine(caught_pan76 ⟨EB,0,none⟩ _ k _ (fun W=>Blk W TB 53 [.slice none 0 0]/\w1.grownBy W (some TB)) (joinc1_any TB _ w1 hT) (fun W hW=>?_)).mono ?_
 . have hE2:=hE.grown hW.2 (by intro he;exact hne (Option.some.inj he))
   exact⟨⟨_,hE2.cell (j:=0) rfl⟩,hE2.frozen 0⟩
 rintro e u' w'' ⟨rfl,rfl,W2,hW2,rfl⟩;have hE2:=hE.grown hW2.2 (by intro he;exact hne (Option.some.inj he));have l1:=lv53 ((hW2.1.other (g:=EB) hne 0 (.int .i64 k)).cell (j:=0) (v:=.slice none 0 0) rfl);have l2:=lv24 ((hE2.set 0 (.int .i64 k)).cell (j:=0) (v:=.int .i64 k) rfl);have hBe:=(hB.grown hW2.2 hB.size (fun k hk=>by cases hk;exact hT0)).setCell (p:=⟨EB,0,none⟩) hE0 (.int .i64 k);have HBE:=aq hBe;clear hBe hW2 hE2 hE hT hB;have h2':ts[4]?.getD undef= .pointer (some ⟨TB,0,none⟩):=by simpa using h2
 have h3':ts[5]?.getD undef= .pointer (some ⟨EB,0,none⟩):=by simpa using h3
 simp [Leaves,settle,results,results123,h2',h3',asAddr,l1,l2,Sem.run_bind,Result.andThen];exact hR _ _ ⟨rfl,HBE.o⟩
theorem join_bad(b:Int)(A:Option Addr)(n c:Nat)(w:World)(h:b<1\/79560<b):Calls prog 123 #[.int .i64 b,.slice A n c] w (JBad 2 w):=by
 have hmf:∀ (fn:Fn) (first cap:Array Value) (w:World),(Instr.makeFunc fn first cap).run prog w= .ok (.func fn first cap) w:=fun _ _ _ _=>rfl;have HH:=aq h;clear h;have hT0:Blk ((w.alloc (.cells #[.slice none 0 0] 53)).alloc (.cells #[.int .i64 0] 30)) w.heap.size 53 [.slice none 0 0]:=(Blk.new w [.slice none 0 0] 53 rfl).alloc _;have hE0:Blk ((w.alloc (.cells #[.slice none 0 0] 53)).alloc (.cells #[.int .i64 0] 30)) (w.heap.size+1) 30 [.int .i64 0]:=Blk.new _ [.int .i64 0] 30 (by simp);have hB0:Below w.heap.size w ((w.alloc (.cells #[.slice none 0 0] 53)).alloc (.cells #[.int .i64 0] 30)):=((Below.refl _ _).alloc (Nat.le_refl _) _).alloc (by simp) _;go_enter_defers func123,ntmps123;go_wp2_with fail;generalize (w.alloc (.cells #[.slice none 0 0] 53)).alloc (.cells #[.int .i64 0] 30)=W at *;refine(plan_bad b W HH.o).mono ?_;rintro e w1 ⟨rfl,hB1⟩;exact join_end _ w w1 w.heap.size (w.heap.size+1) 2 _ (fun _ _ h=>h) (hT0.below hB1) (hE0.below hB1) (hB0.trans (hB1.mono hB0.size)) (Nat.le_refl _) (by omega) (by omega) _ rfl rfl
theorem jV_f{L:List Sv}{j:Nat}{s:Sv}(h:L[j]?=some s)(hv:ValidB s.xs=false):jV L=false:=by
 unfold jV;rw [List.all_eq_false];exact⟨s,List.mem_of_getElem? h,by simp [hv]⟩
theorem jV_t{L:List Sv}(h:∀ q s,q<L.length->L[q]?=some s->ValidB s.xs=true):jV L=true:=by
 unfold jV;rw [List.all_eq_true];intro s hs;obtain⟨j,hj,rfl⟩:=List.getElem_of_mem hs;exact h j _ hj (List.getElem?_eq_getElem hj)
theorem jErr_v{b:Nat}{L:List Sv}(h:jV L=false):jErr b L=3:=by unfold jErr;rw [if_pos h]
theorem jErr_l{b:Nat}{L:List Sv}(h:jV L=true)(h2:L.length≠bC b):jErr b L=60:=by unfold jErr;rw [if_neg (by simp [h]),if_pos h2]
theorem jErr_s{b:Nat}{L:List Sv}(h:jV L=true)(h2:L.length=bC b)(h3:jS b L=false):jErr b L=60:=by unfold jErr;rw [if_neg (by simp [h]),if_neg (by simp [h2]),if_pos h3]
theorem jErr_f{b:Nat}{L:List Sv}(h:jV L=true)(h2:L.length=bC b)(h3:jS b L=true)(h4:jF b L=false):jErr b L=60:=by unfold jErr;rw [if_neg (by simp [h]),if_neg (by simp [h2]),if_neg (by simp [h3]),if_pos h4]
theorem jErr_c{b:Nat}{L:List Sv}(h:jV L=true)(h2:L.length=bC b)(h3:jS b L=true)(h4:jF b L=true)(h5:¬ b<=6144)(h6:jC L=false):jErr b L=61:=by unfold jErr;rw [if_neg (by simp [h]),if_neg (by simp [h2]),if_neg (by simp [h3]),if_neg (by simp [h4]),if_pos ⟨h5,h6⟩]
theorem jErr_0{b:Nat}{L:List Sv}(h:jV L=true)(h2:L.length=bC b)(h3:jS b L=true)(h4:jF b L=true)(h5:¬ b<=6144->jC L=true):jErr b L=0:=by unfold jErr;rw [if_neg (by simp [h]),if_neg (by simp [h2]),if_neg (by simp [h3]),if_neg (by simp [h4]),if_neg (by rintro⟨h6,h7⟩;rw [h5 h6]at h7;cases h7)]
theorem jS_f{b:Nat}{L:List Sv}{j:Nat}{s:Sv}(h:L[j]?=some s)(hv:s.n≠sz b j):jS b L=false:=by
 unfold jS;rw [List.all_eq_false];refine⟨j,by rw [List.mem_range];exact(List.getElem?_eq_some_iff.1 h).1,?_⟩;rw [h];simpa using hv
theorem jS_t{b:Nat}{L:List Sv}(h:∀ q s,q<L.length->L[q]?=some s->s.n=sz b q):jS b L=true:=by
 unfold jS;rw [List.all_eq_true];intro j hj;have hj':j<L.length:=by simpa using hj
 have:=h j _ hj' (List.getElem?_eq_getElem hj');simp [hj',this]
def JsInv(W:World)(n b:Nat)(L:List Sv)(i:Value)(wr:World):Prop:=∃ j:Nat,j<=n/\i= .int .i64 j/\(∀ q s,q<j->L[q]?=some s->s.n=sz b q)/\Below W.heap.size W wr
theorem Rdv.slhm{w:World}{A:Option Addr}{n c:Nat}{vs:List Value}{P:Program}(h:Rdv w A n c vs){t e:TypeId}{z:Value}{bytes:Nat}(E:El P t e z bytes)(kl kh km:IntKind){l m:Nat}(hl:l<=m)(hm:m<=c)(W:World) :
 (Instr.sliceAt t (.slice A n c) (some (.int kl (l:Int))) (some (.int kh (m:Int))) (some (.int km (m:Int)))).run P W= .ok (.slice (cut A m l) (m - l) (m - l)) W:=by
 have e1:P.underlying t=some (.slice (P.elem t)):=by rw [E.u];simp [Program.elem,E.u]
 have e2:P.elem t=e:=by simp [Program.elem,E.u]
 rw [run_sliceAt_slice W t _ _ _ _ e1,run_slice_lhm W t A n c e1 kl kh km l m m (by omega) (by omega) (by omega) (by omega),e2,E.s];simp only [Result.andThen_ok,Int.toNat_natCast,sliced,Nat.mul_one,cut]
def JlInv(w:World)(b LB TB EB:Nat)(lay:List Int)(L:List Sv)(i:Value)(wr:World):Prop:=∃ (k:Nat) (Ao:Option Addr) (no co:Nat),k<=bC b/\i= .int .i64 k/\Blk wr TB 53 [.slice Ao no co]/\Blk wr EB 30 [.int .i64 0]/\Blk wr LB 175 (ints8 lay)/\Own .u8 5 wr w.heap.size Ao no co (jD b L k)/\Below w.heap.size w wr/\(¬ b<=6144->∀ q s,q<k->L[q]?=some s->chkErr 2 s.xs=0)
theorem jD_succ{b:Nat}{L:List Sv}{k:Nat}{s:Sv}(h:L[k]?=some s):jD b L (k+1)=jD b L k ++ s.xs.take (s.n - ck b):=by
 unfold jD;rw [take_get h,List.flatMap_append];simp
theorem jD_len{b:Nat}{L:List Sv}(hx:∀ s ∈ L,s.xs.length=s.n)(hz:∀ q s,L[q]?=some s->s.n=sz b q):∀ k,k<=L.length->(jD b L k).length=off b k
 | 0,_=>by simp [jD,off]
 | k+1,h=>by
   have hk:L[k]?=some L[k]:=List.getElem?_eq_getElem (by omega);rw [jD_succ hk,List.length_append,jD_len hx hz k (by omega),List.length_take,hx _ (List.getElem_mem (by omega)),hz _ _ hk];simp only [off];omega
theorem jC_f{L:List Sv}{j:Nat}{s:Sv}(h:L[j]?=some s)(hv:chkErr 2 s.xs≠0):jC L=false:=by
 unfold jC;rw [List.all_eq_false];exact⟨s,List.mem_of_getElem? h,by simp [hv]⟩
theorem jC_t{L:List Sv}(h:∀ q s,q<L.length->L[q]?=some s->chkErr 2 s.xs=0):jC L=true:=by
 unfold jC;rw [List.all_eq_true];intro s hs;obtain⟨j,hj,rfl⟩:=List.getElem_of_mem hs;simp [h j _ hj (List.getElem?_eq_getElem hj)]
def JvInv(n:Nat)(L:List Sv)(i:Value):Prop:=∃ j:Nat,j<=n/\i= .int .i64 j/\∀ q s,q<j->L[q]?=some s->ValidB s.xs=true
theorem join_any(b:Nat)(A:Option Addr)(n c:Nat)(L:List Sv)(w:World)(h1:1<=b)(h26:b<=6144)(hz:jErr b L=0)(hL:RL w A n c L)(hs:∀ s ∈ L,s.n<=100000):Calls prog 123 #[.int .i64 b,.slice A n c] w (JPost b L w):=by
 have h2:b<=79560:=by omega
 have HZ0:=aq hz;have H26:=aq h26;clear hz h26;have hmf:∀ (fn:Fn) (first cap:Array Value) (w:World),(Instr.makeFunc fn first cap).run prog w= .ok (.func fn first cap) w:=fun _ _ _ _=>rfl;have hbd:=hL.o.bd.1;have HL0:=aq hL;have hT0:Blk ((w.alloc (.cells #[.slice none 0 0] 53)).alloc (.cells #[.int .i64 0] 30)) w.heap.size 53 [.slice none 0 0]:=(Blk.new w [.slice none 0 0] 53 rfl).alloc _;have hE0:Blk ((w.alloc (.cells #[.slice none 0 0] 53)).alloc (.cells #[.int .i64 0] 30)) (w.heap.size+1) 30 [.int .i64 0]:=Blk.new _ [.int .i64 0] 30 (by simp);have hB0:Below w.heap.size w ((w.alloc (.cells #[.slice none 0 0] 53)).alloc (.cells #[.int .i64 0] 30)):=((Below.refl _ _).alloc (Nat.le_refl _) _).alloc (by simp) _;go_enter_defers func123,ntmps123;go_wp2_with fail;generalize (w.alloc (.cells #[.slice none 0 0] 53)).alloc (.cells #[.int .i64 0] 30)=W at *;refine(plan_ok b W h1 h2).mono ?_;rintro e w1 ⟨rfl,hB1⟩;have hL1:=(hL.below hB0).below (hB1.mono (Nat.le_refl _));have HT:=aq ((hT0.below hB1).alloc (.cells (ints8 (LY b)).toArray 175));have HE:=aq ((hE0.below hB1).alloc (.cells (ints8 (LY b)).toArray 175));have HB:=aq (bal (hB0.trans (hB1.mono hB0.size)) (.cells (ints8 (LY b)).toArray 175));have hK:=Blk.new w1 (ints8 (LY b)) 175 rfl;have HRL:=aq (hL1.below (bal (Below.refl _ w1) (.cells (ints8 (LY b)).toArray 175)));clear hT0 hE0 hB0 hB1 hL hL1;unfold LY at hK HT HE HB HRL ⊢;simp only [ints8,List.map_cons,List.map_nil]at hK HT HE HB HRL ⊢;have HK:=aq hK;clear hK;obtain⟨TB,hTB⟩:∃ TB,TB=w.heap.size:=⟨_,rfl⟩
 obtain⟨EB,hEB⟩:∃ EB,EB=w.heap.size+1:=⟨_,rfl⟩
 rw [<- hEB]at HE ⊢;rw [<- hTB]at HT ⊢;have hT0:w.heap.size<=TB:=by omega
 have hE0:w.heap.size<=EB:=by omega
 have hne:EB≠TB:=by omega
 have hne':TB≠EB:=by omega
 clear hTB hEB;go_wp2_with fail;generalize w1.alloc (.cells #[.int .i64 b,.int .i64 (bC b:Int),.int .i64 (lo b:Int),.int .i64 (sh b:Int),.int .i64 (los b:Int),.int .i64 (shs b:Int),.int .i64 (fi b:Int)] 175)=W1 at *;generalize w1.heap.size=LB at *;go_loop [20] (fun i=>JvInv n L i) (fun i=>n - (intOf i).toNat)
 case atStart=>exact⟨0,by omega,rfl,fun q s hq=>by omega⟩
 case round =>
  obtain⟨j,hj,rfl,hv⟩:=hrel;have HV:=aq hv;clear hv;by_cases hlt:j<n
  . obtain⟨s,hgs,hc,hR⟩:=HRL.o.get hlt
    have hix:=fun W=>Rdv.ix HRL.o.o el55 hlt .i64 W;have HGS:=aq hgs;have hbin:=aq (binary_any s.A s.n s.c s.xs W1 hR);clear hgs;by_cases hvs:ValidB s.xs=true
    . have HVS:=aq hvs
      rw [hvs]at hbin;clear hvs;go_wp2_with (first
       | (go_at_call 183;refine hbin.o.mono ?_;rintro e w' ⟨rfl,rfl⟩)
       | (go_at_call 182;refine(must_ok _ _).mono ?_;rintro e w' ⟨rfl,rfl⟩))
      go_round
      case rel=>exact⟨j+1,by omega,by go_num,fun q t hq hqt=>by
       rcases Nat.lt_succ_iff_lt_or_eq.1 hq with hq | rfl
       . exact HV.o q t hq hqt
       . rw [HGS.o]at hqt;cases hqt;exact HVS.o⟩
      case measure=>simp [intOf];omega
    . have hvf:ValidB s.xs=false:=by simpa using hvs
      exact absurd (HZ0.o.symm.trans (jErr_v (b:=b) (jV_f HGS.o hvf))) (by decide)
  . have hjv:=jV_t (L:=L) (fun q s hq=>HV.o q s (by rw [HRL.o.len]at hq;omega))
    have HJV:=aq hjv;clear hjv;obtain⟨⟨c0,c1,c2,c3,c4,c5,c6⟩,-⟩:=Blk.seven HK.o;by_cases hnC:n=bC b
    . subst hnC
      have hC:=bC_le h2;have hCp:=@bC_pos b;go_wp2_with (go_at_call 182;refine(must_ok _ _).mono ?_;rintro e w' ⟨rfl,rfl⟩);clear c0 c1 c2 c3 c4 c5 c6;go_loopw [37] (fun i wr=>JsInv W1 (bC b) b L i wr) (fun i _=>bC b - (intOf i).toNat)
      case atStart=>exact⟨0,by omega,rfl,fun q s hq=>by omega,Below.refl _ _⟩
      case round =>
       obtain⟨j,hj,rfl,hv,hB2⟩:=hrel;have HV:=aq hv;have HB2:=aq hB2;clear hv hB2;by_cases hlt:j<bC b
       . obtain⟨s,hgs,hc,hR⟩:=(HRL.o.below HB2.o).get hlt
         have hix:=fun W=>Rdv.ix HRL.o.o el55 hlt .i64 W;have HGS:=aq hgs;obtain⟨⟨c0,c1,c2,c3,c4,c5,c6⟩,-⟩:=Blk.seven (HK.o.below HB2.o);have hsz:=sz_if b j;have HSZ:=aq hsz;clear hgs hsz hR;by_cases hvs:s.n=sz b j
         . have HVS:=aq hvs
           have hd:((s.n:Int) == (sz b j:Int))=true:=beq_t (by omega);clear hvs;go_wp2_with (first
            | (go_at_call 111;refine(size_any _ _ _ _ _ _ _ _ _).mono ?_;rintro e w3 ⟨he,hB3⟩;rw [<- HSZ.o]at he;subst he;have HB3:=aq (HB2.o.trans (hB3.mono HB2.o.size));clear hB3)
            | (go_at_call 182;refine(must_ok _ _).mono ?_;rintro e w' ⟨rfl,rfl⟩))
           go_roundw
           case rel=>exact⟨j+1,by omega,by go_num,fun q t hq hqt=>by
            rcases Nat.lt_succ_iff_lt_or_eq.1 hq with hq | rfl
            . exact HV.o q t hq hqt
            . rw [HGS.o]at hqt;cases hqt;exact HVS.o,HB3.o⟩
           case measure=>simp [intOf];omega
         . exact absurd (HZ0.o.symm.trans (jErr_s (b:=b) HJV.o HRL.o.len (jS_f HGS.o hvs))) (by decide)
       . have hjs:=jS_t (b:=b) (L:=L) (fun q s hq=>HV.o q s (by rw [HRL.o.len]at hq;omega))
         have HJS:=aq hjs;clear hjs;obtain⟨s,hgs,hc,hR⟩:=(HRL.o.below HB2.o).get (show 0<bC b by omega);have hix:=fun W=>Rdv.ix HRL.o.o el55 (show 0<bC b by omega) .i64 W;rw [show ((0:Nat):Int)=0 from rfl]at hix;obtain⟨⟨c0,c1,c2,c3,c4,c5,c6⟩,-⟩:=Blk.seven (HK.o.below HB2.o);have hsn:s.n=sz b 0:=HV.o 0 s (by omega) hgs;have hsz:=(sz_ge (i:=0) h1)
         simp only [if_true]at hsz;have hfn:fi b<=s.n:=by omega
         have hscap:=Rdv.le hR;have hsl:=fun W=>Rdv.slh hR el53 .i64 (m:=fi b) (by omega) W;have HH1:=aq (fun q=>has1_any s.A (fi b) s.c (s.xs.take (fi b)) _ (Rd.upto (Rdv.drewN hR q) hfn));have hjf:jF b L=No1 (s.xs.take (fi b)):=by unfold jF;rw [hgs]
         have HJF:=aq hjf;clear hjf hR hsz hsn hfn;by_cases h1b:No1 (s.xs.take (fi b))=true
         . rw [h1b]at HH1
           have HJF1:=aq (show jF b L=true by rw [HJF.o];exact h1b);go_wp2;go_still_tail 7,(by kernel_rfl)
           simp only [World.drew_eq];go_wp2_with (first
            | (go_at_call 184;refine(HH1.o 1).mono ?_;rintro e w' ⟨rfl,rfl⟩)
            | (go_at_call 182;refine(must_ok _ _).mono ?_;rintro e w' ⟨rfl,rfl⟩))
           have HT3:=aq (Blk.drewN (HT.o.below HB2.o) 1);have HE3:=aq (Blk.drewN (HE.o.below HB2.o) 1);have HL3:=aq (Blk.drewN (HK.o.below HB2.o) 1);have HB3:=aq (below_drewN (HB.o.trans (HB2.o.mono HB.o.size)) 1);have HZ:=aq (show ∀ q s,L[q]?=some s->s.n=sz b q from fun q s hqs=>HV.o q s (by have h8:=(List.getElem?_eq_some_iff.1 hqs).1;have h9:=HRL.o.len;omega) hqs);have HLEN:=aq (show ∀ s ∈ L,s.xs.length=s.n from fun s hs=>Rd.len (HL0.o.r s hs));clear hix hsl hc c0 c1 c2 c3 c4 c5 c6 HH1 HT HE HK HB HB2 HV hgs hscap;generalize wr.drewN 1=W3 at *;have hoff:=off_all h1;have hfl:=fi_lt h1 h2;go_loopw [62] (fun i wr=>JlInv w b LB TB EB (LY b) L i wr) (fun i _=>bC b - (intOf i).toNat)
           case atStart=>exact⟨0,none,0,0,by omega,rfl,HT3.o,HE3.o,HL3.o,Ownv.nilv 5 W3 _,HB3.o,fun _ q s hq=>by omega⟩
           case round =>
            obtain⟨k,Ao,no,co,hk,rfl,hT4,hE4,hL4,hO4,hB4,hC4⟩:=hrel;unfold LY at hL4;simp only [ints8,List.map_cons,List.map_nil]at hL4;have HT4:=aq hT4;have HE4:=aq hE4;have HL4:=aq hL4;have HO4:=aq hO4;have HB4:=aq hB4;have HC:=aq hC4;have t0:=hT4.cell (j:=0) rfl;have t1:=hT4.frozen 0;have e0:=hE4.cell (j:=0) rfl;have e1:=hE4.frozen 0;obtain⟨⟨c0,c1,c2,c3,c4,c5,c6⟩,-⟩:=Blk.seven hL4;have hno:no=off b k:=by rw [<- Rd.len (Own.rd hO4)];exact jD_len HLEN.o HZ.o k (by rw [HRL.o.len];exact hk)
            clear hT4 hE4 hL4 hO4 hB4 hC4;by_cases hlt:k<bC b
            . obtain⟨s,hgs,hc,hR⟩:=(HL0.o.below HB4.o).get hlt
              have hix:=fun W=>Rdv.ix HL0.o.o el55 hlt .i64 W;have hsn:=HZ.o k s hgs;have hs100:=hs s (List.mem_of_getElem? hgs);have hszz:=sz_ge (i:=k) h1;have hmo:=off_le (b:=b) (show k+1<=bC b by omega);have hst:off b (k+1)=off b k+(sz b k - ck b):=rfl;have hR0:=HL0.o.r s (List.mem_of_getElem? hgs);have hcap:=Rdv.le hR0;have HGS:=aq hgs;by_cases hb6:b<=6144
              . have ek:ck b=0:=by unfold ck;rw [if_pos hb6]
                have HIF:=aq (show(if (1:Int)<(bC b:Int) then(24:Int) else 0)=0 from if_neg (by have:=bC_one hb6;omega));obtain⟨N,hN⟩:∃ N,N=s.n:=⟨_,rfl⟩
                have HNE:=aq (show s.n - ck b=N by omega);have hsl:∀ W,(Instr.sliceAt 53 (.slice s.A s.n s.c) none (some (.int .i64 (s.n:Int))) none).run prog W= .ok (.slice s.A N s.c) W:=fun W=>by rw [hN];exact Rdv.slh hR0 el53 .i64 (by omega) W
                have HRN:=aq (show Rd .u8 w s.A N s.c (s.xs.take N) from Rd.upto hR0 (by omega));have hnoN:no+N<=80000:=by omega
                have hN6:N<=6144:=by omega
                have hs6:s.n<=6144:=by omega
                have hwr:IntKind.i64.wrap (s.n:Int)=s.n:=by rw [IntKind.wrap_i64];omega
                have HNO:=aq hno;clear hno;clear hgs hsn hs100 hszz hmo hst hR hR0 hcap ek hN;go_wp2_with (go_at_call 185;refine(check_lay _ _ _ _ _ _ _ _).mono ?_;rintro e w4 ⟨he,hB5⟩;rw [HIF.o]at he;subst he;have HTX:=aq (HT4.o.below hB5);have HEX:=aq (HE4.o.below hB5);have HLX:=aq (HL4.o.below hB5);have HOX:=aq (Ownv.below HO4.o hB5);have HBX:=aq (HB4.o.trans (hB5.mono HB4.o.size));clear hB5);have mkS:∀ W',Blk W' TB 53 [.slice Ao no co]->Blk W' LB 175 [.int .i64 b,.int .i64 (bC b:Int),.int .i64 (lo b:Int),.int .i64 (sh b:Int),.int .i64 (los b:Int),.int .i64 (shs b:Int),.int .i64 (fi b:Int)]->(fun W'=>W'.cell? ⟨TB,0,none⟩=some (.slice Ao no co)/\W'.frozen? ⟨TB,0,none⟩=false/\W'.cell? ⟨LB,0,none⟩=some (.int .i64 b)/\W'.cell? ⟨LB,1,none⟩=some (.int .i64 (bC b:Int))/\W'.cell? ⟨LB,2,none⟩=some (.int .i64 (lo b:Int))/\W'.cell? ⟨LB,3,none⟩=some (.int .i64 (sh b:Int))/\W'.cell? ⟨LB,4,none⟩=some (.int .i64 (los b:Int))/\W'.cell? ⟨LB,5,none⟩=some (.int .i64 (shs b:Int))/\W'.cell? ⟨LB,6,none⟩=some (.int .i64 (fi b:Int))) W':=fun W' g1 g2=>⟨g1.cell (j:=0) rfl,g1.frozen 0,(Blk.seven g2).1⟩
                have hS0:=mkS w4.drew HTX.o HLX.o;refine Q_start (fun W'=>W'.cell? ⟨TB,0,none⟩=some (.slice Ao no co)/\W'.frozen? ⟨TB,0,none⟩=false/\W'.cell? ⟨LB,0,none⟩=some (.int .i64 b)/\W'.cell? ⟨LB,1,none⟩=some (.int .i64 (bC b:Int))/\W'.cell? ⟨LB,2,none⟩=some (.int .i64 (lo b:Int))/\W'.cell? ⟨LB,3,none⟩=some (.int .i64 (sh b:Int))/\W'.cell? ⟨LB,4,none⟩=some (.int .i64 (los b:Int))/\W'.cell? ⟨LB,5,none⟩=some (.int .i64 (shs b:Int))/\W'.cell? ⟨LB,6,none⟩=some (.int .i64 (fi b:Int))) 9 10 ?_;refine Q_W 1 78 2 (.slice s.A s.n s.c) rfl hS0 ?_;simp only [yq0,yq1,yq2];refine Q_W 2 79 6 (.slice s.A s.n s.c) rfl hS0 ?_;simp only [yq0,yq1,yq2];refine Q_W 3 80 14 (.int .i64 s.n) rfl hS0 ?_;simp only [yq0,yq1,yq2];refine Q_T 0 77 15 (.slice Ao no co) [] rfl hS0 (Or.inl ⟨by rfl,fun W hS=>by obtain⟨s0,s1,s2,s3,s4,s5,s6,s7,s8⟩:=hS;go_simp⟩) ?_;simp only [yq0,yq1,yq2];refine Q_T 4 81 31 (.agg #[.int .i64 b,.int .i64 (bC b:Int),.int .i64 (lo b:Int),.int .i64 (sh b:Int),.int .i64 (los b:Int),.int .i64 (shs b:Int),.int .i64 (fi b:Int)]) [] rfl hS0 (Or.inl ⟨by rfl,fun W hS=>by obtain⟨s0,s1,s2,s3,s4,s5,s6,s7,s8⟩:=hS;go_simp⟩) ?_;simp only [yq0,yq1,yq2];refine Q_1S 5 63 rfl (fun K hK=>?_);go_simp;refine(check_lay _ _ _ _ _ _ _ _).mono ?_;rintro e w7 ⟨he,hB7⟩;rw [HIF.o]at he;subst he;have HT7:=aq ((Blk.drew HTX.o).below hB7);have HE7:=aq ((Blk.drew HEX.o).below hB7);have HL7:=aq ((Blk.drew HLX.o).below hB7);have HO7:=aq (Ownv.below (Ownv.drew HOX.o) hB7);have HB7:=aq (HBX.o.trans (((Below.refl w4.heap.size w4).drew.trans hB7).mono HBX.o.size));have hS1:=mkS w7 HT7.o HL7.o;refine hK _ _ hS1 ?_;clear hK K hB7;refine Q_W 6 83 127 (.int .i64 (s.n:Int)) rfl hS1 ?_;simp only [yq0,yq1,yq2];refine Q_W 7 84 255 (.slice s.A N s.c) rfl hS1 ?_;simp only [yq0,yq1,yq2];refine Q_1S 8 511 rfl (fun K hK=>?_);refine wp_app (base:=w.heap.size) (.tmp 77) (.tmp 84) 53 rfl el53 rfl rfl HO7.o (Rdv.below HRN.o HB7.o) (oneCell_ints .u8 _) (by omega) (by unfold maxLen;omega) HB7.o.size ?_;intro A8 c8 w8 hO8 hg8;have HT8:=aq (HT7.o.grown hg8 (blk_ne_row HT7.o HO7.o (by decide)));have HE8:=aq (HE7.o.grown hg8 (blk_ne_row HE7.o HO7.o (by decide)));have HL8:=aq (HL7.o.grown hg8 (blk_ne_row HL7.o HO7.o (by decide)));have HB8:=aq (HB7.o.grown hg8 HB7.o.size (fun k hk=>Ownv.ob' HO7.o hk));have HO8:=aq (Own.of_eq (k:=.u8) (xs:=jD b L k ++ s.xs.take N) hO8 rfl (by rw [List.map_append]));clear hO8 hg8;have hS2:=mkS w8 HT8.o HL8.o;refine hK _ _ hS2 ?_;clear hK K;have t0:=hS2.1;have t1:=hS2.2.1;refine Q_1 9 1023 rfl (fun K hK=>?_);go_simp;refine hK _ _ ?_;clear hK K t0 t1;refine Q_end ?_;have HT9:=aq (HT8.o.set 0 (.slice A8 (no+N) c8));have HE9:=aq (HE8.o.other hne' 0 (.slice A8 (no+N) c8));have HL9:=aq (HL8.o.other (Blk.ne HT8.o HL8.o (by decide)) 0 (.slice A8 (no+N) c8));have HO9:=aq (own_set_blk HT8.o HO8.o (by decide) 0 (.slice A8 (no+N) c8));have HB9:=aq (HB8.o.setCell (p:=⟨TB,0,none⟩) hT0 (.slice A8 (no+N) c8));clear hS0 hS1 hS2 mkS;go_wp2;go_roundw
                case rel=>exact⟨k+1,A8,no+N,c8,by omega,by go_num,HT9.o,HE9.o,HL9.o,Own.of_eq (k:=.u8) HO9.o rfl (by rw [jD_succ HGS.o,HNE.o]),HB9.o,fun h=>absurd hb6 h⟩
                case measure=>simp [intOf];omega
              . exact absurd H26.o hb6
            . obtain rfl:k=bC b:=by omega
              have HJ:=aq (jErr_0 (b:=b) HJV.o HRL.o.len HJS.o HJF1.o (fun h=>jC_t (fun q s hq hqs=>HC.o h q s (by have:=HRL.o.len;omega) hqs)));have hfo:fi b<=no:=by omega
              have hno8:no<=80000:=by omega
              have hrd:=Own.rd HO4.o;have hcap:=Rdv.le hrd;have HNO:=aq hno;have hsl:∀ W,(Instr.sliceAt 53 (.slice Ao no co) (some (.int .i64 (fi b:Int))) (some (.int .i64 (no:Int))) (some (.int .i64 (no:Int)))).run prog W= .ok (.slice (cut Ao no (fi b)) (no - fi b) (no - fi b)) W:=fun W=>Rdv.slhm hrd el53 .i64 .i64 .i64 hfo hcap W;clear hno hrd hoff;go_wp2;have HT6:=aq ((HT4.o.set 0 (.slice (cut Ao no (fi b)) (no - fi b) (no - fi b))).other (g:=EB) hne 0 (.int .i64 0));have HE6:=aq ((HE4.o.other (g:=TB) hne' 0 (.slice (cut Ao no (fi b)) (no - fi b) (no - fi b))).set 0 (.int .i64 0));have HO6:=aq (own_set_blk (HE4.o.other (g:=TB) hne' 0 (.slice (cut Ao no (fi b)) (no - fi b) (no - fi b))) (own_set_blk HT4.o HO4.o (by decide) 0 (.slice (cut Ao no (fi b)) (no - fi b) (no - fi b))) (by decide) 0 (.int .i64 0));have HB6:=aq ((HB4.o.setCell (p:=⟨TB,0,none⟩) hT0 (.slice (cut Ao no (fi b)) (no - fi b) (no - fi b))).setCell (p:=⟨EB,0,none⟩) hE0 (.int .i64 0));clear t0 t1 e0 e1 c0 c1 c2 c3 c4 c5 c6;generalize (wr.setCell ⟨TB,0,none⟩ (.slice (cut Ao no (fi b)) (no - fi b) (no - fi b))).setCell ⟨EB,0,none⟩ (.int .i64 0)=W6 at *;refine leaves_cons (f:=164) (args:=#[.pointer (some ⟨EB,0,none⟩),.func (.func 181) #[] #[.pointer (some ⟨TB,0,none⟩)]]) (by simp) (by simp [go_sem]) ?_;refine(caught_idle ⟨EB,0,none⟩ _ _).mono ?_;rintro e u' w'' ⟨rfl,rfl,rfl⟩;have l1:=lv53 (HT6.o.cell (j:=0) rfl);have l2:=lv24 (HE6.o.cell (j:=0) rfl);simp [Leaves,settle,results,results123,asAddr,l1,l2,Sem.run_bind,Result.andThen];refine⟨cut Ao no (fi b),no - fi b,no - fi b,by rw [HJ.o],?_,HB6.o⟩;have hjl:(jD b L (bC b)).length=no:=Rd.len (Own.rd HO6.o);have hr:=Rd.cut_ (Rd.capped (Own.rd HO6.o) (Nat.le_refl no)) (l:=fi b) (m:=no) hfo (Nat.le_refl _);unfold jRes;rw [if_pos HJ.o,HRL.o.len];rw [List.take_take,Nat.min_self,List.take_of_length_le (by rw [hjl];exact Nat.le_refl _)]at hr;exact hr
         . have h1f:No1 (s.xs.take (fi b))=false:=by simpa using h1b
           exact absurd (HZ0.o.symm.trans (jErr_f (b:=b) HJV.o HRL.o.len HJS.o (by rw [HJF.o];exact h1f))) (by decide)
    . exact absurd (HZ0.o.symm.trans (jErr_l (b:=b) HJV.o (by rw [HRL.o.len];exact hnC))) (by decide)
theorem p0(W:World):Calls prog 109 #[.int .i64 0] W fun e w'=>e= .returned (.tuple #[.agg #[.int .i64 0,.int .i64 0,.int .i64 0,.int .i64 0,.int .i64 0,.int .i64 0,.int .i64 0],.int .i64 2])/\Below W.heap.size W w':=plan_top_bad 0 W (by decide)
def sE(xs:List Int):Int:=if xs.length<1\/79560<xs.length then 2 else if ValidB xs=true then 0 else 3
def sD(xs:List Int):List (List Int):=if sE xs=0 then segs xs.length (List.replicate (fi xs.length) 0 ++ xs) (bC xs.length) else []
structure SpAllS (w:World) (xs:List Int) (w':World) (A':Option Addr) (n' c':Nat) (L:List Sv):Prop where
 b:BL w' w.heap.size A' c' L
 n:n'=L.length
 l:L.map (·.xs)=sD xs
 y:∀ s ∈ L,Bit s.xs
 k:Below w.heap.size w w'
def SpAll(xs:List Int)(w:World)(e:Ending)(w':World):Prop:=∃ A' n' c' L,e= .returned (.tuple #[.slice A' n' c',.int .i64 (sE xs)])/\SpAllS w xs w' A' n' c' L
theorem segB_bit{b:Nat}{d:List Int}(h:Bit d):Bit (segB b d):=by
 unfold segB;split
 . exact h
 . exact bit_app h (bit_sum (by decide) h)
theorem segs_bit{b k:Nat}{full:List Int}(h:Bit full):∀ d ∈ segs b full k,Bit d:=by
 intro d hd;unfold segs at hd;obtain⟨i,_,rfl⟩:=List.mem_map.1 hd;exact segB_bit (bit_take _ (bit_drop _ h))
theorem SpAll.bad{xs:List Int}{k:Int}{w w':World}{e:Ending}(h:SpBad k w e w')(hk:sE xs=k)(h0:k≠0):SpAll xs w e w':=by
 obtain⟨rfl,hB⟩:=h;exact⟨none,0,0,[],by rw [hk],BL.nil _ _,rfl,by unfold sD;rw [if_neg (by rw [hk];exact h0)];rfl,by simp,hB⟩
theorem SpAll.ok{xs:List Int}{w w':World}{A':Option Addr}{c':Nat}{L:List Sv}(hb:Bit xs)(hE:sE xs=0)(hBL:BL w' w.heap.size A' c' L)(hxs:L.map (·.xs)=segs xs.length (List.replicate (fi xs.length) 0 ++ xs) (bC xs.length))(hB:Below w.heap.size w w'):SpAll xs w (.returned (.tuple #[.slice A' L.length c',.int .i64 0])) w':=by
 refine⟨A',L.length,c',L,by rw [hE],hBL,rfl,by unfold sD;rw [if_pos hE];exact hxs,fun s hs=>?_,hB⟩;have h1:s.xs ∈ L.map (·.xs):=List.mem_map.2 ⟨s,hs,rfl⟩;rw [hxs]at h1;exact segs_bit (bit_app (bit_zeros _) hb) _ h1
theorem split_all(A:Option Addr)(n c:Nat)(xs:List Int)(w:World)(hx:Rd .u8 w A n c xs)(hy:Byt xs):Calls prog 274 #[.slice A n c] w (SpAll xs w):=by
 have hl:=hx.len;by_cases h:n<1\/79560<n
 . exact(split_bad A n c w h).mono fun e w' he=>SpAll.bad he (by unfold sE;rw [hl,if_pos h]) (by decide)
 . by_cases hv:ValidB xs=true
   . have hE:sE xs=0:=by unfold sE;rw [hl,if_neg h,if_pos hv]
     refine(split_ok A n c xs w hx (by omega) (by omega) hv).mono ?_;rintro e w' ⟨A',c',L,rfl,hBL,hxs,hB⟩;exact SpAll.ok (bit_of (fun x hx=>(hy x hx).1) hv) hE hBL (by rw [hl];exact hxs) hB
   . have hf:ValidB xs=false:=by simpa using hv
     exact(split_bit A n c xs w hx (by omega) (by omega) hf).mono fun e w' he=>SpAll.bad he (by unfold sE;rw [hl,if_neg h,if_neg hv]) (by decide)
def jE(b:Int)(L:List Sv):Int:=if b<1\/79560<b then 2 else jErr b.toNat L
def jR(b:Int)(L:List Sv):List Int:=if b<1\/79560<b then [] else jRes b.toNat L
def JAll(b:Int)(L:List Sv)(w:World)(e:Ending)(w':World):Prop:=∃ A' n' c',e= .returned (.tuple #[.slice A' n' c',.int .i64 (jE b L)])/\Rd .u8 w' A' n' c' (jR b L)/\Below w.heap.size w w'
theorem jbad_all{b:Int}{L:List Sv}{w w':World}{e:Ending}(h:JBad 2 w e w')(hb:b<1\/79560<b):JAll b L w e w':=by
 obtain⟨rfl,hB⟩:=h;refine⟨none,0,0,by rw [jE,if_pos hb],?_,hB⟩;rw [jR,if_pos hb];exact Rd.nilv _ _
theorem jpost_all{b:Int}{L:List Sv}{w w':World}{e:Ending}(h:JPost b.toNat L w e w')(hb:¬ (b<1\/79560<b)):JAll b L w e w':=by
 obtain⟨A',n',c',rfl,hR,hB⟩:=h;refine⟨A',n',c',by rw [jE,if_neg hb],?_,hB⟩;rw [jR,if_neg hb];exact hR
theorem join_all(b:Int)(A:Option Addr)(n c:Nat)(L:List Sv)(w:World)(hL:RL w A n c L)(hs:∀ s ∈ L,s.n<=100000)(h16:1<=b/\b<=6144)(hz:jE b L=0):Calls prog 123 #[.int .i64 b,.slice A n c] w (JAll b L w):=by
 have hb:¬ (b<1\/79560<b):=by omega
 have h:=join_any b.toNat A n c L w (by omega) (by omega) (by rw [jE,if_neg hb]at hz;exact hz) hL hs;rw [show ((b.toNat:Nat):Int)=b by omega]at h;exact h.mono fun e w' he=>jpost_all he hb
theorem segs_le{b k:Nat}{full:List Int}(h1:1<=b):∀ d ∈ segs b full k,d.length<=6168:=by
 intro d hd;unfold segs at hd;obtain⟨i,_,rfl⟩:=List.mem_map.1 hd;have h2:=(sz_ge (i:=i) h1).2;unfold segB;split
 . rw [List.length_take];omega
 . rw [List.length_append,crcSum_len,List.length_take,show sLen 2=24 from rfl];omega
theorem sD_le{xs:List Int}:(∀ d ∈ sD xs,d.length<=6168)/\(sD xs).length<=13:=by
 unfold sD;split
 . rename_i h
   have h1:1<=xs.length/\xs.length<=79560:=by
    unfold sE at h;split at h
    . cases h
    . omega
   exact⟨segs_le h1.1,by unfold segs;rw [List.length_map,List.length_range];exact bC_le h1.2⟩
 . exact⟨by simp,by simp⟩
theorem SpAllS.few{w w':World}{xs:List Int}{A':Option Addr}{n' c':Nat}{L:List Sv}(h:SpAllS w xs w' A' n' c' L):n'<=13:=by
 have h1:=congrArg List.length h.l;rw [List.length_map]at h1;have h2:=sD_le (xs:=xs).2;rw [h.n];omega
section
variable {w : World} {base c : Nat} {A : Option Addr} {L : List Sv}
end
end Go.Proofs.YthmhogdceolkdaaGreat.Cr
namespace Go.Proofs.YthmhogdceolkdaaGreat.Cr
open Tryz
open Go.RowKit Go.Shelf
attribute [local go_sem] Oper.semAt_some
def Cl{β:Type}(B:Nat)(J:β->World->Prop):Prop:=∀ s W W' row,J s W->W.grownBy W' row->(∀ r,row=some r->B<=r)->J s W'
theorem Cl.alloc{β:Type}{B:Nat}{J:β->World->Prop}(h:Cl B J){s:β}{W:World}(o:Obj)(hs:J s W):J s (W.alloc o):=h s W _ none hs (World.grownBy_alloc W o none) (fun r e=>by cases e)
theorem Cl.put{β:Type}{B:Nat}{J:β->World->Prop}(h:Cl B J){s:β}{W:World}{l:Nat}(o:Obj)(hs:J s W)(hl:B<=l):J s (W.putObj l o):=h s W _ (some l) hs (grownBy_putObj' W l o) (fun r e=>by cases e;exact hl)
theorem Cl.set{β:Type}{B:Nat}{J:β->World->Prop}(h:Cl B J){s:β}{W W':World}{l:Nat}(hs:J s W)(hg:W.grownBy W' (some l))(hl:B<=l):J s W':=h s W _ (some l) hs hg (fun r e=>by cases e;exact hl)
theorem grown_of_below{W W':World}(h:Below W.heap.size W W'):W.grownBy W' none:=⟨h.os,h.tape,h.output,h.size,fun k hk _=>h.block k hk⟩
theorem Cl.call{β:Type}{B:Nat}{J:β->World->Prop}(h:Cl B J){s:β}{W W':World}(hs:J s W)(hb:Below W.heap.size W W'):J s W':=h s W _ none hs (grown_of_below hb) (fun r e=>by cases e)
def KpB(bs:List Nat)(A B:World):Prop:=A.heap.size<=B.heap.size/\∀ k o,A.heap[k]?=some o->o.isCells=true->k ∉ bs->B.heap[k]?=some o
theorem KpB.trans{bs:List Nat}{A B C:World}(h:KpB bs A B)(k:KpB bs B C):KpB bs A C:=⟨Nat.le_trans h.1 k.1,fun i o hi hc hb=>k.2 i o (h.2 i o hi hc hb) hc hb⟩
theorem KpB.set{bs:List Nat}{W W':World}{b:Nat}(hg:W.grownBy W' (some b))(hb:b ∈ bs):KpB bs W W':=⟨hg.size,fun k o hk hc hn=>(hg.block k (Array.getElem?_eq_some_iff.1 hk).1 (fun e=>by cases e;exact hn hb)).trans hk⟩
theorem KpB.put{bs:List Nat}{W:World}{l:Nat}{o:Obj}(o':Obj)(h:W.heap[l]?=some o)(ho:o.isCells=false):KpB bs W (W.putObj l o'):=by
 have hg:=grownBy_putObj' W l o';refine⟨hg.size,fun k x hk hc hn=>(hg.block k (Array.getElem?_eq_some_iff.1 hk).1 (fun e=>?_)).trans hk⟩;cases e;rw [h]at hk;cases hk;rw [ho]at hc;cases hc
theorem Blk.kp{W W':World}{b:Nat}{t:TypeId}{cs:List Value}{bs:List Nat}(h:Blk W b t cs)(hk:KpB bs W W')(hb:b ∉ bs):Blk W' b t cs:=hk.2 b _ h rfl hb
section
variable {P : Program} {Q : Exit -> Act -> World -> Prop} {n : Nat}
theorem operIn_w{o:Oper}{a:Act}{w:World}{K:Act->World->Prop}(hd:∀ c,o.op≠.defer c)(h:o.wp P a w K Q):o.wpIn Fence.wide n P a w K Q:=by
 refine⟨fun _ _=>trivial,?_⟩;rw [Oper.semAt_eq _ _ _ hd];unfold Oper.wp at h;cases hr:(execOp a.eval o).run P w with
 | ok x w' =>
   rw [hr]at h;cases x<;>first | exact h | exact(h:False).elim | skip
   . exact⟨by simp [Fence.wide],callsIn_wide.2 h⟩
   all_goals exact⟨by simp [Fence.wide],fun c cs _=>let ⟨v,w',r,s⟩:=h c cs;⟨v,w',r,stepsIn_wide.2 s⟩⟩
 | halt x w' =>
   rw [hr]at h;cases x<;>first | exact h | exact(h:False).elim
theorem listIn_of{ops:Array Oper}{rest:List Oper}{o:Oper}{a:Act}{w:World}(hgd:o.guard=none)(hd:∀ c,o.op≠.defer c)(h:∀ K:Act->World->Prop,(∀ a w,wpListIn Fence.wide n P ops Q rest a w->K a w)->o.wp P a w K Q):wpListIn Fence.wide n P ops Q (o :: rest) a w :=
 wpListIn_plain hgd fun K hK=>operIn_w hd (h K hK)
end
section
variable {F : Fence} {n : Nat} {P : Program} {Q : Exit -> Act -> World -> Prop} {a : Act} {w : World}
theorem wpIn_scope_straight{c:Code}(hro:F.round=none)(h:c.wpIn F n P (Exit.noGoto Q) a w):(Code.scope c).wpIn F n P Q a w:=by
 intro b k cs hb1 hb hr;have hn:b.roundOf=none:=by rw [hb1,hro]
 have h0:(lone (b.atR a (.code (.scope c) :: k)) cs w).fenced P F:=fenced_calm hb hr rfl;have s0:step P (lone (b.atR a (.code (.scope c) :: k)) cs w)= .next (lone (b.atR a (.code c :: .inScope c :: k)) cs w):=by
  rw [Frame.atR_of_none hn,Frame.atR_of_none hn];exact step_scope
 have s1:∀ a₁ w₁,step P (lone (b.atR a₁ (.inScope c :: k)) cs w₁)= .next (lone (b.atR a₁ k) cs w₁):=fun a₁ w₁=>by
  rw [Frame.atR_of_none hn,Frame.atR_of_none hn];exact step_inScope
 obtain⟨e,a₁,w₁,hq,harr⟩:=h b (.inScope c :: k) cs hb1 hb hr;cases e with
 | normal=>exact⟨.normal,a₁,w₁,hq,.of_steps (.one h0 s0) (StepsIn.trans harr (.one (fenced_calm hb hr rfl) (s1 a₁ w₁)))⟩
 | exit id=>exact⟨.exit id,a₁,w₁,hq,fun k' hk=>StepsIn.trans (.one h0 s0) (harr.1 k' (by simp [exitTo,hk])),fun hs=>by rw [hn]at hs;cases hs⟩
 | goto l=>exact hq.elim
 | ret=>exact⟨_,a₁,w₁,hq,.of_steps (.one h0 s0) harr⟩
 | panic ch=>exact⟨_,a₁,w₁,hq,.of_steps (.one h0 s0) harr⟩
 | outgrown=>exact⟨_,a₁,w₁,hq,.of_steps (.one h0 s0) harr⟩
end
theorem takeP_succ(ps:List (Int × Int))(k:Nat)(h:k<ps.length):ps.take (k+1)=ps.take k ++ [ps[k]]:=by
 rw [List.take_succ_eq_append_getElem h]
def encP(x:Int × Int):Array Value:=#[.int .i64 x.1,.int .i64 x.2]
/-! ### the loop over it -/
end Go.Proofs.YthmhogdceolkdaaGreat.Cr