/- Bundle. Conditions: none. -/
import Derived.Test.YtkdfefpnhaebfaaGreatBwoav
import Derived.BigQuiet
import Derived.StillTailTactics
set_option linter.unusedVariables false
set_option linter.unusedSimpArgs false
namespace Go.Proofs.YtkdfefpnhaebfaaGreat.Cr
open CM Go.RowKit
set_option maxRecDepth 100000
set_option maxHeartbeats 2000000
theorem below_drewN{n:Nat}{w w':World}(h:Below n w w')(q:Nat):Below n w (w'.drewN q):=⟨h.1,h.2,h.3,h.4,h.5⟩
theorem Blk.ne{w:World}{b b':Nat}{t t':TypeId}{cs cs':List Value}(h:Blk w b t cs)(h':Blk w b' t' cs')(ht:t≠t'):b≠b':=by
 rintro rfl
 have:=Option.some.inj (h.symm.trans h')
 simp only [Obj.cells.injEq]at this
 exact ht this.2.1
def jV(L:List Sv):Bool:=L.all fun s=>ValidB s.xs
def jS(b:Nat)(L:List Sv):Bool:=(List.range L.length).all fun j=>decide (L[j]?.map Sv.n=some (sz b j))
def jC(L:List Sv):Bool:=L.all fun s=>decide (chkErr 2 s.xs=0)
def jF(b:Nat)(L:List Sv):Bool:=match L[0]? with | some s=>No1 (s.xs.take (fi b)) | none=>true
def jErr(b:Nat)(L:List Sv):Int :=
 if jV L=false then 3 else if L.length≠bC b then 60 else if jS b L=false then 60 else if jF b L=false then 60 else if ¬ b≤6144∧jC L=false then 61 else 0
def jD(b:Nat)(L:List Sv)(k:Nat):List Int:=(L.take k).flatMap fun s=>s.xs.take (s.n - ck b)
def jRes(b:Nat)(L:List Sv):List Int:=if jErr b L=0 then(jD b L L.length).drop (fi b) else []
def JPost(b:Nat)(L:List Sv)(w:World)(e:Ending)(w':World):Prop:=∃ A' n' c',e= .returned (.tuple #[.slice A' n' c',.int .i64 (jErr b L)])∧Rd .u8 w' A' n' c' (jRes b L)∧Below w.heap.size w w'
def JBad(k:Int)(w:World)(e:Ending)(w':World):Prop:=e= .returned (.tuple #[.slice none 0 0,.int .i64 k])∧Below w.heap.size w w'
theorem jbad_post{b:Nat}{L:List Sv}{k:Int}{w w':World}{e:Ending}(h:JBad k w e w')(hk:jErr b L=k)(h0:k≠0):JPost b L w e w':=by
 obtain⟨rfl,hB⟩:=h
 refine⟨none,0,0,by rw [hk],?_,hB⟩
 unfold jRes
 rw [if_neg (by rw [hk];exact h0)]
 exact Rd.nilv _ _
theorem join_end(R:Ending→World→Prop)(w w1:World)(TB EB:Nat)(k:Int)(v:Value)(hR:∀ e w',JBad k w e w'→R e w')(hT:Blk w1 TB 28 [v])(hE:Blk w1 EB 24 [.int .i64 0])(hB:Below w.heap.size w w1)(hT0:w.heap.size≤TB)(hE0:w.heap.size≤EB)(hne:EB≠TB)(ts:Array Value)(h2:ts.getD 4 undef= .pointer (some ⟨TB,0,none⟩))(h3:ts.getD 5 undef= .pointer (some ⟨EB,0,none⟩)) :
 Leaves Tryz.prog Tryz.f127 ts R [{target:=.fn (.func 51) #[],args:=#[.pointer (some ⟨EB,0,none⟩),.func (.func 181) #[] #[.pointer (some ⟨TB,0,none⟩)]]}] (.panicking (pan k)) w1:=by
 refine leaves_cons (f:=51) (args:=#[.pointer (some ⟨EB,0,none⟩),.func (.func 181) #[] #[.pointer (some ⟨TB,0,none⟩)]]) (by simp) (by simp [go_sem]) ?_
 refine(caught_pan76 ⟨EB,0,none⟩ _ k _ (fun W=>Blk W TB 28 [.slice none 0 0]∧w1.grownBy W (some TB)) (joinc1_any TB _ w1 hT) (fun W hW=>?_)).mono ?_
 · have hE2:=hE.grown hW.2 (by intro he;exact hne (Option.some.inj he))
   exact⟨⟨_,hE2.cell (j:=0) rfl⟩,hE2.frozen 0⟩
 rintro e u' w'' ⟨rfl,rfl,W2,hW2,rfl⟩
 have hE2:=hE.grown hW2.2 (by intro he;exact hne (Option.some.inj he))
 have l1:=lv53 ((hW2.1.other (g:=EB) hne 0 (.int .i64 k)).cell (j:=0) (v:=.slice none 0 0) rfl)
 have l2:=lv24 ((hE2.set 0 (.int .i64 k)).cell (j:=0) (v:=.int .i64 k) rfl)
 have hBe:=(hB.grown hW2.2 hB.size (fun k hk=>by cases hk;exact hT0)).setCell (p:=⟨EB,0,none⟩) hE0 (.int .i64 k)
 have HBE:=Lib.hid hBe
 clear hBe hW2 hE2 hE hT hB
 have h2':ts[4]?.getD undef= .pointer (some ⟨TB,0,none⟩):=by simpa using h2
 have h3':ts[5]?.getD undef= .pointer (some ⟨EB,0,none⟩):=by simpa using h3
 simp [Leaves,settle,results,Tryz.results127,h2',h3',asAddr,l1,l2,Sem.run_bind,Result.andThen]
 exact hR _ _ ⟨rfl,HBE.out⟩
theorem join_bad(b:Int)(A:Option Addr)(n c:Nat)(w:World)(h:b<1∨79560<b):Calls Tryz.prog 127 #[.int .i64 b,.slice A n c] w (JBad 2 w):=by
 have hmf:∀ (fn:Fn) (first cap:Array Value) (w:World),(Instr.makeFunc fn first cap).run Tryz.prog w= .ok (.func fn first cap) w:=fun _ _ _ _=>rfl
 have HH:=Lib.hid h
 clear h
 have hT0:Blk ((w.alloc (.cells #[.slice none 0 0] 28)).alloc (.cells #[.int .i64 0] 24)) w.heap.size 28 [.slice none 0 0]:=(Blk.new w [.slice none 0 0] 28 rfl).alloc _
 have hE0:Blk ((w.alloc (.cells #[.slice none 0 0] 28)).alloc (.cells #[.int .i64 0] 24)) (w.heap.size+1) 24 [.int .i64 0]:=Blk.new _ [.int .i64 0] 24 (by simp)
 have hB0:Below w.heap.size w ((w.alloc (.cells #[.slice none 0 0] 28)).alloc (.cells #[.int .i64 0] 24)):=((Below.refl _ _).alloc (Nat.le_refl _) _).alloc (by simp) _
 go_enter_defers Tryz.func127,Tryz.ntmps127
 go_wp2_with fail
 generalize (w.alloc (.cells #[.slice none 0 0] 28)).alloc (.cells #[.int .i64 0] 24)=W at *
 refine(plan_bad b W HH.out).mono ?_
 rintro e w1 ⟨rfl,hB1⟩
 exact join_end _ w w1 w.heap.size (w.heap.size+1) 2 _ (fun _ _ h=>h) (hT0.below hB1) (hE0.below hB1) (hB0.trans (hB1.mono hB0.size)) (Nat.le_refl _) (by omega) (by omega) _ rfl rfl
theorem jV_f{L:List Sv}{j:Nat}{s:Sv}(h:L[j]?=some s)(hv:ValidB s.xs=false):jV L=false:=by
 unfold jV;rw [List.all_eq_false];exact⟨s,List.mem_of_getElem? h,by simp [hv]⟩
theorem jV_t{L:List Sv}(h:∀ q s,q<L.length→L[q]?=some s→ValidB s.xs=true):jV L=true:=by
 unfold jV;rw [List.all_eq_true];intro s hs
 obtain⟨j,hj,rfl⟩:=List.getElem_of_mem hs
 exact h j _ hj (List.getElem?_eq_getElem hj)
theorem jErr_v{b:Nat}{L:List Sv}(h:jV L=false):jErr b L=3:=by unfold jErr;rw [if_pos h]
theorem jErr_l{b:Nat}{L:List Sv}(h:jV L=true)(h2:L.length≠bC b):jErr b L=60:=by unfold jErr;rw [if_neg (by simp [h]),if_pos h2]
theorem jErr_s{b:Nat}{L:List Sv}(h:jV L=true)(h2:L.length=bC b)(h3:jS b L=false):jErr b L=60:=by unfold jErr;rw [if_neg (by simp [h]),if_neg (by simp [h2]),if_pos h3]
theorem jErr_f{b:Nat}{L:List Sv}(h:jV L=true)(h2:L.length=bC b)(h3:jS b L=true)(h4:jF b L=false):jErr b L=60:=by unfold jErr;rw [if_neg (by simp [h]),if_neg (by simp [h2]),if_neg (by simp [h3]),if_pos h4]
theorem jErr_c{b:Nat}{L:List Sv}(h:jV L=true)(h2:L.length=bC b)(h3:jS b L=true)(h4:jF b L=true)(h5:¬ b≤6144)(h6:jC L=false):jErr b L=61:=by unfold jErr;rw [if_neg (by simp [h]),if_neg (by simp [h2]),if_neg (by simp [h3]),if_neg (by simp [h4]),if_pos ⟨h5,h6⟩]
theorem jErr_0{b:Nat}{L:List Sv}(h:jV L=true)(h2:L.length=bC b)(h3:jS b L=true)(h4:jF b L=true)(h5:¬ b≤6144→jC L=true):jErr b L=0:=by unfold jErr;rw [if_neg (by simp [h]),if_neg (by simp [h2]),if_neg (by simp [h3]),if_neg (by simp [h4]),if_neg (by rintro⟨h6,h7⟩;rw [h5 h6]at h7;cases h7)]
theorem jS_f{b:Nat}{L:List Sv}{j:Nat}{s:Sv}(h:L[j]?=some s)(hv:s.n≠sz b j):jS b L=false:=by
 unfold jS;rw [List.all_eq_false]
 refine⟨j,by rw [List.mem_range];exact(List.getElem?_eq_some_iff.1 h).1,?_⟩
 rw [h];simpa using hv
theorem jS_t{b:Nat}{L:List Sv}(h:∀ q s,q<L.length→L[q]?=some s→s.n=sz b q):jS b L=true:=by
 unfold jS;rw [List.all_eq_true];intro j hj
 have hj':j<L.length:=by simpa using hj
 have:=h j _ hj' (List.getElem?_eq_getElem hj')
 simp [hj',this]
def JsInv(W:World)(n b:Nat)(L:List Sv)(i:Value)(wr:World):Prop:=∃ j:Nat,j≤n∧i= .int .i64 j∧(∀ q s,q<j→L[q]?=some s→s.n=sz b q)∧Below W.heap.size W wr
theorem Rdv.slhm{w:World}{A:Option Addr}{n c:Nat}{vs:List Value}{P:Program}(h:Rdv w A n c vs){t e:TypeId}{z:Value}{bytes:Nat}(E:El P t e z bytes)(kl kh km:IntKind){l m:Nat}(hl:l≤m)(hm:m≤c)(W:World) :
 (Instr.sliceAt t (.slice A n c) (some (.int kl (l:Int))) (some (.int kh (m:Int))) (some (.int km (m:Int)))).run P W= .ok (.slice (cut A m l) (m - l) (m - l)) W:=by
 have e1:P.underlying t=some (.slice (P.elem t)):=by rw [E.u];simp [Program.elem,E.u]
 have e2:P.elem t=e:=by simp [Program.elem,E.u]
 rw [run_sliceAt_slice W t _ _ _ _ e1,run_slice_lhm W t A n c e1 kl kh km l m m (by omega) (by omega) (by omega) (by omega),e2,E.s]
 simp only [Result.andThen_ok,Int.toNat_natCast,sliced,Nat.mul_one,cut]
def JlInv(w:World)(b LB TB EB:Nat)(lay:List Int)(L:List Sv)(i:Value)(wr:World):Prop:=∃ (k:Nat) (Ao:Option Addr) (no co:Nat),k≤bC b∧i= .int .i64 k∧Blk wr TB 28 [.slice Ao no co]∧Blk wr EB 24 [.int .i64 0]∧Blk wr LB 110 (ints8 lay)∧Own .u8 5 wr w.heap.size Ao no co (jD b L k)∧Below w.heap.size w wr∧(¬ b≤6144→∀ q s,q<k→L[q]?=some s→chkErr 2 s.xs=0)
theorem jD_succ{b:Nat}{L:List Sv}{k:Nat}{s:Sv}(h:L[k]?=some s):jD b L (k+1)=jD b L k ++ s.xs.take (s.n - ck b):=by
 unfold jD;rw [take_get h,List.flatMap_append];simp
theorem jD_len{b:Nat}{L:List Sv}(hx:∀ s ∈ L,s.xs.length=s.n)(hz:∀ q s,L[q]?=some s→s.n=sz b q):∀ k,k≤L.length→(jD b L k).length=off b k
 | 0,_=>by simp [jD,off]
 | k+1,h=>by
   have hk:L[k]?=some L[k]:=List.getElem?_eq_getElem (by omega)
   rw [jD_succ hk,List.length_append,jD_len hx hz k (by omega),List.length_take,hx _ (List.getElem_mem (by omega)),hz _ _ hk]
   simp only [off];omega
theorem jC_f{L:List Sv}{j:Nat}{s:Sv}(h:L[j]?=some s)(hv:chkErr 2 s.xs≠0):jC L=false:=by
 unfold jC;rw [List.all_eq_false];exact⟨s,List.mem_of_getElem? h,by simp [hv]⟩
theorem jC_t{L:List Sv}(h:∀ q s,q<L.length→L[q]?=some s→chkErr 2 s.xs=0):jC L=true:=by
 unfold jC;rw [List.all_eq_true];intro s hs
 obtain⟨j,hj,rfl⟩:=List.getElem_of_mem hs
 simp [h j _ hj (List.getElem?_eq_getElem hj)]
def JvInv(n:Nat)(L:List Sv)(i:Value):Prop:=∃ j:Nat,j≤n∧i= .int .i64 j∧∀ q s,q<j→L[q]?=some s→ValidB s.xs=true
theorem join_any(b:Nat)(A:Option Addr)(n c:Nat)(L:List Sv)(w:World)(h1:1≤b)(h2:b≤79560)(hL:RL w A n c L)(hs:∀ s ∈ L,s.n≤100000):Calls Tryz.prog 127 #[.int .i64 b,.slice A n c] w (JPost b L w):=by
 have hmf:∀ (fn:Fn) (first cap:Array Value) (w:World),(Instr.makeFunc fn first cap).run Tryz.prog w= .ok (.func fn first cap) w:=fun _ _ _ _=>rfl
 have hbd:=hL.o.bd.1
 have HL0:=Lib.hid hL
 have hT0:Blk ((w.alloc (.cells #[.slice none 0 0] 28)).alloc (.cells #[.int .i64 0] 24)) w.heap.size 28 [.slice none 0 0]:=(Blk.new w [.slice none 0 0] 28 rfl).alloc _
 have hE0:Blk ((w.alloc (.cells #[.slice none 0 0] 28)).alloc (.cells #[.int .i64 0] 24)) (w.heap.size+1) 24 [.int .i64 0]:=Blk.new _ [.int .i64 0] 24 (by simp)
 have hB0:Below w.heap.size w ((w.alloc (.cells #[.slice none 0 0] 28)).alloc (.cells #[.int .i64 0] 24)):=((Below.refl _ _).alloc (Nat.le_refl _) _).alloc (by simp) _
 go_enter_defers Tryz.func127,Tryz.ntmps127
 go_wp2_with fail
 generalize (w.alloc (.cells #[.slice none 0 0] 28)).alloc (.cells #[.int .i64 0] 24)=W at *
 refine(plan_ok b W h1 h2).mono ?_
 rintro e w1 ⟨rfl,hB1⟩
 have hL1:=(hL.below hB0).below (hB1.mono (Nat.le_refl _))
 have HT:=Lib.hid ((hT0.below hB1).alloc (.cells (ints8 (LY b)).toArray 110))
 have HE:=Lib.hid ((hE0.below hB1).alloc (.cells (ints8 (LY b)).toArray 110))
 have HB:=Lib.hid (bal (hB0.trans (hB1.mono hB0.size)) (.cells (ints8 (LY b)).toArray 110))
 have hK:=Blk.new w1 (ints8 (LY b)) 110 rfl
 have HRL:=Lib.hid (hL1.below (bal (Below.refl _ w1) (.cells (ints8 (LY b)).toArray 110)))
 clear hT0 hE0 hB0 hB1 hL hL1
 unfold LY at hK HT HE HB HRL ⊢
 simp only [ints8,List.map_cons,List.map_nil]at hK HT HE HB HRL ⊢
 have HK:=Lib.hid hK
 clear hK
 obtain⟨TB,hTB⟩:∃ TB,TB=w.heap.size:=⟨_,rfl⟩
 obtain⟨EB,hEB⟩:∃ EB,EB=w.heap.size+1:=⟨_,rfl⟩
 rw [← hEB]at HE ⊢
 rw [← hTB]at HT ⊢
 have hT0:w.heap.size≤TB:=by omega
 have hE0:w.heap.size≤EB:=by omega
 have hne:EB≠TB:=by omega
 have hne':TB≠EB:=by omega
 clear hTB hEB
 go_wp2_with fail
 generalize w1.alloc (.cells #[.int .i64 b,.int .i64 (bC b:Int),.int .i64 (lo b:Int),.int .i64 (sh b:Int),.int .i64 (los b:Int),.int .i64 (shs b:Int),.int .i64 (fi b:Int)] 110)=W1 at *
 generalize w1.heap.size=LB at *
 go_loop [20] (fun i=>JvInv n L i) (fun i=>n - (intOf i).toNat)
 case atStart=>exact⟨0,by omega,rfl,fun q s hq=>by omega⟩
 case round =>
  obtain⟨j,hj,rfl,hv⟩:=hrel
  have HV:=Lib.hid hv
  clear hv
  by_cases hlt:j<n
  · obtain⟨s,hgs,hc,hR⟩:=HRL.out.get hlt
    have hix:=fun W=>Rdv.ix HRL.out.o el55 hlt .i64 W
    have HGS:=Lib.hid hgs
    have hbin:=Lib.hid (binary_any s.A s.n s.c s.xs W1 hR)
    clear hgs
    by_cases hvs:ValidB s.xs=true
    · have HVS:=Lib.hid hvs
      rw [hvs]at hbin
      clear hvs
      go_wp2_with (first
       | (go_at_call 98;refine hbin.out.mono ?_;rintro e w' ⟨rfl,rfl⟩)
       | (go_at_call 91;refine(must_ok _ _).mono ?_;rintro e w' ⟨rfl,rfl⟩))
      go_round
      case rel=>exact⟨j+1,by omega,by go_num,fun q t hq hqt=>by
       rcases Nat.lt_succ_iff_lt_or_eq.1 hq with hq | rfl
       · exact HV.out q t hq hqt
       · rw [HGS.out]at hqt;cases hqt;exact HVS.out⟩
      case measure=>simp [intOf];omega
    · have hvf:ValidB s.xs=false:=by simpa using hvs
      have HJ:=Lib.hid (jErr_v (b:=b) (jV_f HGS.out hvf))
      rw [hvf]at hbin
      clear hvs hvf
      go_wp2_with (first
       | (go_at_call 98;refine hbin.out.mono ?_;rintro e w' ⟨rfl,rfl⟩)
       | (go_at_call 91;refine(must_bad _ _).mono ?_;rintro e w' ⟨rfl,rfl⟩))
      exact join_end _ w _ TB EB 3 _ (fun _ _ h=>jbad_post h HJ.out (by decide)) HT.out HE.out HB.out hT0 hE0 hne _ rfl rfl
  · have hjv:=jV_t (L:=L) (fun q s hq=>HV.out q s (by rw [HRL.out.len]at hq;omega))
    have HJV:=Lib.hid hjv
    clear hjv
    obtain⟨⟨c0,c1,c2,c3,c4,c5,c6⟩,-⟩:=Blk.seven HK.out
    by_cases hnC:n=bC b
    · subst hnC
      have hC:=bC_le h2
      have hCp:=@bC_pos b
      go_wp2_with (go_at_call 91;refine(must_ok _ _).mono ?_;rintro e w' ⟨rfl,rfl⟩)
      clear c0 c1 c2 c3 c4 c5 c6
      go_loopw [37] (fun i wr=>JsInv W1 (bC b) b L i wr) (fun i _=>bC b - (intOf i).toNat)
      case atStart=>exact⟨0,by omega,rfl,fun q s hq=>by omega,Below.refl _ _⟩
      case round =>
       obtain⟨j,hj,rfl,hv,hB2⟩:=hrel
       have HV:=Lib.hid hv
       have HB2:=Lib.hid hB2
       clear hv hB2
       by_cases hlt:j<bC b
       · obtain⟨s,hgs,hc,hR⟩:=(HRL.out.below HB2.out).get hlt
         have hix:=fun W=>Rdv.ix HRL.out.o el55 hlt .i64 W
         have HGS:=Lib.hid hgs
         obtain⟨⟨c0,c1,c2,c3,c4,c5,c6⟩,-⟩:=Blk.seven (HK.out.below HB2.out)
         have hsz:=sz_if b j
         have HSZ:=Lib.hid hsz
         clear hgs hsz hR
         by_cases hvs:s.n=sz b j
         · have HVS:=Lib.hid hvs
           have hd:((s.n:Int) == (sz b j:Int))=true:=beq_t (by omega)
           clear hvs
           go_wp2_with (first
            | (go_at_call 101;refine(size_any _ _ _ _ _ _ _ _ _).mono ?_;rintro e w3 ⟨he,hB3⟩;rw [← HSZ.out]at he;subst he;have HB3:=Lib.hid (HB2.out.trans (hB3.mono HB2.out.size));clear hB3)
            | (go_at_call 91;refine(must_ok _ _).mono ?_;rintro e w' ⟨rfl,rfl⟩))
           go_roundw
           case rel=>exact⟨j+1,by omega,by go_num,fun q t hq hqt=>by
            rcases Nat.lt_succ_iff_lt_or_eq.1 hq with hq | rfl
            · exact HV.out q t hq hqt
            · rw [HGS.out]at hqt;cases hqt;exact HVS.out,HB3.out⟩
           case measure=>simp [intOf];omega
         · have HJ:=Lib.hid (jErr_s (b:=b) HJV.out HRL.out.len (jS_f HGS.out hvs))
           have hd:((s.n:Int) == (sz b j:Int))=false:=beq_f (by omega)
           clear hvs
           go_wp2_with (first
            | (go_at_call 101;refine(size_any _ _ _ _ _ _ _ _ _).mono ?_;rintro e w3 ⟨he,hB3⟩;rw [← HSZ.out]at he;subst he;have HB3:=Lib.hid (HB2.out.trans (hB3.mono HB2.out.size));clear hB3)
            | (go_at_call 91;refine(must_bad _ _).mono ?_;rintro e w' ⟨rfl,rfl⟩))
           exact join_end _ w _ TB EB 60 _ (fun _ _ h=>jbad_post h HJ.out (by decide)) (HT.out.below HB3.out) (HE.out.below HB3.out) (HB.out.trans (HB3.out.mono HB.out.size)) hT0 hE0 hne _ rfl rfl
       · have hjs:=jS_t (b:=b) (L:=L) (fun q s hq=>HV.out q s (by rw [HRL.out.len]at hq;omega))
         have HJS:=Lib.hid hjs
         clear hjs
         obtain⟨s,hgs,hc,hR⟩:=(HRL.out.below HB2.out).get (show 0<bC b by omega)
         have hix:=fun W=>Rdv.ix HRL.out.o el55 (show 0<bC b by omega) .i64 W
         rw [show ((0:Nat):Int)=0 from rfl]at hix
         obtain⟨⟨c0,c1,c2,c3,c4,c5,c6⟩,-⟩:=Blk.seven (HK.out.below HB2.out)
         have hsn:s.n=sz b 0:=HV.out 0 s (by omega) hgs
         have hsz:=(sz_ge (i:=0) h1)
         simp only [if_true]at hsz
         have hfn:fi b≤s.n:=by omega
         have hscap:=Rdv.le hR
         have hsl:=fun W=>Rdv.slh hR el53 .i64 (m:=fi b) (by omega) W
         have HH1:=Lib.hid (fun q=>has1_any s.A (fi b) s.c (s.xs.take (fi b)) _ (Rd.upto (Rdv.drewN hR q) hfn))
         have hjf:jF b L=No1 (s.xs.take (fi b)):=by unfold jF;rw [hgs]
         have HJF:=Lib.hid hjf
         clear hjf hR hsz hsn hfn
         by_cases h1b:No1 (s.xs.take (fi b))=true
         · rw [h1b]at HH1
           have HJF1:=Lib.hid (show jF b L=true by rw [HJF.out];exact h1b)
           go_wp2
           go_still_tail 7,(by kernel_rfl)
           simp only [World.drew_eq]
           go_wp2_with (first
            | (go_at_call 182;refine(HH1.out 1).mono ?_;rintro e w' ⟨rfl,rfl⟩)
            | (go_at_call 91;refine(must_ok _ _).mono ?_;rintro e w' ⟨rfl,rfl⟩))
           have HT3:=Lib.hid (Blk.drewN (HT.out.below HB2.out) 1)
           have HE3:=Lib.hid (Blk.drewN (HE.out.below HB2.out) 1)
           have HL3:=Lib.hid (Blk.drewN (HK.out.below HB2.out) 1)
           have HB3:=Lib.hid (below_drewN (HB.out.trans (HB2.out.mono HB.out.size)) 1)
           have HZ:=Lib.hid (show ∀ q s,L[q]?=some s→s.n=sz b q from fun q s hqs=>HV.out q s (by have h8:=(List.getElem?_eq_some_iff.1 hqs).1;have h9:=HRL.out.len;omega) hqs)
           have HLEN:=Lib.hid (show ∀ s ∈ L,s.xs.length=s.n from fun s hs=>Rd.len (HL0.out.r s hs))
           clear hix hsl hc c0 c1 c2 c3 c4 c5 c6 HH1 HT HE HK HB HB2 HV hgs hscap
           generalize wr.drewN 1=W3 at *
           have hoff:=off_all h1
           have hfl:=fi_lt h1 h2
           go_loopw [62] (fun i wr=>JlInv w b LB TB EB (LY b) L i wr) (fun i _=>bC b - (intOf i).toNat)
           case atStart=>exact⟨0,none,0,0,by omega,rfl,HT3.out,HE3.out,HL3.out,Ownv.nilv 5 W3 _,HB3.out,fun _ q s hq=>by omega⟩
           case round =>
            obtain⟨k,Ao,no,co,hk,rfl,hT4,hE4,hL4,hO4,hB4,hC4⟩:=hrel
            unfold LY at hL4
            simp only [ints8,List.map_cons,List.map_nil]at hL4
            have HT4:=Lib.hid hT4
            have HE4:=Lib.hid hE4
            have HL4:=Lib.hid hL4
            have HO4:=Lib.hid hO4
            have HB4:=Lib.hid hB4
            have HC:=Lib.hid hC4
            have t0:=hT4.cell (j:=0) rfl
            have t1:=hT4.frozen 0
            have e0:=hE4.cell (j:=0) rfl
            have e1:=hE4.frozen 0
            obtain⟨⟨c0,c1,c2,c3,c4,c5,c6⟩,-⟩:=Blk.seven hL4
            have hno:no=off b k:=by rw [← Rd.len (Own.rd hO4)];exact jD_len HLEN.out HZ.out k (by rw [HRL.out.len];exact hk)
            clear hT4 hE4 hL4 hO4 hB4 hC4
            by_cases hlt:k<bC b
            · obtain⟨s,hgs,hc,hR⟩:=(HL0.out.below HB4.out).get hlt
              have hix:=fun W=>Rdv.ix HL0.out.o el55 hlt .i64 W
              have hsn:=HZ.out k s hgs
              have hs100:=hs s (List.mem_of_getElem? hgs)
              have hszz:=sz_ge (i:=k) h1
              have hmo:=off_le (b:=b) (show k+1≤bC b by omega)
              have hst:off b (k+1)=off b k+(sz b k - ck b):=rfl
              have hR0:=HL0.out.r s (List.mem_of_getElem? hgs)
              have hcap:=Rdv.le hR0
              have HGS:=Lib.hid hgs
              by_cases hb6:b≤6144
              · have ek:ck b=0:=by unfold ck;rw [if_pos hb6]
                have HIF:=Lib.hid (show(if (1:Int)<(bC b:Int) then(24:Int) else 0)=0 from if_neg (by have:=bC_one hb6;omega))
                obtain⟨N,hN⟩:∃ N,N=s.n:=⟨_,rfl⟩
                have HNE:=Lib.hid (show s.n - ck b=N by omega)
                have hsl:∀ W,(Instr.sliceAt 28 (.slice s.A s.n s.c) none (some (.int .i64 (s.n:Int))) none).run Tryz.prog W= .ok (.slice s.A N s.c) W:=fun W=>by rw [hN];exact Rdv.slh hR0 el53 .i64 (by omega) W
                have HRN:=Lib.hid (show Rd .u8 w s.A N s.c (s.xs.take N) from Rd.upto hR0 (by omega))
                have hnoN:no+N≤80000:=by omega
                have hN6:N≤6144:=by omega
                have hs6:s.n≤6144:=by omega
                have hwr:IntKind.i64.wrap (s.n:Int)=s.n:=by rw [IntKind.wrap_i64];omega
                have HNO:=Lib.hid hno
                clear hno
                clear hgs hsn hs100 hszz hmo hst hR hR0 hcap ek hN
                go_wp2_with (go_at_call 92;refine(check_lay _ _ _ _ _ _ _ _).mono ?_;rintro e w4 ⟨he,hB5⟩;rw [HIF.out]at he;subst he;have HTX:=Lib.hid (HT4.out.below hB5);have HEX:=Lib.hid (HE4.out.below hB5);have HLX:=Lib.hid (HL4.out.below hB5);have HOX:=Lib.hid (Ownv.below HO4.out hB5);have HBX:=Lib.hid (HB4.out.trans (hB5.mono HB4.out.size));clear hB5)
                refine wp_nopanic ?_
                have mkS:∀ W',Blk W' TB 28 [.slice Ao no co]→Blk W' LB 110 [.int .i64 b,.int .i64 (bC b:Int),.int .i64 (lo b:Int),.int .i64 (sh b:Int),.int .i64 (los b:Int),.int .i64 (shs b:Int),.int .i64 (fi b:Int)]→(fun W'=>W'.cell? ⟨TB,0,none⟩=some (.slice Ao no co)∧W'.frozen? ⟨TB,0,none⟩=false∧W'.cell? ⟨LB,0,none⟩=some (.int .i64 b)∧W'.cell? ⟨LB,1,none⟩=some (.int .i64 (bC b:Int))∧W'.cell? ⟨LB,2,none⟩=some (.int .i64 (lo b:Int))∧W'.cell? ⟨LB,3,none⟩=some (.int .i64 (sh b:Int))∧W'.cell? ⟨LB,4,none⟩=some (.int .i64 (los b:Int))∧W'.cell? ⟨LB,5,none⟩=some (.int .i64 (shs b:Int))∧W'.cell? ⟨LB,6,none⟩=some (.int .i64 (fi b:Int))) W':=fun W' g1 g2=>⟨g1.cell (j:=0) rfl,g1.frozen 0,(Blk.seven g2).1⟩
                have hS0:=mkS w4.drew HTX.out HLX.out
                refine P_start (fun W'=>W'.cell? ⟨TB,0,none⟩=some (.slice Ao no co)∧W'.frozen? ⟨TB,0,none⟩=false∧W'.cell? ⟨LB,0,none⟩=some (.int .i64 b)∧W'.cell? ⟨LB,1,none⟩=some (.int .i64 (bC b:Int))∧W'.cell? ⟨LB,2,none⟩=some (.int .i64 (lo b:Int))∧W'.cell? ⟨LB,3,none⟩=some (.int .i64 (sh b:Int))∧W'.cell? ⟨LB,4,none⟩=some (.int .i64 (los b:Int))∧W'.cell? ⟨LB,5,none⟩=some (.int .i64 (shs b:Int))∧W'.cell? ⟨LB,6,none⟩=some (.int .i64 (fi b:Int))) 9 10 #[false,false,false,false,false,false,false,false,false,false] (by kernel_rfl) (by kernel_rfl) (by kernel_rfl) ?_
                refine P_takeW 1 78 (.slice s.A s.n s.c) #[false,true,false,false,false,false,false,false,false,false] rfl rfl (by kernel_rfl) (by kernel_rfl) (by kernel_rfl) (by kernel_rfl) (by decide) (fun _ _ _ h=>h) (Or.inl ⟨by rfl,fun W hS=>by go_simp⟩) hS0 ?_
                simp only [yq0,yq1,yq2]
                refine P_takeW 2 79 (.slice s.A s.n s.c) #[false,true,true,false,false,false,false,false,false,false] rfl rfl (by kernel_rfl) (by kernel_rfl) (by kernel_rfl) (by kernel_rfl) (by decide) (fun _ _ _ h=>h) (Or.inl ⟨by rfl,fun W hS=>by go_simp⟩) hS0 ?_
                simp only [yq0,yq1,yq2]
                refine P_takeW 3 80 (.int .i64 s.n) #[false,true,true,true,false,false,false,false,false,false] rfl rfl (by kernel_rfl) (by kernel_rfl) (by kernel_rfl) (by kernel_rfl) (by decide) (fun _ _ _ h=>h) (Or.inl ⟨by rfl,fun W hS=>by go_simp⟩) hS0 ?_
                simp only [yq0,yq1,yq2]
                refine P_take 0 77 (.slice Ao no co) #[true,true,true,true,false,false,false,false,false,false] rfl rfl (by kernel_rfl) (by kernel_rfl) (by kernel_rfl) (by kernel_rfl) (by kernel_rfl) (by kernel_rfl) (by decide) (fun _ _ _ h=>h) (Or.inl ⟨by rfl,fun W hS=>by obtain⟨s0,s1,s2,s3,s4,s5,s6,s7,s8⟩:=hS;go_simp⟩) hS0 ?_
                simp only [yq0,yq1,yq2]
                refine P_take 4 81 (.agg #[.int .i64 b,.int .i64 (bC b:Int),.int .i64 (lo b:Int),.int .i64 (sh b:Int),.int .i64 (los b:Int),.int .i64 (shs b:Int),.int .i64 (fi b:Int)]) #[true,true,true,true,true,false,false,false,false,false] rfl rfl (by kernel_rfl) (by kernel_rfl) (by kernel_rfl) (by kernel_rfl) (by kernel_rfl) (by kernel_rfl) (by decide) (fun _ _ _ h=>h) (Or.inl ⟨by rfl,fun W hS=>by obtain⟨s0,s1,s2,s3,s4,s5,s6,s7,s8⟩:=hS;go_simp⟩) hS0 ?_
                simp only [yq0,yq1,yq2]
                refine P_oneS 5 #[true,true,true,true,true,true,false,false,false,false] rfl (by kernel_rfl) (by kernel_rfl) rfl (fun K hK=>?_)
                go_simp
                refine(check_lay _ _ _ _ _ _ _ _).mono ?_
                rintro e w7 ⟨he,hB7⟩
                rw [HIF.out]at he
                subst he
                have HT7:=Lib.hid ((Blk.drew HTX.out).below hB7)
                have HE7:=Lib.hid ((Blk.drew HEX.out).below hB7)
                have HL7:=Lib.hid ((Blk.drew HLX.out).below hB7)
                have HO7:=Lib.hid (Ownv.below (Ownv.drew HOX.out) hB7)
                have HB7:=Lib.hid (HBX.out.trans (((Below.refl w4.heap.size w4).drew.trans hB7).mono HBX.out.size))
                have hS1:=mkS w7 HT7.out HL7.out
                refine hK _ _ hS1 ?_
                clear hK K hB7
                refine P_takeW 6 83 (.int .i64 (s.n:Int)) #[true,true,true,true,true,true,true,false,false,false] rfl rfl (by kernel_rfl) (by kernel_rfl) (by kernel_rfl) (by kernel_rfl) (by decide) (fun _ _ _ h=>h) (Or.inl ⟨by rfl,fun W hS=>by go_simp⟩) hS1 ?_
                simp only [yq0,yq1,yq2]
                refine P_takeW 7 84 (.slice s.A N s.c) #[true,true,true,true,true,true,true,true,false,false] rfl rfl (by kernel_rfl) (by kernel_rfl) (by kernel_rfl) (by kernel_rfl) (by decide) (fun _ _ _ h=>h) (Or.inl ⟨by rfl,fun W hS=>by go_simp⟩) hS1 ?_
                simp only [yq0,yq1,yq2]
                refine P_oneS 8 #[true,true,true,true,true,true,true,true,true,false] rfl (by kernel_rfl) (by kernel_rfl) rfl (fun K hK=>?_)
                refine wp_app (base:=w.heap.size) (.tmp 77) (.tmp 84) 28 rfl el53 rfl rfl HO7.out (Rdv.below HRN.out HB7.out) (oneCell_ints .u8 _) (by omega) (by unfold maxLen;omega) HB7.out.size ?_
                intro A8 c8 w8 hO8 hg8
                have HT8:=Lib.hid (HT7.out.grown hg8 (blk_ne_row HT7.out HO7.out (by decide)))
                have HE8:=Lib.hid (HE7.out.grown hg8 (blk_ne_row HE7.out HO7.out (by decide)))
                have HL8:=Lib.hid (HL7.out.grown hg8 (blk_ne_row HL7.out HO7.out (by decide)))
                have HB8:=Lib.hid (HB7.out.grown hg8 HB7.out.size (fun k hk=>Ownv.ob' HO7.out hk))
                have HO8:=Lib.hid (Own.of_eq (k:=.u8) (xs:=jD b L k ++ s.xs.take N) hO8 rfl (by rw [List.map_append]))
                clear hO8 hg8
                have hS2:=mkS w8 HT8.out HL8.out
                refine hK _ _ hS2 ?_
                clear hK K
                have t0:=hS2.1
                have t1:=hS2.2.1
                refine P_one 9 #[true,true,true,true,true,true,true,true,true,true] rfl (by kernel_rfl) (by kernel_rfl) rfl (by kernel_rfl) (fun K hK=>?_)
                go_simp
                refine hK _ _ ?_
                clear hK K t0 t1
                refine P_done (by kernel_rfl) ?_ _
                refine noPanic_normal ?_
                have HT9:=Lib.hid (HT8.out.set 0 (.slice A8 (no+N) c8))
                have HE9:=Lib.hid (HE8.out.other hne' 0 (.slice A8 (no+N) c8))
                have HL9:=Lib.hid (HL8.out.other (Blk.ne HT8.out HL8.out (by decide)) 0 (.slice A8 (no+N) c8))
                have HO9:=Lib.hid (own_set_blk HT8.out HO8.out (by decide) 0 (.slice A8 (no+N) c8))
                have HB9:=Lib.hid (HB8.out.setCell (p:=⟨TB,0,none⟩) hT0 (.slice A8 (no+N) c8))
                clear hS0 hS1 hS2 mkS
                go_wp2
                go_roundw
                case rel=>exact⟨k+1,A8,no+N,c8,by omega,by go_num,HT9.out,HE9.out,HL9.out,Own.of_eq (k:=.u8) HO9.out rfl (by rw [jD_succ HGS.out,HNE.out]),HB9.out,fun h=>absurd hb6 h⟩
                case measure=>simp [intOf];omega
              · have ek:ck b=24:=by unfold ck;rw [if_neg hb6]
                have HIF:=Lib.hid (show(if (1:Int)<(bC b:Int) then(24:Int) else 0)=24 from if_pos (by have:=bC_two hb6;omega))
                obtain⟨N,hN⟩:∃ N,N=s.n - 24:=⟨_,rfl⟩
                have HNE:=Lib.hid (show s.n - ck b=N by omega)
                have hsl:∀ W,(Instr.sliceAt 28 (.slice s.A s.n s.c) none (some (.int .i64 ((s.n:Int) - 24))) none).run Tryz.prog W= .ok (.slice s.A N s.c) W:=fun W=>by
                 rw [show (s.n:Int) - 24=((N:Nat):Int) by omega];exact Rdv.slh hR0 el53 .i64 (by omega) W
                have HRN:=Lib.hid (show Rd .u8 w s.A N s.c (s.xs.take N) from Rd.upto hR0 (by omega))
                have hnoN:no+N≤80000:=by omega
                have hN6:N≤6144:=by omega
                have hs6:s.n≤6144:=by omega
                have hs24:24≤s.n:=by omega
                have hwr:IntKind.i64.wrap ((s.n:Int) - 24)=(s.n:Int) - 24:=by rw [IntKind.wrap_i64];omega
                have HNO:=Lib.hid hno
                clear hno
                have hckA:=Lib.hid (fun W h=>check_any 2 s.A s.n s.c s.xs W h (by omega))
                have HR4:=Lib.hid hR0
                by_cases hch:chkErr 2 s.xs=0
                · have HCH:=Lib.hid hch
                  rw [hch]at hckA
                  clear hgs hsn hs100 hszz hmo hst hR hR0 hcap ek hN hch
                  go_wp2_with (first
                   | (go_at_call 92;refine(check_lay _ _ _ _ _ _ _ _).mono ?_;rintro e w4 ⟨he,hB5⟩;rw [HIF.out]at he;subst he;have HTX:=Lib.hid (HT4.out.below hB5);have HEX:=Lib.hid (HE4.out.below hB5);have HLX:=Lib.hid (HL4.out.below hB5);have HOX:=Lib.hid (Ownv.below HO4.out hB5);have HBX:=Lib.hid (HB4.out.trans (hB5.mono HB4.out.size));clear hB5)
                   | (go_at_call 128;refine(hckA.out _ (Rdv.below HR4.out HBX.out)).mono ?_;rintro e w5 ⟨Ac,nc,cc,rfl,hOc,hB6⟩;have HTX:=Lib.hid (HTX.out.below hB6);have HEX:=Lib.hid (HEX.out.below hB6);have HLX:=Lib.hid (HLX.out.below hB6);have HOX:=Lib.hid (Ownv.below HOX.out hB6);have HBX:=Lib.hid (HBX.out.trans (hB6.mono HBX.out.size));clear hOc hB6)
                   | (go_at_call 91;refine(must_ok _ _).mono ?_;rintro e w' ⟨rfl,rfl⟩))
                  refine wp_nopanic ?_
                  have mkS:∀ W',Blk W' TB 28 [.slice Ao no co]→Blk W' LB 110 [.int .i64 b,.int .i64 (bC b:Int),.int .i64 (lo b:Int),.int .i64 (sh b:Int),.int .i64 (los b:Int),.int .i64 (shs b:Int),.int .i64 (fi b:Int)]→(fun W'=>W'.cell? ⟨TB,0,none⟩=some (.slice Ao no co)∧W'.frozen? ⟨TB,0,none⟩=false∧W'.cell? ⟨LB,0,none⟩=some (.int .i64 b)∧W'.cell? ⟨LB,1,none⟩=some (.int .i64 (bC b:Int))∧W'.cell? ⟨LB,2,none⟩=some (.int .i64 (lo b:Int))∧W'.cell? ⟨LB,3,none⟩=some (.int .i64 (sh b:Int))∧W'.cell? ⟨LB,4,none⟩=some (.int .i64 (los b:Int))∧W'.cell? ⟨LB,5,none⟩=some (.int .i64 (shs b:Int))∧W'.cell? ⟨LB,6,none⟩=some (.int .i64 (fi b:Int))) W':=fun W' g1 g2=>⟨g1.cell (j:=0) rfl,g1.frozen 0,(Blk.seven g2).1⟩
                  have hS0:=mkS w5.drew HTX.out HLX.out
                  refine P_start (fun W'=>W'.cell? ⟨TB,0,none⟩=some (.slice Ao no co)∧W'.frozen? ⟨TB,0,none⟩=false∧W'.cell? ⟨LB,0,none⟩=some (.int .i64 b)∧W'.cell? ⟨LB,1,none⟩=some (.int .i64 (bC b:Int))∧W'.cell? ⟨LB,2,none⟩=some (.int .i64 (lo b:Int))∧W'.cell? ⟨LB,3,none⟩=some (.int .i64 (sh b:Int))∧W'.cell? ⟨LB,4,none⟩=some (.int .i64 (los b:Int))∧W'.cell? ⟨LB,5,none⟩=some (.int .i64 (shs b:Int))∧W'.cell? ⟨LB,6,none⟩=some (.int .i64 (fi b:Int))) 9 10 #[false,false,false,false,false,false,false,false,false,false] (by kernel_rfl) (by kernel_rfl) (by kernel_rfl) ?_
                  refine P_takeW 1 78 (.slice s.A s.n s.c) #[false,true,false,false,false,false,false,false,false,false] rfl rfl (by kernel_rfl) (by kernel_rfl) (by kernel_rfl) (by kernel_rfl) (by decide) (fun _ _ _ h=>h) (Or.inl ⟨by rfl,fun W hS=>by go_simp⟩) hS0 ?_
                  simp only [yq0,yq1,yq2]
                  refine P_takeW 2 79 (.slice s.A s.n s.c) #[false,true,true,false,false,false,false,false,false,false] rfl rfl (by kernel_rfl) (by kernel_rfl) (by kernel_rfl) (by kernel_rfl) (by decide) (fun _ _ _ h=>h) (Or.inl ⟨by rfl,fun W hS=>by go_simp⟩) hS0 ?_
                  simp only [yq0,yq1,yq2]
                  refine P_takeW 3 80 (.int .i64 s.n) #[false,true,true,true,false,false,false,false,false,false] rfl rfl (by kernel_rfl) (by kernel_rfl) (by kernel_rfl) (by kernel_rfl) (by decide) (fun _ _ _ h=>h) (Or.inl ⟨by rfl,fun W hS=>by go_simp⟩) hS0 ?_
                  simp only [yq0,yq1,yq2]
                  refine P_take 0 77 (.slice Ao no co) #[true,true,true,true,false,false,false,false,false,false] rfl rfl (by kernel_rfl) (by kernel_rfl) (by kernel_rfl) (by kernel_rfl) (by kernel_rfl) (by kernel_rfl) (by decide) (fun _ _ _ h=>h) (Or.inl ⟨by rfl,fun W hS=>by obtain⟨s0,s1,s2,s3,s4,s5,s6,s7,s8⟩:=hS;go_simp⟩) hS0 ?_
                  simp only [yq0,yq1,yq2]
                  refine P_take 4 81 (.agg #[.int .i64 b,.int .i64 (bC b:Int),.int .i64 (lo b:Int),.int .i64 (sh b:Int),.int .i64 (los b:Int),.int .i64 (shs b:Int),.int .i64 (fi b:Int)]) #[true,true,true,true,true,false,false,false,false,false] rfl rfl (by kernel_rfl) (by kernel_rfl) (by kernel_rfl) (by kernel_rfl) (by kernel_rfl) (by kernel_rfl) (by decide) (fun _ _ _ h=>h) (Or.inl ⟨by rfl,fun W hS=>by obtain⟨s0,s1,s2,s3,s4,s5,s6,s7,s8⟩:=hS;go_simp⟩) hS0 ?_
                  simp only [yq0,yq1,yq2]
                  refine P_oneS 5 #[true,true,true,true,true,true,false,false,false,false] rfl (by kernel_rfl) (by kernel_rfl) rfl (fun K hK=>?_)
                  go_simp
                  refine(check_lay _ _ _ _ _ _ _ _).mono ?_
                  rintro e w7 ⟨he,hB7⟩
                  rw [HIF.out]at he
                  subst he
                  have HT7:=Lib.hid ((Blk.drew HTX.out).below hB7)
                  have HE7:=Lib.hid ((Blk.drew HEX.out).below hB7)
                  have HL7:=Lib.hid ((Blk.drew HLX.out).below hB7)
                  have HO7:=Lib.hid (Ownv.below (Ownv.drew HOX.out) hB7)
                  have HB7:=Lib.hid (HBX.out.trans (((Below.refl w5.heap.size w5).drew.trans hB7).mono HBX.out.size))
                  have hS1:=mkS w7 HT7.out HL7.out
                  refine hK _ _ hS1 ?_
                  clear hK K hB7
                  refine P_takeW 6 83 (.int .i64 ((s.n:Int) - 24)) #[true,true,true,true,true,true,true,false,false,false] rfl rfl (by kernel_rfl) (by kernel_rfl) (by kernel_rfl) (by kernel_rfl) (by decide) (fun _ _ _ h=>h) (Or.inl ⟨by rfl,fun W hS=>by go_simp⟩) hS1 ?_
                  simp only [yq0,yq1,yq2]
                  refine P_takeW 7 84 (.slice s.A N s.c) #[true,true,true,true,true,true,true,true,false,false] rfl rfl (by kernel_rfl) (by kernel_rfl) (by kernel_rfl) (by kernel_rfl) (by decide) (fun _ _ _ h=>h) (Or.inl ⟨by rfl,fun W hS=>by go_simp⟩) hS1 ?_
                  simp only [yq0,yq1,yq2]
                  refine P_oneS 8 #[true,true,true,true,true,true,true,true,true,false] rfl (by kernel_rfl) (by kernel_rfl) rfl (fun K hK=>?_)
                  refine wp_app (base:=w.heap.size) (.tmp 77) (.tmp 84) 28 rfl el53 rfl rfl HO7.out (Rdv.below HRN.out HB7.out) (oneCell_ints .u8 _) (by omega) (by unfold maxLen;omega) HB7.out.size ?_
                  intro A8 c8 w8 hO8 hg8
                  have HT8:=Lib.hid (HT7.out.grown hg8 (blk_ne_row HT7.out HO7.out (by decide)))
                  have HE8:=Lib.hid (HE7.out.grown hg8 (blk_ne_row HE7.out HO7.out (by decide)))
                  have HL8:=Lib.hid (HL7.out.grown hg8 (blk_ne_row HL7.out HO7.out (by decide)))
                  have HB8:=Lib.hid (HB7.out.grown hg8 HB7.out.size (fun k hk=>Ownv.ob' HO7.out hk))
                  have HO8:=Lib.hid (Own.of_eq (k:=.u8) (xs:=jD b L k ++ s.xs.take N) hO8 rfl (by rw [List.map_append]))
                  clear hO8 hg8
                  have hS2:=mkS w8 HT8.out HL8.out
                  refine hK _ _ hS2 ?_
                  clear hK K
                  have t0:=hS2.1
                  have t1:=hS2.2.1
                  refine P_one 9 #[true,true,true,true,true,true,true,true,true,true] rfl (by kernel_rfl) (by kernel_rfl) rfl (by kernel_rfl) (fun K hK=>?_)
                  go_simp
                  refine hK _ _ ?_
                  clear hK K t0 t1
                  refine P_done (by kernel_rfl) ?_ _
                  refine noPanic_normal ?_
                  have HT9:=Lib.hid (HT8.out.set 0 (.slice A8 (no+N) c8))
                  have HE9:=Lib.hid (HE8.out.other hne' 0 (.slice A8 (no+N) c8))
                  have HL9:=Lib.hid (HL8.out.other (Blk.ne HT8.out HL8.out (by decide)) 0 (.slice A8 (no+N) c8))
                  have HO9:=Lib.hid (own_set_blk HT8.out HO8.out (by decide) 0 (.slice A8 (no+N) c8))
                  have HB9:=Lib.hid (HB8.out.setCell (p:=⟨TB,0,none⟩) hT0 (.slice A8 (no+N) c8))
                  clear hS0 hS1 hS2 mkS
                  go_wp2
                  go_roundw
                  case rel=>exact⟨k+1,A8,no+N,c8,by omega,by go_num,HT9.out,HE9.out,HL9.out,Own.of_eq (k:=.u8) HO9.out rfl (by rw [jD_succ HGS.out,HNE.out]),HB9.out,fun _ q t hq hqt=>by
                   rcases Nat.lt_succ_iff_lt_or_eq.1 hq with hq | rfl
                   · exact HC.out hb6 q t hq hqt
                   · rw [HGS.out]at hqt;cases hqt;exact HCH.out⟩
                  case measure=>simp [intOf];omega
                · have HJ:=Lib.hid (jErr_c (b:=b) HJV.out HRL.out.len HJS.out HJF1.out hb6 (jC_f HGS.out hch))
                  have hce:chkErr 2 s.xs=11:=by
                   have hvx:ValidB s.xs=true:=(List.all_eq_true.1 HJV.out) s (List.mem_of_getElem? HGS.out)
                   have hl:=HLEN.out s (List.mem_of_getElem? HGS.out)
                   unfold chkErr at hch ⊢
                   rw [if_neg (by decide),if_pos hvx,if_neg (by rw [hl];show ¬ s.n<24;omega)]at hch ⊢
                   split at hch
                   · exact absurd rfl hch
                   · rename_i h9;rw [if_neg h9]
                  rw [hce]at hckA
                  clear hgs hsn hs100 hszz hmo hst hR hR0 hcap ek hN hch hce
                  go_wp2_with (first
                   | (go_at_call 92;refine(check_lay _ _ _ _ _ _ _ _).mono ?_;rintro e w4 ⟨he,hB5⟩;rw [HIF.out]at he;subst he;have HTX:=Lib.hid (HT4.out.below hB5);have HEX:=Lib.hid (HE4.out.below hB5);have HBX:=Lib.hid (HB4.out.trans (hB5.mono HB4.out.size));clear hB5)
                   | (go_at_call 128;refine(hckA.out _ (Rdv.below HR4.out HBX.out)).mono ?_;rintro e w5 ⟨Ac,nc,cc,rfl,hOc,hB6⟩;have HTX:=Lib.hid (HTX.out.below hB6);have HEX:=Lib.hid (HEX.out.below hB6);have HBX:=Lib.hid (HBX.out.trans (hB6.mono HBX.out.size));clear hOc hB6)
                   | (go_at_call 91;refine(must_bad _ _).mono ?_;rintro e w' ⟨rfl,rfl⟩))
                  exact join_end _ w _ TB EB 61 _ (fun _ _ h=>jbad_post h HJ.out (by decide)) HTX.out HEX.out HBX.out hT0 hE0 hne _ rfl rfl
            · obtain rfl:k=bC b:=by omega
              have HJ:=Lib.hid (jErr_0 (b:=b) HJV.out HRL.out.len HJS.out HJF1.out (fun h=>jC_t (fun q s hq hqs=>HC.out h q s (by have:=HRL.out.len;omega) hqs)))
              have hfo:fi b≤no:=by omega
              have hno8:no≤80000:=by omega
              have hrd:=Own.rd HO4.out
              have hcap:=Rdv.le hrd
              have HNO:=Lib.hid hno
              have hsl:∀ W,(Instr.sliceAt 28 (.slice Ao no co) (some (.int .i64 (fi b:Int))) (some (.int .i64 (no:Int))) (some (.int .i64 (no:Int)))).run Tryz.prog W= .ok (.slice (cut Ao no (fi b)) (no - fi b) (no - fi b)) W:=fun W=>Rdv.slhm hrd el53 .i64 .i64 .i64 hfo hcap W
              clear hno hrd hoff
              go_wp2
              have HT6:=Lib.hid ((HT4.out.set 0 (.slice (cut Ao no (fi b)) (no - fi b) (no - fi b))).other (g:=EB) hne 0 (.int .i64 0))
              have HE6:=Lib.hid ((HE4.out.other (g:=TB) hne' 0 (.slice (cut Ao no (fi b)) (no - fi b) (no - fi b))).set 0 (.int .i64 0))
              have HO6:=Lib.hid (own_set_blk (HE4.out.other (g:=TB) hne' 0 (.slice (cut Ao no (fi b)) (no - fi b) (no - fi b))) (own_set_blk HT4.out HO4.out (by decide) 0 (.slice (cut Ao no (fi b)) (no - fi b) (no - fi b))) (by decide) 0 (.int .i64 0))
              have HB6:=Lib.hid ((HB4.out.setCell (p:=⟨TB,0,none⟩) hT0 (.slice (cut Ao no (fi b)) (no - fi b) (no - fi b))).setCell (p:=⟨EB,0,none⟩) hE0 (.int .i64 0))
              clear t0 t1 e0 e1 c0 c1 c2 c3 c4 c5 c6
              generalize (wr.setCell ⟨TB,0,none⟩ (.slice (cut Ao no (fi b)) (no - fi b) (no - fi b))).setCell ⟨EB,0,none⟩ (.int .i64 0)=W6 at *
              refine leaves_cons (f:=51) (args:=#[.pointer (some ⟨EB,0,none⟩),.func (.func 181) #[] #[.pointer (some ⟨TB,0,none⟩)]]) (by simp) (by simp [go_sem]) ?_
              refine(caught_idle ⟨EB,0,none⟩ _ _).mono ?_
              rintro e u' w'' ⟨rfl,rfl,rfl⟩
              have l1:=lv53 (HT6.out.cell (j:=0) rfl)
              have l2:=lv24 (HE6.out.cell (j:=0) rfl)
              simp [Leaves,settle,results,Tryz.results127,asAddr,l1,l2,Sem.run_bind,Result.andThen]
              refine⟨cut Ao no (fi b),no - fi b,no - fi b,by rw [HJ.out],?_,HB6.out⟩
              have hjl:(jD b L (bC b)).length=no:=Rd.len (Own.rd HO6.out)
              have hr:=Rd.cut_ (Rd.capped (Own.rd HO6.out) (Nat.le_refl no)) (l:=fi b) (m:=no) hfo (Nat.le_refl _)
              unfold jRes
              rw [if_pos HJ.out,HRL.out.len]
              rw [List.take_take,Nat.min_self,List.take_of_length_le (by rw [hjl];exact Nat.le_refl _)]at hr
              exact hr
         · have h1f:No1 (s.xs.take (fi b))=false:=by simpa using h1b
           have HJ:=Lib.hid (jErr_f (b:=b) HJV.out HRL.out.len HJS.out (by rw [HJF.out];exact h1f))
           rw [h1f]at HH1
           clear h1b h1f
           go_wp2
           go_still_tail 7,(by kernel_rfl)
           simp only [World.drew_eq]
           go_wp2_with (first
            | (go_at_call 182;refine(HH1.out 1).mono ?_;rintro e w' ⟨rfl,rfl⟩)
            | (go_at_call 91;refine(must_bad _ _).mono ?_;rintro e w' ⟨rfl,rfl⟩))
           exact join_end _ w _ TB EB 60 _ (fun _ _ h=>jbad_post h HJ.out (by decide)) (Blk.drewN (HT.out.below HB2.out) 1) (Blk.drewN (HE.out.below HB2.out) 1) (below_drewN (HB.out.trans (HB2.out.mono HB.out.size)) 1) hT0 hE0 hne _ rfl rfl
    · have HJ:=Lib.hid (jErr_l (b:=b) HJV.out (by rw [HRL.out.len];exact hnC))
      have hd:((n:Int) == (bC b:Int))=false:=beq_f (by omega)
      go_wp2_with (go_at_call 91;refine(must_bad _ _).mono ?_;rintro e w' ⟨rfl,rfl⟩)
      exact join_end _ w _ TB EB 60 _ (fun _ _ h=>jbad_post h HJ.out (by decide)) HT.out HE.out HB.out hT0 hE0 hne _ rfl rfl
end Go.Proofs.YtkdfefpnhaebfaaGreat.Cr
