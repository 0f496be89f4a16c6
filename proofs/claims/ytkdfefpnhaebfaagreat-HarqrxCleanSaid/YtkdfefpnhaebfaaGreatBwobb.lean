/- Bundle. Conditions: none. -/
import Derived.Test.YtkdfefpnhaebfaaGreatBwoba
import Derived.Lib.SliceRun
set_option linter.unusedVariables false
set_option linter.unusedSimpArgs false
namespace Go.Proofs.YtkdfefpnhaebfaaGreat.Cr
open Go.RowKit
set_option maxRecDepth 100000
set_option maxHeartbeats 2000000
theorem info122:(Tryz.prog.info? 174).map (·.size)=some 4:=by kernel_rfl
theorem res122{W:World}{b:Nat}{m:List Int}(h:Blk W b 174 (ints8 m))(hl:m.length=4):(loadVar 174 ⟨b,0,none⟩).run Tryz.prog W= .ok (.agg (ints8 m).toArray) W :=
 run_loadVar_row (P:=Tryz.prog) W b 174 174 _ (0,0) _ h Tryz.underlying174 rfl (by rw [info122];simp [ints8,hl])
theorem szB_bd(k:Nat){lim:Int}(h:1≤lim):1≤szB k lim∧szB k lim≤3*nB k:=by
 have:=nB_pos (k:=k)
 unfold szB
 split<;>omega
theorem rof_ok(k f:Nat)(lim:Int)(w:World)(h1:40≤k)(h2:k≤6144)(hf:f<k)(hl:1≤lim):Calls Tryz.prog 107 #[.int .i64 k,.int .i64 f,.int .i64 lim] w fun e w'=>e= .returned (.tuple #[.agg #[.int .i64 k,.int .i64 f,.int .i64 (rwS (k+4)),.int .i64 (szB k lim)],.int .i64 0])∧Below w.heap.size w w':=by
 have HR:=Lib.hid (fun W=>crows_any (k+4) W (by omega) (by omega))
 have hsz:szB k lim=if lim≤((3*nB k:Nat):Int) then lim.toNat else 3*nB k:=rfl
 have hN:=nB_le h2
 have hNR:nB k=32*rwS (k+4):=rfl
 generalize szB k lim=Z at *
 generalize nB k=N at *
 generalize rwS (k+4)=R at *
 push_cast at HR
 have q1:decide ((k:Int)<40)=false:=by simp;omega
 have q2:decide ((6144:Int)<(k:Int))=false:=by simp;omega
 have q3:decide ((f:Int)<0)=false:=by simp
 have q4:decide ((k:Int)≤(f:Int))=false:=by simp;omega
 have q5:decide (lim<1)=false:=by simp;omega
 have hmin:min lim (96*(R:Int))=(Z:Int):=by rw [hsz];split<;>omega
 have hwm:IntKind.i64.wrap (96*(R:Int))=96*(R:Int):=by rw [IntKind.wrap_i64];omega
 by_cases hlim:lim≤96*(R:Int)
 · have hz:lim=(Z:Int):=by rw [hsz];split<;>omega
   clear hsz hNR hmin
   go_enter Tryz.func107,Tryz.ntmps107
   go_wp2_with (go_at_call 161;refine(HR.out _).mono ?_;rintro e w1 ⟨rfl,rfl⟩)
   refine bodyPost_ret (v:=.tuple #[.agg #[.int .i64 k,.int .i64 f,.int .i64 R,.int .i64 Z],.int .i64 0]) ?_ rfl ⟨rfl,bal (Below.refl _ w) _⟩
   have l1:=res122 (m:=[(k:Int),f,R,Z]) (Blk.new w (ints8 [(k:Int),f,R,Z]) 174 rfl) rfl
   simp only [ints8,List.map_cons,List.map_nil]at l1
   rw [results_ct rfl]
   simp [Act.put,asAddr,l1,Sem.run_pure,Result.andThen]
 · have hz:96*(R:Int)=(Z:Int):=by rw [hsz];split<;>omega
   have hlz:(Z:Int)<lim:=by omega
   have hZb:Z≤20000:=by omega
   clear hlim
   clear hsz hNR hmin
   go_enter Tryz.func107,Tryz.ntmps107
   go_wp2_with (go_at_call 161;refine(HR.out _).mono ?_;rintro e w1 ⟨rfl,rfl⟩)
   refine bodyPost_ret (v:=.tuple #[.agg #[.int .i64 k,.int .i64 f,.int .i64 R,.int .i64 Z],.int .i64 0]) ?_ rfl ⟨rfl,bal (Below.refl _ w) _⟩
   have l1:=res122 (m:=[(k:Int),f,R,Z]) (Blk.new w (ints8 [(k:Int),f,R,Z]) 174 rfl) rfl
   simp only [ints8,List.map_cons,List.map_nil]at l1
   rw [results_ct rfl]
   simp [Act.put,asAddr,l1,Sem.run_pure,Result.andThen]
theorem buf0_ok(k f Z:Nat)(w:World)(h1:40≤k)(h2:k≤6144)(hZ:Z≤3*nB k):Calls Tryz.prog 108 #[.agg #[.int .i64 k,.int .i64 f,.int .i64 (rwS (k+4)),.int .i64 Z]] w fun e w'=>∃ A,e= .returned (.slice A Z (3*nB k))∧Rd .i64 w' A Z (3*nB k) ((bufL k f).take Z)∧Below w.heap.size w w':=by
 have HF:=Lib.hid (fun W=>full_any k f Z W h1 h2)
 have hN:=nB_le h2
 generalize nB k=N at *
 generalize rwS (k+4)=R at *
 obtain⟨WB,hWB⟩:∃ B,B=w.heap.size:=⟨_,rfl⟩
 obtain⟨W0,hW0⟩:∃ W,W=w.alloc (.cells #[.int .i64 k,.int .i64 f,.int .i64 R,.int .i64 Z] 174):=⟨_,rfl⟩
 have hw0:Blk W0 WB 174 [.int .i64 k,.int .i64 f,.int .i64 R,.int .i64 Z]:=by rw [hW0,hWB];exact Blk.new w [.int .i64 k,.int .i64 f,.int .i64 R,.int .i64 Z] 174 rfl
 have hb0:Below w.heap.size w W0:=by rw [hW0];exact bal (Below.refl _ w) _
 have HW:=Lib.hid (hw0.drew)
 go_enter Tryz.func108,Tryz.ntmps108
 go_wp2_with fail
 rw [← hWB,← hW0]
 clear hWB hW0 hw0
 refine wp_nopanic ?_
 refine P_start (fun W=>Blk W WB 174 [.int .i64 k,.int .i64 f,.int .i64 R,.int .i64 Z]) 5 6 #[false,false,false,false,false,false] (by kernel_rfl) (by kernel_rfl) (by kernel_rfl) ?_
 refine P_take 0 3 (.agg #[.int .i64 k,.int .i64 f,.int .i64 R,.int .i64 Z]) #[true,false,false,false,false,false] rfl rfl (by kernel_rfl) (by kernel_rfl) (by kernel_rfl) (by kernel_rfl) (by kernel_rfl) (by kernel_rfl) (by decide) (fun _ _ _ h=>h) (yieldsIf_load_mid rfl 174 (.tmp 1) rfl WB 0 rfl [.int .i64 k,.int .i64 f,.int .i64 R,.int .i64 Z] _ (fun W hS j v hj=>by rw [Nat.zero_add];exact Blk.cell hS hj) Tryz.underlying174 rfl info122) HW.out ?_
 simp only [yq0,yq1,yq2]
 refine P_takeW 2 5 (.pointer (some ⟨WB,3,none⟩)) #[true,false,true,false,false,false] rfl rfl (by kernel_rfl) (by kernel_rfl) (by kernel_rfl) (by kernel_rfl) (by decide) (fun _ _ _ h=>h) (Or.inl ⟨by rfl,fun W hS=>by go_simp⟩) HW.out ?_
 simp only [yq0,yq1,yq2]
 refine P_take 3 6 (.int .i64 (Z:Int)) #[true,false,true,true,false,false] rfl rfl (by kernel_rfl) (by kernel_rfl) (by kernel_rfl) (by kernel_rfl) (by kernel_rfl) (by kernel_rfl) (by decide) (fun _ _ _ h=>h) (Or.inl ⟨by rfl,fun W hS=>by have s0:=Blk.cell hS (j:=3) (v:=.int .i64 Z) rfl;go_simp⟩) HW.out ?_
 simp only [yq0,yq1,yq2]
 refine P_oneS 1 #[true,true,true,true,false,false] rfl (by kernel_rfl) (by kernel_rfl) rfl (fun K hK=>?_)
 go_simp
 refine(HF.out _).mono ?_
 rintro e w5 ⟨A,rfl,hO5,hB5⟩
 have hB5':=(Below.refl w.heap.size W0).drew.trans (hB5.mono (by have:=hb0.size;exact this))
 have HW5:=Lib.hid (HW.out.below hB5)
 have HO5:=Lib.hid hO5
 have HB5:=Lib.hid (hb0.trans hB5')
 have hsl:=fun W=>Rdv.slh (Own.rd hO5) el34 .i64 (m:=Z) (by omega) W
 clear hO5 hB5 hB5'
 refine hK _ _ HW5.out ?_
 clear hK K
 refine P_takeW 4 7 (.slice A Z (3*N)) #[true,true,true,true,true,false] rfl rfl (by kernel_rfl) (by kernel_rfl) (by kernel_rfl) (by kernel_rfl) (by decide) (fun _ _ _ h=>h) (Or.inl ⟨by rfl,fun W hS=>by go_simp⟩) HW5.out ?_
 simp only [yq0,yq1,yq2]
 refine P_one 5 #[true,true,true,true,true,true] rfl (by kernel_rfl) (by kernel_rfl) rfl (by kernel_rfl) (fun K hK=>?_)
 go_simp
 refine hK _ _ ?_
 clear hK K
 refine P_done (by kernel_rfl) ?_ _
 refine noPanic_normal ?_
 go_wp2
 go_ret
 exact⟨A,rfl,Rd.upto (Own.rd HO5.out) (by omega),HB5.out⟩
theorem cloneI_any(A:Option Addr)(n c:Nat)(xs:List Int)(w:World)(h:Rd .i64 w A n c xs)(hn:n≤200000) :
 Calls Tryz.prog 67 #[.slice A n c] w fun e w'=>∃ A' c',e= .returned (.slice A' n c')∧Own .i64 3 w' w.heap.size A' n c' xs∧Below w.heap.size w w':=by
 have e1:=fun W=>Lib.run_eql_slice_nil (P:=Tryz.prog) W 39 3 A n c 0 0 el34.u
 cases A with
 | none =>
   have hc:=h.nil rfl
   have hnc:=h.le
   obtain rfl:n=0:=by omega
   subst hc
   obtain rfl:xs=[]:=List.eq_nil_of_length_eq_zero h.len
   go_enter Tryz.func67,Tryz.ntmps67
   go_wp2
   go_ret
   exact⟨none,0,rfl,Own.nilv .i64 3 w _,Below.refl _ _⟩
 | some ad =>
   have h1:=Rdv.alloc h (.cells #[] 3)
   have hO0:Ownv 3 (w.alloc (.cells #[] 3)) w.heap.size (some ⟨w.heap.size,0,none⟩) 0 0 []:=Ownv.lit w #[] 3 rfl (Nat.le_refl _) (Nat.zero_le _)
   go_enter Tryz.func67,Tryz.ntmps67
   go_wp2_with (at_builtin;go_loud (refine list_of rfl fun K hK=>wp_app _ _ 39 rfl el34 rfl rfl hO0 h1 (oneCell_ints .i64 xs) (by omega) (by unfold maxLen;omega) (by simp) ?_);intro A' c' w' hO hg;refine hK _ _ ?_;clear hK K)
   go_ret
   exact⟨A',c',ret_sl rfl rfl rfl,Own.of_eq hO (Nat.zero_add n) (List.nil_append _),(Below.refl _ _).grown (grownBy_of_alloc hg) (Nat.le_refl _) (by simp [Value.ownBlock])⟩
theorem buffer_ok(k f:Nat)(lim:Int)(w:World)(h1:40≤k)(h2:k≤6144)(hf:f<k)(hl:1≤lim):Calls Tryz.prog 114 #[.int .i64 k,.int .i64 f,.int .i64 lim] w fun e w'=>∃ A c,e= .returned (.tuple #[.slice A (szB k lim) c,.int .i64 0])∧Own .i64 3 w' w.heap.size A (szB k lim) c ((bufL k f).take (szB k lim))∧Below w.heap.size w w':=by
 have HOF:=Lib.hid (fun W=>rof_ok k f lim W h1 h2 hf hl)
 have hzb:=szB_bd k hl
 have HBF:=Lib.hid (fun W=>buf0_ok k f (szB k lim) W h1 h2 hzb.2)
 have hN:=nB_le h2
 generalize szB k lim=Z at *
 generalize nB k=N at *
 generalize rwS (k+4)=R at *
 go_enter Tryz.func114,Tryz.ntmps114
 go_wp2_with fail
 refine(HOF.out _).mono ?_
 rintro e w1 ⟨rfl,hB1⟩
 have HL:=Lib.hid (Blk.new w1 [.int .i64 k,.int .i64 f,.int .i64 R,.int .i64 Z] 174 rfl)
 have HB1:=Lib.hid (bal hB1 (.cells #[.int .i64 k,.int .i64 f,.int .i64 R,.int .i64 Z] 174))
 have hL:=HL.out
 clear hB1
 go_wp2_with (refine ldrow (cs:=[.int .i64 k,.int .i64 f,.int .i64 R,.int .i64 Z]) rfl 174 (.tmp 8) rfl rfl hL _ Tryz.underlying174 rfl info122 ?_)
 clear hL
 refine(HBF.out _).mono ?_
 rintro e w2 ⟨A,rfl,hR,hB2⟩
 have HR:=Lib.hid hR
 have HB2:=Lib.hid (HB1.out.trans (hB2.mono HB1.out.size))
 clear hR hB2
 go_wp2_with fail
 refine(cloneI_any A Z _ _ w2 HR.out (by omega)).mono ?_
 rintro e w3 ⟨A',c',rfl,hO,hB3⟩
 have HO:=Lib.hid hO
 have HB3:=Lib.hid (HB2.out.trans (hB3.mono HB2.out.size))
 have HS:=Lib.hid HB2.out.size
 clear hO hB3
 go_wp2
 go_ret2
 exact⟨A',c',rfl,Ownv.mono HO.out HS.out,HB3.out⟩
theorem cl86_any(x:Int)(w:World):Calls Tryz.prog 116 #[.int .i64 x] w fun e w'=>e= .returned (.bool (decide (x<0)))∧w=w':=by
 have H87:∀ W,Calls Tryz.prog 110 #[.int .i64 x] W fun e w'=>e= .returned (.bool (decide (0≤x)))∧W=w':=by
  intro W
  go_enter Tryz.func110,Tryz.ntmps110
  go_wp2
  go_ret
  exact⟨rfl,by trivial⟩
 have hd:(!decide (0≤x))=decide (x<0):=by
  by_cases h:0≤x
  · rw [decide_eq_true h,decide_eq_false (by omega)];rfl
  · rw [decide_eq_false h,decide_eq_true (by omega)];rfl
 have HD:=Lib.hid hd
 clear hd
 go_enter Tryz.func116,Tryz.ntmps116
 go_wp2_with fail
 refine(H87 _).mono ?_
 rintro e w' ⟨rfl,rfl⟩
 by_cases h:0≤x
 · have q:decide (0≤x)=true:=decide_eq_true h
   rw [q]
   go_wp2
   go_ret
   exact⟨ret_bool (decide_eq_false (by omega)).symm,by trivial⟩
 · have q:decide (0≤x)=false:=decide_eq_false h
   rw [q]
   go_wp2
   go_ret
   exact⟨ret_bool (decide_eq_true (by omega)).symm,by trivial⟩
def IxP(n:Nat)(xs:List Int)(r:Int):Prop:=(r = -1∧∀ j,j<n→0≤gi xs j)∨(∃ i:Nat,r=(i:Int)∧i<n∧gi xs i<0∧∀ j,j<i→0≤gi xs j)
def IxI(w:World)(n:Nat)(xs:List Int)(i:Value)(wr:World):Prop:=∃ j:Nat,j≤n∧i= .int .i64 j∧(∀ q,q<j→0≤gi xs q)∧w=wr
theorem ixf_any(A:Option Addr)(n c:Nat)(xs:List Int)(w:World)(hx:Rd .i64 w A n c xs)(hn:n≤100000):Calls Tryz.prog 163 #[.slice A n c,.func (.func 116) #[] #[]] w fun e w'=>∃ r:Int,e= .returned (.int .i64 r)∧IxP n xs r∧w=w':=by
 go_enter Tryz.func163,Tryz.ntmps163
 go_wp2
 go_loopw [8] (fun i wr=>IxI w n xs i wr) (fun i _=>n - (intOf i).toNat)
 case atStart=>exact⟨0,Nat.zero_le _,rfl,fun q hq=>by omega,rfl⟩
 case round =>
  obtain⟨j,hj,rfl,hall,rfl⟩:=hrel
  have HALL:=Lib.hid hall
  clear hall
  by_cases hlt:j<n
  · have hc:=Rd.cell hx hlt
    have hix:=fun W=>Rdv.ix hx el34 hlt .i64 W
    have HP:=Lib.hid (fun r=>show IxP n xs r↔_ from Iff.rfl)
    obtain⟨x,hxe⟩:∃ x,x=gi xs j:=⟨_,rfl⟩
    have HXE:=Lib.hid hxe
    rw [← hxe]at hc
    clear hxe
    by_cases h0:x<0
    · have HC:=Lib.hid (cl86_any x w)
      rw [decide_eq_true h0]at HC
      go_wp2_with (go_at_call 116;refine HC.out.mono ?_;rintro e w' ⟨rfl,rfl⟩)
      go_ret
      exact⟨_,rfl,.inr ⟨j,rfl,hlt,by rw [← HXE.out];exact h0,HALL.out⟩,by trivial⟩
    · have HC:=Lib.hid (cl86_any x w)
      rw [decide_eq_false h0]at HC
      go_wp2_with (go_at_call 116;refine HC.out.mono ?_;rintro e w' ⟨rfl,rfl⟩)
      go_roundw
      case rel=>exact⟨j+1,by omega,by go_num,fun q hq=>lt_succ_cases HALL.out (by rw [← HXE.out];omega) q hq,by trivial⟩
      case measure=>simp [intOf];omega
  · obtain rfl:j=n:=by omega
    go_wp2
    go_ret
    exact⟨_,rfl,.inl ⟨rfl,HALL.out⟩,by trivial⟩
theorem usC_all{xs:List Int}:∀ n,n≤xs.length→(∀ j,j<n→0≤gi xs j)→usC (xs.take n)=n
 | 0,_,_=>rfl
 | n+1,h,ha=>by
   rw [List.take_succ_eq_append_getElem (by omega),usC_snoc,usC_all n (by omega) (fun j hj=>ha j (by omega)),if_pos (by have:=ha n (by omega);rwa [gi_eq _ _ (by omega)]at this)]
theorem usC_lt{xs:List Int}{i:Nat}(hi:i<xs.length)(h:gi xs i<0):usC xs<xs.length:=by
 unfold usC
 rw [List.length_filter_lt_length_iff_exists]
 refine⟨xs[i],List.getElem_mem hi,?_⟩
 rw [← gi_eq _ _ hi]
 simp;omega
theorem usC_step{xs:List Int}{j:Nat}(hj:j<xs.length):usC (xs.take (j+1))=usC (xs.take j)+if 0≤gi xs j then 1 else 0:=by
 rw [List.take_succ_eq_append_getElem hj,usC_snoc,gi_eq _ _ hj]
def DeI(w:World)(base n c:Nat)(A:Option Addr)(xs:List Int)(u i:Value)(wr:World):Prop:=∃ (j:Nat) (cur:List Int),j≤n∧i= .int .i64 j∧u= .int .i64 (usC (xs.take j))∧Own .i64 3 wr base A n c cur∧(∀ q,j≤q→q<n→gi cur q=gi xs q)∧Below base w wr
theorem delf_any(A:Option Addr)(n c base:Nat)(xs:List Int)(w:World)(hx:Own .i64 3 w base A n c xs)(hn:n≤100000)(hb:base≤w.heap.size):Calls Tryz.prog 115 #[.slice A n c,.func (.func 116) #[] #[]] w fun e w'=>∃ A' c',e= .returned (.slice A' (usC xs) c')∧Below base w w':=by
 have hl:=(Own.rd hx).len
 have HIX:=Lib.hid (ixf_any A n c xs w (Own.rd hx) hn)
 obtain⟨uu,huu⟩:∃ u,u=usC xs:=⟨_,rfl⟩
 rw [← huu]
 have HUU:=Lib.hid huu
 clear huu
 have HX:=Lib.hid hx
 clear hx
 go_enter Tryz.func115,Tryz.ntmps115
 go_wp2_with fail
 refine HIX.out.mono ?_
 rintro e w' ⟨r,rfl,hr,rfl⟩
 clear HIX
 rcases hr with⟨rfl,hall⟩ | ⟨i0,rfl,hi0,hneg,hall⟩
 · have hu:usC xs=n:=by have:=usC_all n (by omega) hall;rwa [List.take_of_length_le (by omega)]at this
   go_wp2
   go_ret
   exact⟨A,c,by rw [HUU.out,hu];rfl,Below.refl _ _⟩
 · have hq0:((i0:Int) == -1)=false:=beq_f (by omega)
   have hu0:usC (xs.take (i0+1))=i0:=by rw [usC_step (by omega),usC_all i0 (by omega) hall,if_neg (by omega),Nat.add_zero]
   have HLT:=Lib.hid (usC_lt (by omega:i0<xs.length) hneg)
   clear hneg hall
   go_wp2
   go_loopw [5,6] (fun u i wr=>DeI w base n c A xs u i wr) (fun _ i _=>n - (intOf i).toNat)
   case atStart=>exact⟨i0+1,xs,by omega,by go_num,by rw [hu0],HX.out,fun q _ _=>rfl,Below.refl _ _⟩
   case round =>
    obtain⟨j,cur,hj,rfl,rfl,hO,hsame,hB⟩:=hrel
    clear HX hu0
    have hO':=hO
    have HB:=Lib.hid hB
    by_cases hlt:j<n
    · have hc:=Rd.cell (Own.rd hO) hlt
      have hix:=fun W=>Rdv.ix (Own.rd hO) el34 hlt .i64 W
      rw [hsame j (Nat.le_refl _) hlt]at hc
      have HST:=Lib.hid (usC_step (xs:=xs) (j:=j) (by omega))
      have hul:usC (xs.take j)≤j:=by have:=usC_le (xs.take j);rw [List.length_take]at this;omega
      have HSM:=Lib.hid hsame
      obtain⟨x,hxe⟩:∃ x,x=gi xs j:=⟨_,rfl⟩
      rw [← hxe]at hc HST
      clear hsame hxe
      generalize usC (xs.take j)=u at *
      by_cases h0:x<0
      · have HC:=Lib.hid (cl86_any x wr)
        rw [decide_eq_true h0]at HC
        have HO:=Lib.hid hO
        clear hO hO' hB
        go_wp2_with (go_at_call 116;refine HC.out.mono ?_;rintro e w' ⟨rfl,rfl⟩)
        go_roundw
        case rel=>exact⟨j+1,cur,by omega,by go_num,by rw [HST.out,if_neg (by omega)];rfl,HO.out,fun q h1 h2=>HSM.out q (by omega) h2,HB.out⟩
        case measure=>simp [intOf];omega
      · have HC:=Lib.hid (cl86_any x wr)
        rw [decide_eq_false h0]at HC
        have huj:u<n:=by omega
        have hcu:=Rd.cell (Own.rd hO) huj
        have hfu:=Ownv.frozen hO (by have:=(Own.rd hO).le;omega) u
        have hiu:=fun W=>Rdv.ix (Own.rd hO) el34 huj .i64 W
        have HS:=Lib.hid (Own.set_ hO huj x)
        have hbA:=(Ownv.blk_ge hO (by have:=(Own.rd hO).le;omega)).1
        have HB2:=Lib.hid (hB.grown (Own.set_ hO huj x).2 (Nat.le_trans hb hB.size) (fun k e=>by cases e;exact hbA))
        have hcl:=(Own.rd hO).len
        clear hO hO' hB
        go_wp2_with (go_at_call 116;refine HC.out.mono ?_;rintro e w' ⟨rfl,rfl⟩)
        go_roundw
        case rel=>exact⟨j+1,cur.set u x,by omega,by go_num,by rw [HST.out,if_pos (by omega)];go_num,HS.out.1,fun q h1 h2=>by rw [gi_set _ _ _ _ (by omega),if_neg (by omega)];exact HSM.out q (by omega) h2,HB2.out⟩
        case measure=>simp [intOf];omega
    · obtain rfl:j=n:=by omega
      rw [List.take_of_length_le (by omega)]
      have hlt':=HLT.out
      rw [hl,← HUU.out]at hlt'
      rw [← HUU.out]
      have hcap:=(Own.rd hO).le
      obtain⟨b,o,rfl,-⟩:=Rdv.ptr (Own.rd hO) (by omega)
      have hsl0:=fun W=>Rdv.sll (Own.rd hO) el34 .i64 (l:=uu) (by omega) W
      rw [show cut (some ⟨b,o,none⟩) c uu=some ⟨b,o+uu,none⟩ from by unfold cut;rw [if_neg (by omega)];exact congrArg some (add_lit b o uu)]at hsl0
      have hcl:∀ ty,(Builtin.clear_ #[39] ty #[.slice (some ⟨b,o+uu,none⟩) (j - uu) (c - uu)]).run Tryz.prog wr= .ok (.tuple #[]) (wr.setCells b (o+uu) (List.replicate (j - uu) (.int .i64 0))):=fun ty =>
       Lib.run_clear_slice wr 39 3 ty (.int .i64 0) el34.u (fun W=>by kernel_rfl) rfl rfl b (o+uu) (j - uu) (c - uu) (by omega)
        (fun q hq=>by have:=Rd.cell (Own.rd hO) (j:=uu+q) (by omega);rw [adr_some]at this;rw [Nat.add_assoc,this];rfl)
        (fun q hq=>by have:=Ownv.frozen hO (by omega) (uu+q);rw [adr_some]at this;rw [Nat.add_assoc];exact this)
      have hsl1:=fun W=>Rdv.slh (Own.rd hO) el34 .i64 (m:=uu) (by omega) W
      have hbA:=(Ownv.blk_ge hO (by omega)).1
      have HB9:=Lib.hid (hB.grown (grownBy_setCells b (List.replicate (j - uu) (.int .i64 0)) (o+uu) wr) (Nat.le_trans hb hB.size) (fun k e=>by cases e;exact hbA))
      clear hO hO' hB hsame
      go_wp2
      go_ret
      exact⟨_,_,rfl,HB9.out⟩
theorem usable_ok(k f:Nat)(lim:Int)(w:World)(h1:40≤k)(h2:k≤6144)(hf:f<k)(hl:1≤lim):Calls Tryz.prog 68 #[.int .i64 k,.int .i64 f,.int .i64 lim] w fun e w'=>e= .returned (.tuple #[.int .i64 (usC ((bufL k f).take (szB k lim))),.int .i64 0])∧Below w.heap.size w w':=by
 have HBU:=Lib.hid (fun W=>buffer_ok k f lim W h1 h2 hf hl)
 have hzb:=szB_bd k hl
 have hN:=nB_le h2
 generalize szB k lim=Z at *
 generalize nB k=N at *
 obtain⟨u,hu⟩:∃ u,u=usC (List.take Z (bufL k f)):=⟨_,rfl⟩
 rw [← hu]
 go_enter Tryz.func68,Tryz.ntmps68
 go_wp2_with fail
 refine(HBU.out _).mono ?_
 rintro e w1 ⟨A,c,rfl,hO,hB1⟩
 have HO:=Lib.hid hO
 have HB1:=Lib.hid hB1
 clear hO hB1
 go_wp2_with fail
 refine(delf_any A Z c w.heap.size _ w1 HO.out (by omega) HB1.out.size).mono ?_
 rintro e w2 ⟨A',c',rfl,hB2⟩
 have HB2:=Lib.hid (HB1.out.trans hB2)
 clear hB2
 rw [← hu]
 clear hu
 go_wp2
 go_ret2
 exact⟨rfl,HB2.out⟩
def ly15(sz:Int):List Int × Int:=if sz<1∨79536<sz then(zero7,2) else(LY (sz+24).toNat,0)
theorem lay_any(sz:Int)(w:World):Calls Tryz.prog 12 #[.int .i64 sz] w fun e w'=>e= .returned (.tuple #[.agg (ints8 (ly15 sz).1).toArray,.int .i64 (ly15 sz).2])∧Below w.heap.size w w':=by
 have hr0:Blk (w.alloc (.cells (ints8 zero7).toArray 31)) w.heap.size 31 (ints8 zero7):=Blk.new w _ 31 rfl
 have hb0:=bal (Below.refl _ w) (.cells (ints8 zero7).toArray 31)
 by_cases h:sz<1∨79536<sz
 · have e:ly15 sz=(zero7,2):=by unfold ly15;rw [if_pos h]
   rw [e]
   simp only [ints8,zero7,List.map_cons,List.map_nil]at hr0 hb0 ⊢
   by_cases h1:sz<1
   · have q:decide (sz<1)=true:=by simp [h1]
     clear h
     go_enter Tryz.func12,Tryz.ntmps12
     go_wp2_with (refine strow (cs:=[.int .i64 0,.int .i64 0,.int .i64 0,.int .i64 0,.int .i64 0,.int .i64 0,.int .i64 0]) rfl 31 (.tmp 2) (.tmp 10) rfl rfl rfl hr0 rfl info23 (ints8_one zero7) ?_;intro W4 g1 g2;have H4:=Lib.hid g1;have HB4:=Lib.hid (hb0.grown g2 hb0.size (fun k hk=>by cases hk;exact Nat.le_refl _));clear g1 g2 hr0)
     refine bodyPost_ret (v:=.tuple #[.agg #[.int .i64 0,.int .i64 0,.int .i64 0,.int .i64 0,.int .i64 0,.int .i64 0,.int .i64 0],.int .i64 2]) ?_ rfl ⟨rfl,HB4.out⟩
     have l1:=res23 (m:=zero7) H4.out rfl
     simp only [ints8,zero7,List.map_cons,List.map_nil]at l1
     rw [results_ct rfl]
     simp [Act.put,asAddr,l1,Sem.run_pure,Result.andThen]
   · have q:decide (sz<1)=false:=by simp;omega
     have q2:decide (79536<sz)=true:=by simp;omega
     clear h h1
     go_enter Tryz.func12,Tryz.ntmps12
     go_wp2_with (refine strow (cs:=[.int .i64 0,.int .i64 0,.int .i64 0,.int .i64 0,.int .i64 0,.int .i64 0,.int .i64 0]) rfl 31 (.tmp 2) (.tmp 10) rfl rfl rfl hr0 rfl info23 (ints8_one zero7) ?_;intro W4 g1 g2;have H4:=Lib.hid g1;have HB4:=Lib.hid (hb0.grown g2 hb0.size (fun k hk=>by cases hk;exact Nat.le_refl _));clear g1 g2 hr0)
     refine bodyPost_ret (v:=.tuple #[.agg #[.int .i64 0,.int .i64 0,.int .i64 0,.int .i64 0,.int .i64 0,.int .i64 0,.int .i64 0],.int .i64 2]) ?_ rfl ⟨rfl,HB4.out⟩
     have l1:=res23 (m:=zero7) H4.out rfl
     simp only [ints8,zero7,List.map_cons,List.map_nil]at l1
     rw [results_ct rfl]
     simp [Act.put,asAddr,l1,Sem.run_pure,Result.andThen]
 · have e:ly15 sz=(LY (sz+24).toNat,0):=by unfold ly15;rw [if_neg h]
   obtain⟨b,hb⟩:∃ b,b=(sz+24).toNat:=⟨_,rfl⟩
   rw [e,← hb]
   have HP:=Lib.hid (fun W=>plan_top b W (by omega) (by omega))
   skip
   have hbs:sz+24=(b:Int):=by omega
   have hbw:IntKind.i64.wrap (sz+24)=(b:Int):=by rw [IntKind.wrap_i64];omega
   have q:decide (sz<1)=false:=by simp;omega
   have q2:decide (79536<sz)=false:=by simp;omega
   clear h e hb hbs
   obtain⟨ly,hly⟩:∃ ly,ly=LY b:=⟨_,rfl⟩
   have hl7:ly.length=7:=by rw [hly];rfl
   rw [← hly]at HP ⊢
   clear hly
   have HR0:=Lib.hid hr0
   have HB0:=Lib.hid hb0
   clear hr0 hb0
   simp only [ints8,zero7,List.map_cons,List.map_nil]at HR0 HB0
   go_enter Tryz.func12,Tryz.ntmps12
   go_wp2_with fail
   refine(HP.out _).mono ?_
   rintro e w1 ⟨rfl,hB1⟩
   have hr1:=HR0.out.below hB1
   have HB1:=Lib.hid (HB0.out.trans (hB1.mono HB0.out.size))
   clear hB1
   go_wp2_with (refine strow (cs:=ints8 ly) rfl 31 (.tmp 2) (.tmp 14) rfl rfl rfl hr1 (by simp [ints8,hl7]) (by rw [info23];simp [ints8,hl7]) (ints8_one ly) ?_;intro W4 g1 g2;have H4:=Lib.hid g1;have HB4:=Lib.hid (HB1.out.grown g2 HB1.out.size (fun k hk=>by cases hk;exact Nat.le_refl _));clear g1 g2 hr1)
   refine bodyPost_ret (v:=.tuple #[.agg (ints8 ly).toArray,.int .i64 0]) ?_ rfl ⟨rfl,HB4.out⟩
   have l1:=res23 (m:=ly) H4.out hl7
   rw [results_ct rfl]
   simp [Act.put,asAddr,l1,Sem.run_pure,Result.andThen]
set_option maxHeartbeats 4000000
def VC(sz bt md lm rv:Int):Bool:=decide (1≤sz∧sz≤79536∧(md=2∨md=4∨md=6)∧0≤bt∧bt≤131072∧bt % md=0∧1≤lm∧0≤rv∧rv≤3)
theorem valc_any(sz bt md lm rv:Int)(w:World):Calls Tryz.prog 54 #[.agg #[.int .i64 sz,.int .i64 bt,.int .i64 md,.int .i64 lm,.int .i64 rv]] w fun e w'=>e= .returned (.bool (VC sz bt md lm rv))∧Below w.heap.size w w':=by
 obtain⟨e,he⟩:∃ e,e=bt % md:=⟨_,rfl⟩
 have ht:0≤bt→bt.tmod md=e:=fun h=>by rw [Int.tmod_eq_emod_of_nonneg h,he]
 have hv:VC sz bt md lm rv=decide (1≤sz∧sz≤79536∧(md=2∨md=4∨md=6)∧0≤bt∧bt≤131072∧e=0∧1≤lm∧0≤rv∧rv≤3):=by unfold VC;rw [he]
 rw [hv]
 clear hv he
 rcases (by omega:sz<1∨(1≤sz∧79536<sz)∨((1≤sz∧sz≤79536)∧md≠2∧md≠4∧md≠6)∨((1≤sz∧sz≤79536)∧(md=2∨md=4∨md=6))) with a1 | ⟨a1,a2⟩ | ⟨⟨a1,a2⟩,n2,n4,n6⟩ | ⟨⟨a1,a2⟩,z⟩
 all_goals first
  | (rcases z with rfl | rfl | rfl<;>rcases (by omega:(bt<0)∨(0≤bt∧131072<bt)∨(0≤bt∧bt≤131072∧e≠0)∨(0≤bt∧bt≤131072∧e=0∧lm<1)∨(0≤bt∧bt≤131072∧e=0∧1≤lm∧rv<0)∨(0≤bt∧bt≤131072∧e=0∧1≤lm∧0≤rv∧3<rv)∨(0≤bt∧bt≤131072∧e=0∧1≤lm∧0≤rv∧rv≤3)) with c1 | ⟨c1,c2⟩ | ⟨c1,c2,c3⟩ | ⟨c1,c2,c3,c4⟩ | ⟨c1,c2,c3,c4,c5⟩ | ⟨c1,c2,c3,c4,c5,c6⟩ | ⟨c1,c2,c3,c4,c5,c6⟩)
  | (have m2:=beq_f n2;have m4:=beq_f n4;have m6:=beq_f n6)
  | skip
 all_goals
  first | rw [decide_eq_true (by omega)] | rw [decide_eq_false (by omega)]
  try have hq:=ht (by omega)
  try have hz:=beq_f (show e≠0 by assumption)
  clear ht
  go_enter Tryz.func54,Tryz.ntmps54
  go_wp2
  go_ret
  refine⟨?_,bal (Below.refl _ w) _⟩
  first | rfl | (show Ending.returned (.bool (decide (rv≤3)))=_;rw [decide_eq_true (by omega)]) | (show Ending.returned (.bool (decide (rv≤3)))=_;rw [decide_eq_false (by omega)])
open Go.Shelf
attribute [local go_sem] Oper.semAt_some
def ClB{β:Type}(J:β→World→Prop):Prop:=∀ s W W',J s W→Below W.heap.size W W'→J s W'
theorem ClB.alloc{β:Type}{J:β→World→Prop}(h:ClB J){s:β}{W:World}(o:Obj)(hs:J s W):J s (W.alloc o):=h s W _ hs ((Below.refl _ W).alloc (Nat.le_refl _) o)
theorem ClB.call{β:Type}{J:β→World→Prop}(h:ClB J){s:β}{W W':World}(hs:J s W)(hb:Below W.heap.size W W'):J s W':=h s W W' hs hb
def ClP{β:Type}(B:Nat)(J:β→World→Prop):Prop:=∀ s W l o o',J s W→B≤l→W.heap[l]?=some o→o.isCells=false→J s (W.putObj l o')
def SeqE{α:Type}(m gf:Nat)(lb:Array Value)(encs:α→Array Value)(Kp:World→World→Prop)(S Sp:List α→Prop)(Ok:List α→α→Prop)(w:World):Prop :=
 ∀ (l:Nat) (J Jx:List α→World→Prop) (W:World),Below w.heap.size w W→ClB J→ClB Jx →
  (∀ pre x W1,J pre W1→Ok pre x→YieldAt Fence.wide (m - 1) Tryz.prog l (encs x) W1 fun e W' =>
    (e= .returned (.bool true)∧J (pre ++ [x]) W'∧Kp W1 W')∨(e= .returned (.bool false)∧Jx (pre ++ [x]) W')) →
  J [] W →
  CallsIn Fence.wide m Tryz.prog gf (#[.func (.yield l) #[] #[]] ++ lb) W fun e W'=>(∃ v,e= .returned v)∧((∃ xs,S xs∧J xs W')∨(∃ pre,Sp pre∧Jx pre W'))
theorem rangeE{α:Type}{g:Operand}{ps:Array Tmp}{assign body:Code}{Q:Exit→Act→World→Prop}{a:Act}{w:World}
 {gf:Nat} {lb:Array Value} (hg:a.eval g= .func (.func gf) #[] lb) (eg:∀ args w,(callFunc gf args).run Tryz.prog w= .ok (.enter gf args) w)
 {encs:α→Array Value} {Kp:World→World→Prop} {S Sp:List α→Prop} {Ok:List α→α→Prop} {w0:World} (hseq:SeqE 2 gf lb encs Kp S Sp Ok w0)
 (hKt:∀ {A B C:World},Kp A B→Kp B C→Kp A C) (hKb:∀ (W:World) (l:Nat) (o o':Obj),w.heap.size≤l→W.heap[l]?=some o→o.isCells=false→Kp W (W.putObj l o')) (hb0:Below w0.heap.size w0 w) (hps:∀ x,(encs x).size=ps.size)
 (I:List α→World→Prop) (Ix:Code→List α→World→Prop) (hI:ClB I) (hIx:∀ c,ClB (Ix c)) (hIp:ClP w.heap.size I) (hIxp:∀ c,ClP w.heap.size (Ix c)) (h0:I [] w) (a₁:α→Act)
 (hassign:∀ (l:Nat) (x:α) (W:World) (K:Act→World→Prop),K (a₁ x) W →
   assign.wpIn (Fence.wide.inRound l) 1 Tryz.prog (Exit.then K (fun _ _ _=>False)) {tmps:=(ps.zip (encs x)).foldl (fun t (p,v)=>t.setIfInBounds p v) a.tmps,defers:=[]} W)
 (hbody:∀ (l:Nat) (pre:List α) (x:α) (W:World),I pre W→Ok pre x→body.wpIn (Fence.wide.inRound l) 1 Tryz.prog (ownPostK Kp I Ix (pre ++ [x]) W) (a₁ x) W)
 (hdone:∀ (D:Nat) (xs:List α) (W:World),w.heap.size≤D→S xs→I xs W→W.heap[D]?=some (.deferred (some []))→Q .normal {a with defers:={target:=.collected D,args:=#[]} :: a.defers} W)
 (hstop:∀ (D:Nat) (c:Code) (pre:List α) (W:World),w.heap.size≤D→Sp pre→Ix c pre W→W.heap[D]?=some (.deferred (some []))→c.wpIn Fence.wide 3 Tryz.prog Q {a with defers:={target:=.collected D,args:=#[]} :: a.defers} W) :
 (Code.rangeFunc g ps assign body).wpIn Fence.wide 3 Tryz.prog Q a w:=by
 refine wpIn_rangeFunc fun fn hfn=>?_
 obtain⟨n,hn⟩:∃ n,n=w.heap.size:=⟨_,rfl⟩
 rw [← hn]at hKb hIp hIxp hdone hstop
 obtain⟨rc,hrc⟩:∃ rc:LoopState→Option Code→Loop,rc=fun st pe=>{state:=st,pending:=pe,fn,tmps:=a.tmps,params:=ps,assign,body,defers:=n}:=⟨_,rfl⟩
 obtain⟨W1,hW1⟩:∃ W1,W1=(w.alloc (.deferred (some []))).alloc (.loop (rc .ready none)):=⟨_,rfl⟩
 have hs1:W1.heap.size=n+2:=by rw [hW1,hn];simp
 have hL1:W1.heap[n+1]?=some (.loop (rc .ready none)):=by
  rw [hW1,hn]
  have h:=World.alloc_heap_new (w.alloc (.deferred (some []))) (.loop (rc .ready none))
  rwa [World.size_alloc]at h
 have hK1:W1.heap[n]?=some (.deferred (some [])):=by
  rw [hW1,hn]
  exact(Below.heap_alloc _ _ _ (by simp)).trans (World.alloc_heap_new w _)
 have hI1:I [] W1:=by rw [hW1];exact hI.alloc _ (hI.alloc _ h0)
 have hb1:Below w0.heap.size w0 W1:=by
  rw [hW1]
  exact hb0.trans ((((Below.refl _ w).alloc (Nat.le_refl _) _).alloc (by simp) _).mono hb0.size)
 -- the loop's two blocks: nothing behind them turns them
 have two:∀ {A B:World} {row:Option Nat} {o p:Obj},A.grownBy B row→(∀ r,row=some r→W1.heap.size≤r)→A.heap[n+1]?=some o∧A.heap[n]?=some p→B.heap[n+1]?=some o∧B.heap[n]?=some p:=fun {A B row o p} hgr hr h =>
  ⟨(hgr.block _ (Array.getElem?_eq_some_iff.1 h.1).1 (fun e=>by have:=hr _ e.symm;omega)).trans h.1,(hgr.block _ (Array.getElem?_eq_some_iff.1 h.2).1 (fun e=>by have:=hr _ e.symm;omega)).trans h.2⟩
 have up:∀ {row:Option Nat},(∀ r,row=some r→W1.heap.size≤r)→∀ r,row=some r→n≤r:=fun hr r e=>by have:=hr r e;omega
 refine⟨n+1,[{target:=.collected n,args:=#[]}],W1,{target:=.fn (.func gf) lb,args:=#[.func (.yield (n+1)) #[] #[]]},W1,gf,#[.func (.yield (n+1)) #[] #[]] ++ lb,W1,?_,?_,?_,?_,fun _=>by omega,?_⟩
 · rw [hW1,hrc,hn]
   exact run_enterLoop_outer _ _ _ _ _
 · simp only [resolve,hg]
   simp [go_sem]
 · intro f hf
   simp [Target.leads]at hf
   subst hf
   trivial
 · simp [invoke,go_sem,eg]
 refine(hseq (n+1)
  (fun pre W=>I pre W∧W.heap[n+1]?=some (.loop (rc .ready none))∧W.heap[n]?=some (.deferred (some [])))
  (fun pre W=>∃ c,Ix c pre W∧W.heap[n+1]?=some (.loop (rc .done (some c)))∧W.heap[n]?=some (.deferred (some [])))
  W1 hb1 (fun s A B hs hb=>⟨hI s A B hs.1 hb,two (grown_of_below hb) nofun hs.2⟩)
  (fun s A B ⟨c,hc,hs⟩ hb=>⟨c,hIx c s A B hc hb,two (grown_of_below hb) nofun hs⟩) ?_ ⟨hI1,hL1,hK1⟩).mono ?_
 · rintro pre x W ⟨hi,hl,hk⟩ hlen
   have hlt:n+1<W.heap.size:=(Array.getElem?_eq_some_iff.1 hl).1
   obtain⟨Wb,hWb⟩:∃ Wb,Wb=W.putObj (n+1) (.loop {rc .ready none with state:=.busy}):=⟨_,rfl⟩
   have hlb:Wb.heap[n+1]?=some (.loop {rc .ready none with state:=.busy}):=by rw [hWb];exact World.putObj_heap_same hlt
   have hkb:Wb.heap[n]?=some (.deferred (some [])):=by rw [hWb];exact(World.putObj_heap_other (by omega)).trans hk
   have hib:I pre Wb:=by rw [hWb];exact hIp _ _ _ _ _ hi (by omega) hl rfl
   have hpb:Kp W Wb:=by rw [hWb];exact hKb _ _ _ _ (by omega) hl rfl
   have hyl:=run_yield (P:=Tryz.prog) (args:=encs x) hl (by rw [hrc];exact hps x)
   rw [hrc]at hyl
   refine⟨fn,_,assign,body,hyl,roundIn_of_wpIn hfn (hassign _ x W _ ⟨_,run_beginRound hl (by rw [hrc]),?_⟩)⟩
   rw [← hWb]
   refine wpIn_mono (hbody _ pre x _ hib hlen) ?_
   have close:∀ (jump:Option Code) (W3:World),KeepsOthers Wb W3→∃ W4,W4=W3.putObj (n+1) (.loop (rc (if jump.isNone then .ready else .done) jump))∧(Instr.endRound (n+1) jump).run Tryz.prog W3= .ok (.bool jump.isNone) W4 ∧
    (∃ o:Obj,W3.heap[n+1]?=some o∧o.isCells=false)∧W4.heap[n+1]?=some (.loop (rc (if jump.isNone then .ready else .done) jump))∧W4.heap[n]?=some (.deferred (some [])):=fun jump W3 hk3=>by
    have hl3:=hk3.same _ _ hlb rfl
    have hr3:=run_endRound (P:=Tryz.prog) jump hl3
    rw [hrc]at hr3 ⊢
    exact⟨_,rfl,hr3,⟨_,hl3,rfl⟩,World.putObj_heap_same (Array.getElem?_eq_some_iff.1 hl3).1,(World.putObj_heap_other (by omega)).trans (hk3.same _ _ hkb rfl)⟩
   have away:∀ (c:Code) (W3:World),KeepsOthers Wb W3→Ix c (pre ++ [x]) W3→∃ v W4,(Instr.endRound (n+1) (some c)).run Tryz.prog W3= .ok v W4∧v= .bool false∧∃ c',Ix c' (pre ++ [x]) W4∧W4.heap[n+1]?=some (.loop (rc .done (some c')))∧W4.heap[n]?=some (.deferred (some [])):=fun c W3 hk3 hi3=>by
    obtain⟨W4,e4,hr,⟨o,ho,hc⟩,h1,h2⟩:=close (some c) W3 hk3
    exact⟨_,W4,hr,rfl,c,by rw [e4];exact hIxp c _ _ _ _ _ hi3 (by omega) ho hc,h1,h2⟩
   rintro e a3 W3 hp
   cases e with
   | normal =>
     obtain⟨hk3,hp3,hi3⟩:=hp
     obtain⟨W4,e4,hr,⟨o,ho,hc⟩,h1,h2⟩:=close none W3 hk3
     refine⟨_,W4,hr,.inl ⟨rfl,⟨?_,h1,h2⟩,hKt (hKt hpb hp3) ?_⟩⟩
     · rw [e4];exact hIp _ _ _ _ _ hi3 (by omega) ho hc
     · rw [e4];exact hKb _ _ _ _ (by omega) ho hc
   | ret =>
     obtain⟨v,W4,hr,hv,h⟩:=away .ret W3 hp.1 hp.2
     exact⟨v,W4,hr,.inr ⟨by rw [hv],h⟩⟩
   | exit id =>
     obtain⟨v,W4,hr,hv,h⟩:=away (.exit id) W3 hp.1 hp.2
     exact⟨v,W4,hr,.inr ⟨by rw [hv],h⟩⟩
   | goto t =>
     obtain⟨v,W4,hr,hv,h⟩:=away (.goto t) W3 hp.1 hp.2
     exact⟨v,W4,hr,.inr ⟨by rw [hv],h⟩⟩
   | panic ch=>exact hp.elim
   | outgrown=>exact hp.elim
 · rintro e W2 ⟨⟨v,rfl⟩,h⟩
   rcases h with⟨xs,hS,hi,hl,hk⟩ | ⟨pre,hSp,c,hi,hl,hk⟩
   · have hr:=run_endLoop (P:=Tryz.prog) hl (by rw [hrc];simp)
     rw [hrc]at hr
     exact⟨none,_,hr,hdone _ xs _ (Nat.le_refl _) hS (hIp _ _ _ _ _ hi (by omega) hl rfl) ((World.putObj_heap_other (by omega)).trans hk)⟩
   · have hr:=run_endLoop (P:=Tryz.prog) hl (by rw [hrc];simp)
     rw [hrc]at hr
     exact⟨some c,_,hr,hstop _ c pre _ (Nat.le_refl _) hSp (hIxp c _ _ _ _ _ hi (by omega) hl rfl) ((World.putObj_heap_other (by omega)).trans hk)⟩
end Go.Proofs.YtkdfefpnhaebfaaGreat.Cr
