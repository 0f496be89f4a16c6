/- Bundle. Conditions: none. -/
import Derived.Test.YtkdfefpnhaebfaaGreatBxb
set_option linter.unusedVariables false
set_option linter.unusedSimpArgs false
set_option linter.unusedSectionVars false
namespace Go.Proofs.YtkdfefpnhaebfaaGreat
set_option maxRecDepth 100000
set_option maxHeartbeats 8000000
open Go.RowKit
attribute [local go_sem] Oper.semAt_some
theorem te_out{s:Int}{x:List Int}(hs:s≤472)(h:tE1 s x=0):((tR1 s x).length:Int)=s∧Cr.ValidB (tR1 s x)=true:=by
 unfold tE1 tR1 at *
 unfold Cr.tE at h
 unfold Cr.tR
 by_cases h1:s<1∨79536<s
 · rw [if_pos h1]at h;cases h
 rw [if_neg h1]at h ⊢
 obtain⟨b,rfl⟩:=Int.eq_ofNat_of_zero_le (show 0≤s by omega)
 by_cases h2:Cr.jE ((b:Int)+24) [⟨none,x.length,0,x⟩]=0
 · rw [if_pos h2]at h ⊢
   have h3:=h2
   unfold Cr.jE at h3
   have e24:((b:Int)+24).toNat=b+24:=by omega
   rw [if_neg (by omega),e24]at h3
   obtain⟨hV,-,hS⟩:=Cr.jErr_inv h3
   have hle:b+24≤6144:=by omega
   have hsz:x.length=Cr.sz (b+24) 0:=by
    unfold Cr.jS at hS
    simp at hS
    exact hS
   have hck:Cr.ck (b+24)=0:=if_pos hle
   have hoff:=Cr.off_all (b:=b+24) (by omega)
   rw [Cr.bC_one hle]at hoff
   have hoff1:Cr.off (b+24) 1=Cr.sz (b+24) 0 - Cr.ck (b+24):=by simp [Cr.off]
   have hjR:Cr.jR ((b:Int)+24) [⟨none,x.length,0,x⟩]=x.drop (Cr.fi (b+24)):=by
    unfold Cr.jR Cr.jRes
    rw [if_neg (by omega),e24,if_pos h3]
    unfold Cr.jD
    rw [hck]
    simp
   rw [hjR]at h ⊢
   have hxV:Cr.ValidB x=true:=by
    unfold Cr.jV at hV
    simpa using hV
   unfold Cr.chkRes
   rw [if_pos h]
   refine⟨?_,?_⟩
   · rw [List.length_take,List.length_drop]
     have:Cr.sLen 1=24:=rfl
     omega
   · exact Cr.validB_take _ (Cr.validB_drop _ hxV)
 · rw [if_neg h2]at h;exact absurd h h2
section
variable {half : Int} {zo : Option Zs} {s bt md l rv : Int} {fr : Bool} {ys : List Int} {n : Nat}
theorem out_ok(hs:s≤472):outZ half zo s bt md l rv fr ys n=[]∨(((outZ half zo s bt md l rv fr ys n).length:Int)=s∧Cr.ValidB (outZ half zo s bt md l rv fr ys n)=true):=by
 unfold outZ
 split
 · exact .inl rfl
 split
 · exact .inl rfl
 unfold fnO
 split
 · exact .inl rfl
 split
 · rename_i h;exact .inr (te_out hs h)
 · exact .inl rfl
theorem step_all(hs:s≤472):(rcE (zst zo) (zsz zo) (zlm zo) s bt md l rv fr ys n≠0∧ackZ half zo s bt md l rv fr ys n=0∧outZ half zo s bt md l rv fr ys n=[]∧stepZ half zo s bt md l rv fr ys n=zo) ∨
 (rcE (zst zo) (zsz zo) (zlm zo) s bt md l rv fr ys n=0∧ackZ half zo s bt md l rv fr ys n=1∧zst (stepZ half zo s bt md l rv fr ys n)=2) ∨
 (rcE (zst zo) (zsz zo) (zlm zo) s bt md l rv fr ys n=0∧ackZ half zo s bt md l rv fr ys n=2∧zst (stepZ half zo s bt md l rv fr ys n)=1∧outZ half zo s bt md l rv fr ys n=[]):=by
 by_cases h:rcE (zst zo) (zsz zo) (zlm zo) s bt md l rv fr ys n=0
 · rcases step_ok (half:=half) h with h1 | h1
   · exact .inr (.inl ⟨h,h1⟩)
   · exact .inr (.inr ⟨h,h1⟩)
 · exact .inl ⟨h,step_bad h⟩
end
theorem few_inv{l:List ActV}{m:Nat}(h:fewB l m=true):l.length≤m∧∀ (q:Nat) a,l[q]?=some a→a.n≤600∧a.s≤300:=by
 unfold fewB at h
 rw [Bool.and_eq_true,List.all_eq_true]at h
 exact⟨by simpa using h.1,fun q a ha=>by simpa using h.2 a (List.mem_of_getElem? ha)⟩
theorem cf_cells{a:ActV}{q:Nat}{v:Value}(h:a.cf[q]?=some v):a.cells[1+q]?=some v:=by
 rw [Nat.add_comm]
 rcases q with _ | _ | _ | _ | _ | q
 · exact h
 · exact h
 · exact h
 · exact h
 · exact h
 · cases h
def ActS(b o j:Nat)(a:ActV)(W:World):Prop:=∀ (q:Nat) v,a.cells[q]?=some v→W.cell? ⟨b,o+8*j+q,none⟩=some v
def BlI(w:World)(base P:Nat)(half:Int)(n:Nat)(i r:Value)(wr:World):Prop:=∃ (j N:Nat) (zo:Option Zs) (F:List Nat),j≤n∧i= .int .i64 j∧r= .bool false∧PsZ wr base P half zo N F∧N≤600*j∧Below base w wr
theorem blocks_any(half:Int)(A:Option Addr)(n c:Nat)(l:List ActV)(w:World)(h:ActsR w A n c l) :
 Calls Tryz.prog 4 #[.int .i64 half,.slice A n c] w fun e w'=>e= .returned (.bool true)∧Below w.heap.size w w':=by
 by_cases hh:half<1∨64<half
 · have HN:=Lib.hid (hnew_bad half w hh)
   clear h hh
   go_enter Tryz.func4,Tryz.ntmps4
   go_wp2_with fail
   refine HN.out.mono ?_
   rintro e w1 ⟨rfl,rfl⟩
   go_wp2_with fail
   refine(known_ok _).mono ?_
   rintro e w2 ⟨rfl,hB⟩
   go_wp2
   go_ret
   exact⟨rfl,hB⟩
 have h0:half≠0:=by omega
 have HN:=Lib.hid (hnew_ok half w (by omega))
 have HA:=Lib.hid h
 clear hh h
 have H0:=Lib.hid h0
 clear h0
 go_enter Tryz.func4,Tryz.ntmps4
 go_wp2_with fail
 refine HN.out.mono ?_
 rintro e w1 ⟨P,rfl,hP,hB⟩
 have HP1:=Lib.hid hP
 have HB1:=Lib.hid hB
 have HA1:=Lib.hid (HA.out.below hB)
 clear hP hB HN
 have HF:=Lib.hid (few_any A n c l 4 w1 HA1.out)
 have hlen:=HA1.out.len
 have hcm:=HA1.out.cm
 have hle:=HA1.out.le
 unfold maxLen at hcm
 cases hf:fewB l 4 with
 | false =>
   rw [hf]at HF
   clear hf hlen hcm hle
   go_wp2_with fail
   refine HF.out.mono ?_
   rintro e w2 ⟨rfl,rfl⟩
   go_wp2_with fail
   refine(known_ok _).mono ?_
   rintro e w2 ⟨rfl,hB2⟩
   go_wp2
   go_ret
   exact⟨rfl,HB1.out.trans (hB2.mono HB1.out.size)⟩
 | true =>
 rw [hf]at HF
 have HFI:=Lib.hid (few_inv hf)
 have HL4:Hid (n≤4):=Lib.hid (by have:=HFI.out.1;omega)
 have HLN:Hid (l.length=n):=Lib.hid hlen
 clear hf hlen
 go_wp2_with fail
 refine HF.out.mono ?_
 rintro e w2 ⟨rfl,rfl⟩
 clear HF
 go_wp2_with fail
 go_loopw [7,4] (fun i r wr=>BlI w w.heap.size P half n i r wr) (fun i _ _=>n - (intOf i).toNat)
 case atStart=>exact⟨0,0,none,[],Nat.zero_le _,rfl,rfl,⟨HP1.out,rfl⟩,Nat.le_refl _,HB1.out⟩
 case round =>
  obtain⟨j,N,zo,F,hj,rfl,rfl,hZ,hN,hB⟩:=hrel
  have HBr:=Lib.hid hB
  have HZr:=Lib.hid hZ
  have HNN:=Lib.hid hN
  clear hB hZ hN
  by_cases hlt:j<n
  · obtain⟨a,ha⟩:∃ a,l[j]?=some a:=⟨_,List.getElem?_eq_getElem (by rw [HLN.out];exact hlt)⟩
    have HFW:=Lib.hid (HFI.out.2 j a ha)
    obtain⟨hok,b,o,rfl,hc⟩:=HA.out.at_ j a ha
    have HOK:=Lib.hid (hok.below HBr.out)
    have HCL:=Lib.hid hc
    have HS:Hid (ActS b o j a wr.drew):=Lib.hid (fun q v hq=>cell_below (hc q v hq) HBr.out.drew)
    have hix:=fun W=>ixA b o n c hlt W
    clear ha hc hok
    obtain⟨Ap,np,cp,hp⟩:=HZr.out.p
    have HST:=Lib.hid (pstate_any hp H0.out)
    clear hp
    have HRC:=Lib.hid (recv_all (HZr.out.below ((Below.refl _ wr).drew)) H0.out (by exact HBr.out.size) (by have:=HNN.out;have:=HL4.out;omega) a.s a.bt a.md a.lm a.rv a.fr a.A a.n a.c a.xs (Rdv.below HOK.out.v ((Below.refl _ wr).drew)) (by have:=HFW.out.2;omega))
    have HAL:=Lib.hid (step_all (half:=half) (zo:=zo) (s:=a.s) (bt:=a.bt) (md:=a.md) (l:=a.lm) (rv:=a.rv) (fr:=a.fr) (ys:=a.xs) (n:=a.n) (by have:=HFW.out.2;omega))
    have HOO:=Lib.hid (out_ok (half:=half) (zo:=zo) (s:=a.s) (bt:=a.bt) (md:=a.md) (l:=a.lm) (rv:=a.rv) (fr:=a.fr) (ys:=a.xs) (n:=a.n) (by have:=HFW.out.2;omega))
    generalize rcE (zst zo) (zsz zo) (zlm zo) a.s a.bt a.md a.lm a.rv a.fr a.xs a.n=ea at HRC HAL
    generalize ackZ half zo a.s a.bt a.md a.lm a.rv a.fr a.xs a.n=ka at HRC HAL
    generalize outZ half zo a.s a.bt a.md a.lm a.rv a.fr a.xs a.n=ou at HRC HAL HOO
    generalize stepZ half zo a.s a.bt a.md a.lm a.rv a.fr a.xs a.n=zn at HRC HAL
    go_wp2_with fail
    refine HST.out.mono ?_
    rintro e wq ⟨rfl,rfl⟩
    clear HST
    go_wp2_with fail
    refine Q_start (ActS b o j a) 16 24 ?_
    refine Q_W 0 34 1 (.pointer (some ⟨P,0,none⟩)) rfl HS.out ?_
    simp only [z0,z1,z2]
    refine Q_W 1 35 3 (.slice (some ⟨b,o,none⟩) n c) rfl HS.out ?_
    simp only [z0,z1,z2]
    refine Q_W 2 36 7 (.int .i64 (j:Int)) rfl HS.out ?_
    simp only [z0,z1,z2]
    refine Q_T 3 37 15 (.pointer (some ⟨b,o+8*j,none⟩)) [5,4] rfl HS.out (.inl ⟨by rfl,fun W hS=>by have e:=hix W;go_simp⟩) ?_
    simp only [z0,z1,z2]
    refine Q_W 4 38 31 (.pointer (some ⟨b,o+8*j+1,none⟩)) rfl HS.out ?_
    simp only [z0,z1,z2]
    refine Q_T 5 39 63 (.agg #[.int .i64 a.s,.int .i64 a.bt,.int .i64 a.md,.int .i64 a.lm,.int .i64 a.rv]) [] rfl HS.out (yieldsIf_load_mid rfl 36 (.tmp 38) rfl b (o+8*j+1) rfl a.cf _ (fun W hS=>fun q v hv=>by rw [Nat.add_assoc];exact hS (1+q) v (cf_cells hv)) Tryz.underlying36 rfl (by rw [infoCf];rfl)) ?_
    simp only [z0,z1,z2]
    refine Q_W 6 40 127 (.slice (some ⟨b,o,none⟩) n c) rfl HS.out ?_
    simp only [z0,z1,z2]
    refine Q_W 7 41 255 (.int .i64 (j:Int)) rfl HS.out ?_
    simp only [z0,z1,z2]
    refine Q_T 8 42 511 (.pointer (some ⟨b,o+8*j,none⟩)) [10,9] rfl HS.out (.inl ⟨by rfl,fun W hS=>by have e:=hix W;go_simp⟩) ?_
    simp only [z0,z1,z2]
    refine Q_W 9 43 1023 (.pointer (some ⟨b,o+8*j+6,none⟩)) rfl HS.out ?_
    simp only [z0,z1,z2]
    refine Q_T 10 44 2047 (.bool a.fr) [] rfl HS.out (.inl ⟨by rfl,fun W hS=>by have s0:=hS 6 (.bool a.fr) rfl;go_simp⟩) ?_
    simp only [z0,z1,z2]
    refine Q_W 11 45 4095 (.slice (some ⟨b,o,none⟩) n c) rfl HS.out ?_
    simp only [z0,z1,z2]
    refine Q_W 12 46 8191 (.int .i64 (j:Int)) rfl HS.out ?_
    simp only [z0,z1,z2]
    refine Q_T 13 47 16383 (.pointer (some ⟨b,o+8*j,none⟩)) [15,14] rfl HS.out (.inl ⟨by rfl,fun W hS=>by have e:=hix W;go_simp⟩) ?_
    simp only [z0,z1,z2]
    refine Q_W 14 48 32767 (.pointer (some ⟨b,o+8*j+7,none⟩)) rfl HS.out ?_
    simp only [z0,z1,z2]
    refine Q_T 15 49 65535 (.slice a.A a.n a.c) [] rfl HS.out (.inl ⟨by rfl,fun W hS=>by have s0:=hS 7 (.slice a.A a.n a.c) rfl;go_simp⟩) ?_
    simp only [z0,z1,z2]
    refine Q_1 16 131071 rfl (fun K hK=>?_)
    go_simp
    refine HRC.out.mono ?_
    rintro e w3 ⟨A3,n3,c3,N3,F3,rfl,hR3,hB3,hZ3,hN3,-,-⟩
    have HR3:=Lib.hid hR3
    have HB3:=Lib.hid (HBr.out.trans (((Below.refl w.heap.size wr).drew).trans hB3))
    have HZ3:=Lib.hid hZ3
    have HN3:=Lib.hid hN3
    clear hR3 hB3 hZ3 hN3
    refine hK _ _ ?_
    clear hK K
    refine Q_X 17 33 262143 (.tuple #[.slice A3 n3 c3,.int .i64 ka,.int .i64 ea]) rfl ?_
    simp only [z0,z1,z2]
    refine Q_X 18 51 524287 (.slice A3 n3 c3) rfl ?_
    simp only [z0,z1,z2]
    refine Q_X 19 52 1048575 (.int .i64 ka) rfl ?_
    simp only [z0,z1,z2]
    refine Q_X 20 53 2097151 (.int .i64 ea) rfl ?_
    simp only [z0,z1,z2]
    refine Q_1 21 4194303 rfl (fun K hK=>?_)
    go_simp
    refine hK _ _ ?_
    clear hK K
    refine Q_1 22 8388607 rfl (fun K hK=>?_)
    go_simp
    refine hK _ _ ?_
    clear hK K
    refine Q_1 23 16777215 rfl (fun K hK=>?_)
    go_simp
    refine hK _ _ ?_
    clear hK K
    refine Q_end ?_
    obtain⟨Ap,np,cp,hp⟩:=HZ3.out.p
    have HST:=Lib.hid (pstate_any hp H0.out)
    clear hp
    have HL3:Hid (ou.length=n3):=Lib.hid (by simpa using HR3.out.len)
    rcases HAL.out with⟨h1,rfl,h2,rfl⟩ | ⟨rfl,rfl,h2⟩ | ⟨rfl,rfl,h2,h3⟩
    · have e0:n3=0:=by have:=HL3.out;rw [h2]at this;simpa using this.symm
      subst e0
      clear HAL HOO h2
      go_wp2_with fail
      refine HST.out.mono ?_
      rintro e wx ⟨rfl,rfl⟩
      go_wp2_with fail
      go_roundw
      case rel=>exact⟨j+1,N3,_,F3,by omega,by go_num,rfl,HZ3.out,by have:=HN3.out;have:=HFW.out.1;have:=HNN.out;omega,HB3.out⟩
      case measure=>simp [intOf];omega
    · rw [h2]at HST
      clear HAL
      have h3c:(n3:Int)≤9223372036854775807:=by have:=HR3.out.le;have:=HR3.out.bd;unfold maxLen at this;omega
      by_cases e0:n3=0
      · subst e0
        go_wp2_with fail
        refine HST.out.mono ?_
        rintro e wx ⟨rfl,rfl⟩
        go_wp2_with fail
        go_roundw
        case rel=>exact⟨j+1,N3,_,F3,by omega,by go_num,rfl,HZ3.out,by have:=HN3.out;have:=HFW.out.1;have:=HNN.out;omega,HB3.out⟩
        case measure=>simp [intOf];omega
      · obtain⟨h4,h5⟩:(ou.length:Int)=a.s∧Cr.ValidB ou=true:=by
         rcases HOO.out with h | h
         · rw [h]at HL3;exact absurd HL3.out.symm e0
         · exact h
        have hns:(n3:Int)=a.s:=by rw [← h4,HL3.out]
        have HVD:=Lib.hid (Cr.valid_any A3 n3 c3 ou w3 HR3.out)
        rw [h5]at HVD
        have c1:=cell_below (HCL.out 1 (.int .i64 a.s) rfl) HB3.out
        clear HOO h4 h5
        go_wp2_with fail
        refine HST.out.mono ?_
        rintro e wx ⟨rfl,rfl⟩
        go_wp2_with fail
        refine HVD.out.mono ?_
        rintro e wy ⟨rfl,rfl⟩
        go_wp2_with fail
        go_roundw
        case rel=>exact⟨j+1,N3,_,F3,by omega,by go_num,rfl,HZ3.out,by have:=HN3.out;have:=HFW.out.1;have:=HNN.out;omega,HB3.out⟩
        case measure=>simp [intOf];omega
    · rw [h2]at HST
      have e0:n3=0:=by have:=HL3.out;rw [h3]at this;simpa using this.symm
      subst e0
      clear HAL HOO h2 h3
      go_wp2_with fail
      refine HST.out.mono ?_
      rintro e wx ⟨rfl,rfl⟩
      go_wp2_with fail
      go_roundw
      case rel=>exact⟨j+1,N3,_,F3,by omega,by go_num,rfl,HZ3.out,by have:=HN3.out;have:=HFW.out.1;have:=HNN.out;omega,HB3.out⟩
      case measure=>simp [intOf];omega
  · go_wp2_with fail
    refine(known_ok _).mono ?_
    rintro e w5 ⟨rfl,hB5⟩
    go_wp2
    go_ret
    exact⟨rfl,HBr.out.trans (hB5.mono HBr.out.size)⟩
end Go.Proofs.YtkdfefpnhaebfaaGreat
