/- The two slices of bits that a statement compares. Condition: none. -/
import Derived.Test.YtkdfefpnhaebfaaGreatBwoaa
import Derived.Test.YtkdfefpnhaebfaaGreatBwoab
import Derived.Deep.QuietTactic
set_option linter.unusedVariables false
set_option linter.unusedSimpArgs false
namespace Go.Proofs.YtkdfefpnhaebfaaGreat
theorem Qt.refl(w:World):Qt w w:=⟨0,rfl⟩
theorem Qt.trans{a b c:World}(h:Qt a b)(h':Qt b c):Qt a c:=by obtain⟨p,rfl⟩:=h';exact h.drewN p
namespace Cr
open Go.RowKit
set_option maxHeartbeats 400000 in
theorem same_any(A B:Option Addr)(n c m d:Nat)(xs ys:List Int)(w:World)(hx:Rd .u8 w A n c xs)(hy:Rd .u8 w B m d ys) :
 Calls Tryz.prog 16 #[.slice A n c,.slice B m d] w fun e w'=>e= .returned (.bool (decide (xs=ys)))∧Qt w w':=by
 have b1:=hx.bd.1
 have b2:=hy.bd.1
 by_cases hnm:n=m
 · subst hnm
   have hne:((n:Int) != (n:Int))=false:=bne_f rfl
   go_enter Tryz.func16,Tryz.ntmps16
   go_wp2
   go_loopw [5] (fun i wr=>SameInv w n xs ys i wr) (fun i _=>n - (intOf i).toNat)
   case atStart=>exact⟨0,by omega,rfl,by intro q hq;omega,0,rfl⟩
   case round =>
    obtain⟨j,hj,rfl,hv,q0,rfl⟩:=hrel
    by_cases hlt:j<n
    · have hc:=Rd.cell hx hlt
      have hd:=Rd.cell hy hlt
      have hix:=fun W=>Rdv.ix hx el53 hlt .i64 W
      have hiy:=fun W=>Rdv.ix hy el53 hlt .i64 W
      have HV:=Lib.hid hv;clear hv
      by_cases h1:gi xs j=gi ys j
      · have h1':=bne_f h1
        have H1:=Lib.hid h1;clear h1
        go_wp2
        go_quiet (fail)
        go_wp2
        go_roundw
        case rel=>exact⟨j+1,by omega,by go_num,fun q hq=>lt_succ_cases HV.out H1.out q hq,by first | exact⟨_,rfl⟩ | exact Qt.drewN ⟨_,rfl⟩ _⟩
        case measure=>simp [intOf];omega
      · have h1':=bne_t h1
        have hf:decide (xs=ys)=false:=by simp;rintro rfl;exact h1 rfl
        go_wp2
        go_quiet (fail)
        go_wp2
        go_ret
        exact⟨ret_bool hf.symm,by first | exact⟨_,rfl⟩ | exact Qt.drewN ⟨_,rfl⟩ _⟩
    · have hf:decide (xs=ys)=true:=by
       have hl1:=hx.len;have hl2:=hy.len
       simp only [decide_eq_true_eq]
       refine ext_gi (by rw [hl1,hl2]) fun q hq=>hv q (by omega)
      go_wp2
      go_ret
      exact⟨ret_bool hf.symm,by first | exact⟨_,rfl⟩ | exact Qt.drewN ⟨_,rfl⟩ _⟩
 · have hne:((n:Int) != (m:Int))=true:=bne_t (by omega)
   have hf:decide (xs=ys)=false:=by
    simp;rintro rfl;have:=hx.len;have:=hy.len;omega
   go_enter Tryz.func16,Tryz.ntmps16
   go_wp2
   go_ret
   exact⟨ret_bool hf.symm,0,rfl⟩
end Cr
end Go.Proofs.YtkdfefpnhaebfaaGreat
