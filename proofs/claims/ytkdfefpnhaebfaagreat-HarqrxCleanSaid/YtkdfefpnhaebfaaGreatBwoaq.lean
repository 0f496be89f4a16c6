/- Bundle. Conditions: none. -/
import Derived.Test.YtkdfefpnhaebfaaGreatBwoap
import Derived.Deep.AppendLies
import Derived.Test.YtkdfefpnhaebfaaGreatBwoaj
import Derived.Test.YtkdfefpnhaebfaaGreatBwoad
import Derived.Deep.QuietTactic
import Derived.BigQuiet
set_option linter.unusedVariables false
set_option linter.unusedSimpArgs false
namespace Go.Proofs.YtkdfefpnhaebfaaGreat
open Go.RowKit
structure RowD where
 k:IntKind
 e:TypeId
 A:Option Addr
 n:Nat
 c:Nat
 xs:List Int
section
variable {base : Nat} {W W' : World} {r1 r2 r3 : RowD}
end
section
variable {w wr w' : World} {bf bg N bA cap base : Nat} {F G : Nat → List Int}
end
theorem Rdv.slhm{P:Program}{w:World}{A:Option Addr}{n c:Nat}{vs:List Value}(h:Rdv w A n c vs){t e:TypeId}{z:Value}{bytes:Nat}(E:El P t e z bytes)(kh km:IntKind){m:Nat}(hm:m≤c)(W:World) :
 (Instr.sliceAt t (.slice A n c) none (some (.int kh (m:Int))) (some (.int km (m:Int)))).run P W= .ok (.slice A m m) W:=by
 have e1:P.underlying t=some (.slice (P.elem t)):=by rw [E.u];simp [Program.elem,E.u]
 have e2:P.elem t=e:=by simp [Program.elem,E.u]
 rw [run_sliceAt_slice W t _ _ _ _ e1,run_slice_hm W t A n c e1 kh km m m (by omega) (by omega) (by omega),e2,E.s]
 simp only [Result.andThen_ok,Int.toNat_natCast,sliced,Nat.zero_mul,Nat.sub_zero]
 congr 2
 split
 · rfl
 · cases A<;>simp [Addr.add]
theorem Rdv.capn{w:World}{A:Option Addr}{n c:Nat}{vs:List Value}(h:Rdv w A n c vs):Rdv w A n n vs:=by
 have hle:=h.le
 exact⟨h.len,Nat.le_refl _,Nat.le_trans hle h.cm,fun e=>by have:=h.nil e;omega,fun hn=>h.spot (by omega),fun hn=>h.lt (by omega),h.at_⟩
def u3(f:Nat→Bool):List Int:=[ib (f 0),ib (f 1),ib (f 2)]
set_option maxRecDepth 100000
set_option maxHeartbeats 2000000
theorem cell_below{w w':World}{p:Addr}{v:Value}(hc:w.cell? p=some v)(h:Below w.heap.size w w'):w'.cell? p=some v:=(h.cell (World.block_lt_of_cell? w _ hc)).trans hc
theorem size_any(A:Option Addr)(n c:Nat)(w:World)(hn:n≤1000000):Calls Tryz.prog 166 #[.slice A n c] w fun e w'=>e= .returned (.int .i64 ((n:Int) / 3 - 4))∧w=w':=by
 have a1:(n:Int).tdiv 3=(n:Int) / 3:=Int.tdiv_eq_ediv_of_nonneg (by omega)
 have a2:IntKind.i64.wrap ((n:Int) / 3)=(n:Int) / 3:=by rw [IntKind.wrap_i64];omega
 have a3:IntKind.i64.wrap ((n:Int) / 3 - 4)=(n:Int) / 3 - 4:=by rw [IntKind.wrap_i64];omega
 go_enter Tryz.func166,Tryz.ntmps166
 go_wp2
 go_ret
 exact⟨rfl,rfl⟩
theorem bsoft_any(v:Int)(w:World):Calls Tryz.prog 167 #[.int .i64 v] w fun e w'=>e= .returned (.bool (!decide (-127≤v∧v≤127)))∧w=w':=by
 by_cases h1:v < -127
 · rw [show decide (-127≤v∧v≤127)=false from by simp;omega]
   go_enter Tryz.func167,Tryz.ntmps167
   go_wp2
   go_ret
   exact⟨rfl,rfl⟩
 · rw [show decide (-127≤v∧v≤127)=!decide (127<v) from by rw [Bool.eq_iff_iff];simp;omega,Bool.not_not]
   go_enter Tryz.func167,Tryz.ntmps167
   go_wp2
   go_ret
   exact⟨rfl,rfl⟩
theorem bidx_any(A:Option Addr)(n c:Nat)(xs:List Int)(w:World)(h:Rd .i64 w A n c xs) :
 Calls Tryz.prog 163 #[.slice A n c,.func (.func 167) #[] #[]] w (SPost (SoftB xs) w):=by
 have hbd:=h.bd.1
 go_enter Tryz.func163,Tryz.ntmps163
 go_wp2
 go_loop [8] (fun i=>SIdx n xs i) (fun i=>n - (intOf i).toNat)
 case atStart=>exact⟨0,by omega,rfl,by intro q hq;omega⟩
 case round =>
  obtain⟨j,hj,rfl,hv⟩:=hrel
  by_cases hlt:j<n
  · have hc:=Rd.cell h hlt
    have hix:=fun W=>Rdv.ix h el22 hlt .i64 W
    have HV:=Lib.hid hv;clear hv
    by_cases h1:-127≤gi xs j∧gi xs j≤127
    · have h1':(!decide (-127≤gi xs j∧gi xs j≤127))=false:=by simp;omega
      have H1:=Lib.hid h1;clear h1
      go_wp2_with (go_at_call 167;refine(bsoft_any _ _).mono ?_;rintro e w' ⟨rfl,rfl⟩;rw [h1'])
      go_round
      case rel=>exact⟨j+1,by omega,by go_num,fun q hq=>lt_succ_cases HV.out H1.out q hq⟩
      case measure=>simp [intOf];omega
    · have h1':(!decide (-127≤gi xs j∧gi xs j≤127))=true:=by simp;omega
      have hf:=Lib.hid (softB_f (by rw [h.len];exact hlt) h1)
      clear h1
      go_wp2_with (go_at_call 167;refine(bsoft_any _ _).mono ?_;rintro e w' ⟨rfl,rfl⟩;rw [h1'])
      go_ret
      exact⟨_,rfl,by rw [hf.out];simp,rfl⟩
  · have hf:=Lib.hid (softB_t (xs:=xs) (by rw [h.len];intro q hq;exact hv q (by omega)))
    clear hv
    go_wp2
    go_ret
    exact⟨_,rfl,by rw [hf.out];simp,rfl⟩
theorem bcont_any(A:Option Addr)(n c:Nat)(xs:List Int)(w:World)(h:Rd .i64 w A n c xs) :
 Calls Tryz.prog 109 #[.slice A n c,.func (.func 167) #[] #[]] w fun e w'=>e= .returned (.bool (!SoftB xs))∧w=w':=by
 go_enter Tryz.func109,Tryz.ntmps109
 go_wp2_with (go_at_call 163;refine(bidx_any A n c xs w h).mono ?_;rintro e w' ⟨r,rfl,hr,rfl⟩)
 go_ret
 refine⟨ret_bool ?_,rfl⟩
 cases hv:SoftB xs<;>simp_all
def PkII(w:World)(n:Nat)(Am:Option Addr)(g:Int→Int)(l:List Int)(i:Value)(wr:World):Prop:=∃ (j:Nat) (cur:List Int),j≤n∧i= .int .i64 (j:Int)∧Own .i64 3 wr w.heap.size Am n n cur∧(∀ q,q<j→gi cur q=g (gi l q))∧Below w.heap.size w wr
theorem pickedA_any(p1:Value)(g:Int→Int)(A:Option Addr)(n c:Nat)(l:List Int)(w:World)(hl:Rd .i64 w A n c l)(hn:n≤100000)
 (hcl:∀ j,j<n→∀ wr,Below w.heap.size w wr→Calls Tryz.prog 223 #[.int .i64 (gi l j),p1] wr fun e w'=>e= .returned (.int .i64 (g (gi l j)))∧wr=w') :
 Calls Tryz.prog 175 #[.func (.func 223) #[] #[p1],.slice A n c] w fun e w'=>∃ A',e= .returned (.slice A' n n)∧Own .i64 3 w' w.heap.size A' n n (l.map g)∧Below w.heap.size w w':=by
 have HC:=Lib.hid hcl
 have HL:=Lib.hid hl
 have hll:=hl.len
 clear hcl hl
 go_enter Tryz.func175,Tryz.ntmps175
 go_wp2_with (at_make;refine list_of rfl fun K hK=>wp_mk (n:=n) _ _ 39 rfl el22 rfl rfl (by omega) (by unfold maxLen;omega) ?_
              intro Am w3 hO3 hB3 hA
              have HO3:=Lib.hid hO3
              have HB3:=Lib.hid hB3
              clear hO3 hB3 hA
              refine hK _ _ ?_
              clear hK K)
 go_loopw [13] (fun i wr=>PkII w n Am g l i wr) (fun i _=>n - (intOf i).toNat)
 case atStart=>exact⟨0,List.replicate n 0,Nat.zero_le _,rfl,by have:=HO3.out;unfold Own;simpa using this,fun q hq=>by omega,HB3.out⟩
 case round =>
  obtain⟨j,cur,hj,rfl,hO,hsame,hB⟩:=hrel
  have HB:=Lib.hid hB
  have HS:=Lib.hid hsame
  by_cases hlt:j<n
  · have hrl:=Rdv.below HL.out hB
    have cl:=Rd.cell hrl hlt
    have il:=fun W=>Rdv.ix hrl el22 hlt .i64 W
    have hcu:=Rd.cell (Own.rd hO) hlt
    have hfu:=Ownv.frozen hO (by omega) j
    have hiu:=fun W=>Rdv.ix (Own.rd hO) el22 hlt .i64 W
    have hcall:=Lib.hid (HC.out j hlt wr hB)
    obtain⟨x,hx⟩:∃ x,gi l j=x:=⟨_,rfl⟩
    rw [hx]at cl hcall
    have HXE:=Lib.hid hx
    obtain⟨u,hu⟩:∃ u,g x=u:=⟨_,rfl⟩
    rw [hu]at hcall
    have HUE:=Lib.hid hu
    have HST:=Lib.hid (Own.set_ hO hlt u)
    have hbA:=(Ownv.blk_ge hO (by omega)).1
    have HB2:=Lib.hid (hB.grown (Own.set_ hO hlt u).2 hB.size (fun k e=>by cases e;exact hbA))
    have hcl:=Rd.len (Own.rd hO)
    clear hO hB hsame hx hu
    go_wp2_with fail
    refine hcall.out.mono ?_
    rintro e w4 ⟨rfl,rfl⟩
    go_wp2
    go_roundw
    case rel=>exact⟨j+1,cur.set j u,by omega,by go_num,HST.out.1,lt_succ_cases (fun q hq=>by rw [gi_set' _ _ _ _ (by omega),if_neg (by omega)];exact HS.out q hq) (by rw [gi_set' _ _ _ _ (by omega),if_pos rfl,HXE.out,HUE.out]),HB2.out⟩
    case measure=>simp [intOf];omega
  · obtain rfl:j=n:=by omega
    have hle:=Rd.len (Own.rd hO)
    have HLE:=Lib.hid (show cur=l.map g from ext_gi (by rw [List.length_map];omega) fun q hq=>by
     rw [hsame q (by omega),gi_eq (l.map g) q (by rw [List.length_map];omega),List.getElem_map,gi_eq l q (by omega)])
    have HO9:=Lib.hid hO
    clear hO hsame hle hB
    go_wp2
    go_ret
    exact⟨Am,rfl,by rw [← HLE.out];exact HO9.out,HB.out⟩
theorem pickedI_any(p1:Value)(g:Int→Int)(A:Option Addr)(n c:Nat)(l:List Int)(w:World)(hl:Rd .i64 w A n c l)(hn:n≤100000)
 (hcl:∀ j,j<n→∀ wr,Below w.heap.size w wr→Calls Tryz.prog 174 #[.int .i64 (gi l j),p1] wr fun e w'=>e= .returned (.int .i64 (g (gi l j)))∧wr=w') :
 Calls Tryz.prog 175 #[.func (.func 174) #[] #[p1],.slice A n c] w fun e w'=>∃ A',e= .returned (.slice A' n n)∧Own .i64 3 w' w.heap.size A' n n (l.map g)∧Below w.heap.size w w':=by
 have HC:=Lib.hid hcl
 have HL:=Lib.hid hl
 have hll:=hl.len
 clear hcl hl
 go_enter Tryz.func175,Tryz.ntmps175
 go_wp2_with (at_make;refine list_of rfl fun K hK=>wp_mk (n:=n) _ _ 39 rfl el22 rfl rfl (by omega) (by unfold maxLen;omega) ?_
              intro Am w3 hO3 hB3 hA
              have HO3:=Lib.hid hO3
              have HB3:=Lib.hid hB3
              clear hO3 hB3 hA
              refine hK _ _ ?_
              clear hK K)
 go_loopw [13] (fun i wr=>PkII w n Am g l i wr) (fun i _=>n - (intOf i).toNat)
 case atStart=>exact⟨0,List.replicate n 0,Nat.zero_le _,rfl,by have:=HO3.out;unfold Own;simpa using this,fun q hq=>by omega,HB3.out⟩
 case round =>
  obtain⟨j,cur,hj,rfl,hO,hsame,hB⟩:=hrel
  have HB:=Lib.hid hB
  have HS:=Lib.hid hsame
  by_cases hlt:j<n
  · have hrl:=Rdv.below HL.out hB
    have cl:=Rd.cell hrl hlt
    have il:=fun W=>Rdv.ix hrl el22 hlt .i64 W
    have hcu:=Rd.cell (Own.rd hO) hlt
    have hfu:=Ownv.frozen hO (by omega) j
    have hiu:=fun W=>Rdv.ix (Own.rd hO) el22 hlt .i64 W
    have hcall:=Lib.hid (HC.out j hlt wr hB)
    obtain⟨x,hx⟩:∃ x,gi l j=x:=⟨_,rfl⟩
    rw [hx]at cl hcall
    have HXE:=Lib.hid hx
    obtain⟨u,hu⟩:∃ u,g x=u:=⟨_,rfl⟩
    rw [hu]at hcall
    have HUE:=Lib.hid hu
    have HST:=Lib.hid (Own.set_ hO hlt u)
    have hbA:=(Ownv.blk_ge hO (by omega)).1
    have HB2:=Lib.hid (hB.grown (Own.set_ hO hlt u).2 hB.size (fun k e=>by cases e;exact hbA))
    have hcl:=Rd.len (Own.rd hO)
    clear hO hB hsame hx hu
    go_wp2_with fail
    refine hcall.out.mono ?_
    rintro e w4 ⟨rfl,rfl⟩
    go_wp2
    go_roundw
    case rel=>exact⟨j+1,cur.set j u,by omega,by go_num,HST.out.1,lt_succ_cases (fun q hq=>by rw [gi_set' _ _ _ _ (by omega),if_neg (by omega)];exact HS.out q hq) (by rw [gi_set' _ _ _ _ (by omega),if_pos rfl,HXE.out,HUE.out]),HB2.out⟩
    case measure=>simp [intOf];omega
  · obtain rfl:j=n:=by omega
    have hle:=Rd.len (Own.rd hO)
    have HLE:=Lib.hid (show cur=l.map g from ext_gi (by rw [List.length_map];omega) fun q hq=>by
     rw [hsame q (by omega),gi_eq (l.map g) q (by rw [List.length_map];omega),List.getElem_map,gi_eq l q (by omega)])
    have HO9:=Lib.hid hO
    clear hO hsame hle hB
    go_wp2
    go_ret
    exact⟨Am,rfl,by rw [← HLE.out];exact HO9.out,HB.out⟩
def PkBI(w:World)(n:Nat)(Am:Option Addr)(g:Int→Int)(l:List Int)(i:Value)(wr:World):Prop:=∃ (j:Nat) (cur:List Int),j≤n∧i= .int .i64 (j:Int)∧Own .u8 5 wr w.heap.size Am n n cur∧(∀ q,q<j→gi cur q=g (gi l q))∧Below w.heap.size w wr
theorem pickedB_any(p1:Value)(g:Int→Int)(A:Option Addr)(n c:Nat)(l:List Int)(w:World)(hl:Rd .i64 w A n c l)(hn:n≤100000)
 (hcl:∀ j,j<n→∀ wr,Below w.heap.size w wr→Calls Tryz.prog 173 #[.int .i64 (gi l j),p1] wr fun e w'=>e= .returned (.int .u8 (g (gi l j)))∧wr=w') :
 Calls Tryz.prog 176 #[.func (.func 173) #[] #[p1],.slice A n c] w fun e w'=>∃ A',e= .returned (.slice A' n n)∧Own .u8 5 w' w.heap.size A' n n (l.map g)∧Below w.heap.size w w':=by
 have HC:=Lib.hid hcl
 have HL:=Lib.hid hl
 have hll:=hl.len
 clear hcl hl
 go_enter Tryz.func176,Tryz.ntmps176
 go_wp2_with (at_make;refine list_of rfl fun K hK=>wp_mk (n:=n) _ _ 28 rfl el26 rfl rfl (by omega) (by unfold maxLen;omega) ?_
              intro Am w3 hO3 hB3 hA
              have HO3:=Lib.hid hO3
              have HB3:=Lib.hid hB3
              clear hO3 hB3 hA
              refine hK _ _ ?_
              clear hK K)
 go_loopw [13] (fun i wr=>PkBI w n Am g l i wr) (fun i _=>n - (intOf i).toNat)
 case atStart=>exact⟨0,List.replicate n 0,Nat.zero_le _,rfl,by have:=HO3.out;unfold Own;simpa using this,fun q hq=>by omega,HB3.out⟩
 case round =>
  obtain⟨j,cur,hj,rfl,hO,hsame,hB⟩:=hrel
  have HB:=Lib.hid hB
  have HS:=Lib.hid hsame
  by_cases hlt:j<n
  · have hrl:=Rdv.below HL.out hB
    have cl:=Rd.cell hrl hlt
    have il:=fun W=>Rdv.ix hrl el22 hlt .i64 W
    have hcu:=Rd.cell (Own.rd hO) hlt
    have hfu:=Ownv.frozen hO (by omega) j
    have hiu:=fun W=>Rdv.ix (Own.rd hO) el26 hlt .i64 W
    have hcall:=Lib.hid (HC.out j hlt wr hB)
    obtain⟨x,hx⟩:∃ x,gi l j=x:=⟨_,rfl⟩
    rw [hx]at cl hcall
    have HXE:=Lib.hid hx
    obtain⟨u,hu⟩:∃ u,g x=u:=⟨_,rfl⟩
    rw [hu]at hcall
    have HUE:=Lib.hid hu
    have HST:=Lib.hid (Own.set_ hO hlt u)
    have hbA:=(Ownv.blk_ge hO (by omega)).1
    have HB2:=Lib.hid (hB.grown (Own.set_ hO hlt u).2 hB.size (fun k e=>by cases e;exact hbA))
    have hcl:=Rd.len (Own.rd hO)
    clear hO hB hsame hx hu
    go_wp2_with fail
    refine hcall.out.mono ?_
    rintro e w4 ⟨rfl,rfl⟩
    go_wp2
    go_roundw
    case rel=>exact⟨j+1,cur.set j u,by omega,by go_num,HST.out.1,lt_succ_cases (fun q hq=>by rw [gi_set' _ _ _ _ (by omega),if_neg (by omega)];exact HS.out q hq) (by rw [gi_set' _ _ _ _ (by omega),if_pos rfl,HXE.out,HUE.out]),HB2.out⟩
    case measure=>simp [intOf];omega
  · obtain rfl:j=n:=by omega
    have hle:=Rd.len (Own.rd hO)
    have HLE:=Lib.hid (show cur=l.map g from ext_gi (by rw [List.length_map];omega) fun q hq=>by
     rw [hsame q (by omega),gi_eq (l.map g) q (by rw [List.length_map];omega),List.getElem_map,gi_eq l q (by omega)])
    have HO9:=Lib.hid hO
    clear hO hsame hle hB
    go_wp2
    go_ret
    exact⟨Am,rfl,by rw [← HLE.out];exact HO9.out,HB.out⟩
theorem elV:El Tryz.prog 190 3 (.int .i64 0) 8:=⟨by kernel_rfl,by kernel_rfl,fun _=>by kernel_rfl,rfl⟩
theorem at1_any(B:Nat)(V:Option Addr)(n c:Nat)(vs:List Int)(i:Int)(w:World)(h:Rd .i64 w V n c vs)(hb:w.cell? ⟨B,0,none⟩=some (.slice V n c))(hi:0≤i∧i<n) :
 Calls Tryz.prog 223 #[.int .i64 i,.pointer (some ⟨B,0,none⟩)] w fun e w'=>e= .returned (.int .i64 (gi vs i.toNat))∧w=w':=by
 obtain⟨j,rfl⟩:∃ j:Nat,i=(j:Int):=⟨i.toNat,by omega⟩
 have hj:j<n:=by omega
 have hc:=Rd.cell h hj
 have hix:=fun W=>Rdv.ix h elV hj .i64 W
 rw [Int.toNat_natCast]
 clear hi
 go_enter Tryz.func223,Tryz.ntmps223
 go_wp2
 go_ret
 exact⟨rfl,rfl⟩
theorem at_any(V L:Option Addr)(n c m d:Nat)(vs l:List Int)(w:World)(h:Rd .i64 w V n c vs)(hl:Rd .i64 w L m d l)(hm:m≤100000)(hi:∀ j,j<m→0≤gi l j∧gi l j<(n:Int)) :
 Calls Tryz.prog 172 #[.slice V n c,.slice L m d] w fun e w'=>∃ A',e= .returned (.slice A' m m)∧Own .i64 3 w' w.heap.size A' m m (pk vs l)∧Below w.heap.size w w':=by
 have hsl:=fun W=>Rdv.slhm hl el22 .i64 .i64 (Rdv.le hl) W
 have HB0:=Lib.hid (bal (Below.refl _ w) (.cells #[.slice V n c] 190))
 have HK0:Hid ((w.alloc (.cells #[.slice V n c] 190)).cell? ⟨w.heap.size,0,none⟩=some (.slice V n c)):=Lib.hid ((Blk.new w [.slice V n c] 190 rfl).cell rfl)
 have H1:=Lib.hid (h.alloc (.cells #[.slice V n c] 190))
 have HL1:=Lib.hid ((Rdv.capn hl).alloc (.cells #[.slice V n c] 190))
 have HI:=Lib.hid hi
 clear hi h hl
 go_enter Tryz.func172,Tryz.ntmps172
 go_wp2_with fail
 refine(pickedA_any (.pointer (some ⟨w.heap.size,0,none⟩)) (fun i=>gi vs i.toNat) L m m l _ HL1.out hm (fun j hj wr hB=>at1_any w.heap.size V n c vs _ wr (Rdv.below H1.out hB) (cell_below HK0.out hB) (HI.out j hj))).mono ?_
 rintro e w1 ⟨A',rfl,hO,hB⟩
 have HO:=Lib.hid (Ownv.mono hO (show w.heap.size≤_ from HB0.out.size))
 have HB:=Lib.hid (HB0.out.trans (hB.mono HB0.out.size))
 clear hO hB
 go_wp2
 go_ret
 exact⟨A',rfl,HO.out,HB.out⟩
section
variable {P : Program} {ops : Array Oper} {Q : Exit → Act → World → Prop} {md : Region.Mode} {S : World → Prop} {p : Nat}
def ClosedR(md:Region.Mode)(ops:Array Oper)(listed:Array Bool):Prop:=∀ j oj,ops[j]?=some oj→listed.getD j true=true→∀ e ∈ oj.after,Region.binds md e=true→listed.getD e.on true=true
def closedB(md:Region.Mode)(ops:Array Oper)(listed:Array Bool):Bool:=(List.range ops.size).all fun j=>match ops[j]? with
 | some oj=>!listed.getD j true || oj.after.all fun e=>!Region.binds md e || listed.getD e.on true
 | none=>true
theorem closedB_spec{listed:Array Bool}(h:closedB md ops listed=true):ClosedR md ops listed:=by
 intro j oj hj hl e he hb
 unfold closedB at h
 rw [List.all_eq_true]at h
 have h1:=h j (by simpa using (Array.getElem?_eq_some_iff.1 hj).1)
 simp only [hj,hl,Bool.not_true,Bool.false_or]at h1
 obtain⟨q,hq,rfl⟩:=Array.mem_iff_getElem.1 he
 have h2:=(Array.all_eq_true.1 h1) q hq
 simpa [hb] using h2
theorem getD_both_true{listed:Array Bool}{i:Nat}(h:listed.getD i false=true):listed.getD i true=true:=by
 by_cases hi:i<listed.size
 · simpa [Array.getD,hi] using h
 · simp [Array.getD,hi]
theorem closed_set{listed:Array Bool}(h:ClosedR md ops listed){i:Nat}(hi:i ∈ Region.ready md ops listed):ClosedR md ops (listed.setIfInBounds i true):=by
 intro j oj hj hl e he hb
 have up:∀ q,listed.getD q true=true→(listed.setIfInBounds i true).getD q true=true:=fun q hq=>by
  by_cases e:i=q
  · subst e
    by_cases hs:i<listed.size
    · simp [Array.getD,hs]
    · simp [Array.getD,hs]
  · rw [getD_set_ne true e];exact hq
 by_cases hji:i=j
 · subst hji
   obtain⟨_,o',ho',hall⟩:=mem_ready.1 hi
   have:oj=o':=Option.some.inj (hj.symm.trans ho')
   subst this
   exact up _ (getD_both_true (hall e he hb))
 · rw [getD_set_ne true hji]at hl
   exact up _ (h j oj hj hl e he hb)
def pathB(md:Region.Mode)(ops:Array Oper)(i:Nat):Nat→List Nat→Bool
 | q,[]=>Region.waitsFor md ops q i
 | q,x :: xs=>Region.waitsFor md ops q x && pathB md ops i x xs
theorem path_listed{i:Nat}{listed:Array Bool}(hc:ClosedR md ops listed):∀ (xs:List Nat) (q:Nat),pathB md ops i q xs=true→(∃ oq,ops[q]?=some oq)→listed.getD q true=true→listed.getD i true=true
 | [],q,h,_,hq=>by
   obtain⟨oj,hoj,e,he,hb,hon⟩:=Region.waitsFor_spec h
   rw [← hon];exact hc q oj hoj hq e he hb
 | x :: xs,q,h,_,hq=>by
   simp only [pathB,Bool.and_eq_true]at h
   obtain⟨oj,hoj,e,he,hb,hon⟩:=Region.waitsFor_spec h.1
   have hx:listed.getD x true=true:=by rw [← hon];exact hc q oj hoj hq e he hb
   cases xs with
   | nil =>
     obtain⟨ox,hox,-⟩:=Region.waitsFor_spec h.2
     exact path_listed hc [] x h.2 ⟨ox,hox⟩ hx
   | cons y ys =>
     have h3:=h.2
     simp only [pathB,Bool.and_eq_true]at h3
     obtain⟨ox,hox,-⟩:=Region.waitsFor_spec h3.1
     exact path_listed hc (y :: ys) x h.2 ⟨ox,hox⟩ hx
theorem not_ready_path{i:Nat}{listed:Array Bool}{xs:List Nat}(hc:ClosedR md ops listed)(hp:pathB md ops i p xs=true)(hun:listed.getD i true=false):p ∉ Region.ready md ops listed:=by
 intro hr
 obtain⟨_,oj,hoj,hall⟩:=mem_ready.1 hr
 have key:listed.getD i true=true:=by
  cases xs with
  | nil =>
    obtain⟨oj',hoj',e,he,hb,hon⟩:=Region.waitsFor_spec hp
    have:oj=oj':=Option.some.inj (hoj.symm.trans hoj')
    subst this
    rw [← hon];exact getD_both_true (hall e he hb)
  | cons x xs =>
    simp only [pathB,Bool.and_eq_true]at hp
    obtain⟨oj',hoj',e,he,hb,hon⟩:=Region.waitsFor_spec hp.1
    have:oj=oj':=Option.some.inj (hoj.symm.trans hoj')
    subst this
    have hx:listed.getD x true=true:=by rw [← hon];exact getD_both_true (hall e he hb)
    have hex:∃ ox,ops[x]?=some ox:=by
     cases xs with
     | nil =>
       obtain⟨ox,hox,-⟩:=Region.waitsFor_spec hp.2
       exact⟨ox,hox⟩
     | cons y ys =>
       have h3:=hp.2
       simp only [pathB,Bool.and_eq_true]at h3
       obtain⟨ox,hox,-⟩:=Region.waitsFor_spec h3.1
       exact⟨ox,hox⟩
    exact path_listed hc xs x hp.2 hex hx
 rw [key]at hun
 cases hun
theorem wpAnyP_firstT{i:Nat}{oi:Oper}{v:Value}{xs:List Nat}(hi:ops[i]?=some oi)(hsel:∀ (j:Nat) (o:Oper) cs b,ops[j]?=some o→o.op≠.select cs b)
 (hQ:∀ c a w,Q (.panic c) (a.put oi.dst v) w→Q (.panic c) a w) (hw:pathB md ops i p xs=true) (hip:p≠i) :
 ∀ (fuel:Nat) (listed:Array Bool) (a:Act) (w:World),ClosedR md ops listed →
  (∀ j oj,ops[j]?=some oj→j≠i→listed.getD j true=false→(∀ e ∈ oj.after,Region.binds md e=true→e.on≠i)→oi.apart ops oj=true) →
  i ∈ Region.ready md ops listed→YieldsIf P ops S oi v a→listed.getD p true=false→S w →
  wpAnyP P md ops Q S p fuel (listed.setIfInBounds i true) (a.put oi.dst v) w→wpAnyP P md ops Q S p (fuel+1) listed a w:=by
 intro fuel
 induction fuel with
 | zero =>
   intro listed a w hc _ hr hy hp hS H
   refine⟨fun h=>(by rw [h]at hr;cases hr),fun j hj=>?_⟩
   by_cases hji:j=i
   · subst hji;exact hy.wpOp hi hS ⟨fun _=>hS,H⟩
   · have:=ready_mono hj hji
     rw [H.1]at this
     cases this
 | succ fuel ih =>
   intro listed a w hc hfree hr hy hp hS H
   refine⟨fun h=>(by rw [h]at hr;cases hr),fun j hj=>?_⟩
   by_cases hji:j=i
   · subst hji;exact hy.wpOp hi hS ⟨fun _=>hS,H⟩
   · have hun:=(mem_ready.1 hr).1
     have h1:=H.2 j (ready_mono hj hji)
     obtain⟨hjun,oj,hoj,hall⟩:=mem_ready.1 hj
     have hnot:∀ e ∈ oj.after,Region.binds md e=true→e.on≠i:=fun e he hb heq=>by
      have h9:=hall e he hb
      rw [heq,getD_both hun]at h9
      cases h9
     have h2:=wpOp_putIf hoj (hfree j oj hoj hji hjun hnot) (fun cs b=>hsel i oi cs b hi) (fun cs b=>hsel j oj cs b hoj) hQ hy h1
     have hfree':∀ k ok,ops[k]?=some ok→k≠i→(listed.setIfInBounds j true).getD k true=false →
      (∀ e ∈ ok.after,Region.binds md e=true→e.on≠i)→oi.apart ops ok=true:=fun k ok hk hki hun' hno=>hfree k ok hk hki (getD_unset hun') hno
     refine wpOp_mono (fun a' w' h3=>?_) h2
     have hjp:j≠p:=fun e=>not_ready_path hc hw hun (e ▸ hj)
     have hpp:(listed.setIfInBounds j true).getD p true=false:=by rw [getD_set_ne true hjp];exact hp
     have hS':S w':=h3.2.1 (by rw [Array.setIfInBounds_comm _ _ (Ne.symm hji),getD_set_ne true (Ne.symm hip)];exact hpp)
     refine⟨fun _=>hS',ih (listed.setIfInBounds j true) a' w' (closed_set hc hj) hfree' (ready_mono hr (Ne.symm hji)) h3.1 hpp hS' ?_⟩
     rw [Array.setIfInBounds_comm _ _ hji]
     exact h3.2.2
theorem P_takeT(i d:Nat)(v:Value)(l':Array Bool)(xs:List Nat){oi:Oper}{fuel:Nat}{listed:Array Bool}{ts:Array Value}{ds:List Deferred}{w:World}(hi:ops[i]?=some oi)(hd:oi.dst=some d)(hl:listed.setIfInBounds i true=l')
 (hs:Region.noSelect ops=true) (hf:Region.free md ops listed i=true) (hr:(Region.ready md ops listed).contains i=true) (hz:pathB md ops i p xs=true) (hc:closedB md ops listed=true) (hp:listed.getD p true=false) (hip:p≠i)
 (hQ:∀ c a w,Q (.panic c) (a.put oi.dst v) w→Q (.panic c) a w) (hy:YieldsIf P ops S oi v ⟨ts,ds⟩) (hS:S w)
 (h:wpAnyP P md ops Q S p fuel l' ⟨ts.setIfInBounds d v,ds⟩ w):wpAnyP P md ops Q S p (fuel+1) listed ⟨ts,ds⟩ w:=by
 subst hl
 refine wpAnyP_firstT hi (Region.noSelect_spec hs) hQ hz hip fuel listed _ w (closedB_spec hc) (Region.free_spec hi hf) (by simpa using hr) hy hp hS ?_
 rw [hd];exact h
theorem P_twoS(i j:Nat)(l1 l2:Array Bool){oi oj:Oper}{fuel:Nat}{listed:Array Bool}{a:Act}{w:World}(hi:ops[i]?=some oi)(hj:ops[j]?=some oj)(e1:listed.setIfInBounds i true=l1)(e2:listed.setIfInBounds j true=l2)(hr:Region.ready md ops listed=[i,j])(gi:oi.guard=none)(gj:oj.guard=none)
 (h1:∀ K:Act→World→Prop,(∀ a' w',S w'→wpAnyP P md ops Q S p fuel l1 a' w'→K a' w')→oi.wp P a w K Q)
 (h2:∀ K:Act→World→Prop,(∀ a' w',S w'→wpAnyP P md ops Q S p fuel l2 a' w'→K a' w')→oj.wp P a w K Q):wpAnyP P md ops Q S p (fuel+1) listed a w:=by
 subst e1;subst e2
 refine⟨fun h0=>(by rw [hr]at h0;cases h0),fun q hq=>?_⟩
 rw [hr]at hq
 simp only [List.mem_cons,List.not_mem_nil,or_false]at hq
 rcases hq with rfl | rfl
 · unfold wpOp
   simp only [hi]
   rw [if_pos (by simp [Region.wanted,gi])]
   exact .inl (h1 _ fun _ _ q1 q2=>⟨fun _=>q1,q2⟩)
 · unfold wpOp
   simp only [hj]
   rw [if_pos (by simp [Region.wanted,gj])]
   exact .inl (h2 _ fun _ _ q1 q2=>⟨fun _=>q1,q2⟩)
end
def noPanic(Q:Exit→Act→World→Prop):Exit→Act→World→Prop
 | .panic _,_,_=>False
 | e,a,w=>Q e a w
theorem wp_nopanic{P:Program}{c:Code}{Q:Exit→Act→World→Prop}{a:Act}{w:World}(h:c.wp P (noPanic Q) a w):c.wp P Q a w :=
 Code.wp_mono (fun e a w h=>by cases e<;>first | exact h | exact h.elim) h
theorem noPanic_normal{Q:Exit→Act→World→Prop}{a:Act}{w:World}(h:Q .normal a w):noPanic Q .normal a w:=h
def bz(n m:Nat):Array Bool:=((List.range n).map m.testBit).toArray
theorem z0{α:Type}{l:List α}{i:Nat}{a:α}:l.toArray.setIfInBounds i a=(l.set i a).toArray:=List.setIfInBounds_toArray _ _ _
theorem z1{α:Type}{x a:α}{xs:List α}:(x :: xs).set 0 a=a :: xs:=List.set_cons_zero
theorem z2{α:Type}{x a:α}{xs:List α}{n:Nat}:(x :: xs).set (n+1) a=x :: xs.set n a:=List.set_cons_succ
def ckI(md:Region.Mode)(ops:Array Oper)(n m m' i:Nat):Bool:=decide ((bz n m).setIfInBounds i true=bz n m') && (Region.ready md ops (bz n m)).contains i
def ckD(ops:Array Oper)(i d:Nat):Bool:=match ops[i]? with
 | some o=>decide (o.dst=some d)
 | none=>false
def ckW(md:Region.Mode)(ops:Array Oper)(p n m m' i d:Nat):Bool:=ckI md ops n m m' i && ckD ops i d && Region.noSelect ops && Region.free md ops (bz n m) i && decide (p≠i)
def ckT(md:Region.Mode)(ops:Array Oper)(p n m m' i d:Nat)(xs:List Nat):Bool:=ckW md ops p n m m' i d && pathB md ops i p xs && closedB md ops (bz n m) && decide ((bz n m).getD p true=false)
def ckO(md:Region.Mode)(ops:Array Oper)(n m m' i:Nat):Bool:=decide ((bz n m).setIfInBounds i true=bz n m') && decide (Region.ready md ops (bz n m)=[i])
section
variable {P : Program} {ops : Array Oper} {Q : Exit → Act → World → Prop} {md : Region.Mode} {S : World → Prop} {p n m fuel : Nat} {ts : Array Value} {ds : List Deferred} {w : World} {oi : Oper} {a : Act}
theorem ckD_of{i d:Nat}(h:ckD ops i d=true)(hi:ops[i]?=some oi):oi.dst=some d:=by
 unfold ckD at h;rw [hi]at h;exact of_decide_eq_true h
theorem ckW_of{m' i d:Nat}(h:ckW md ops p n m m' i d=true)(hi:ops[i]?=some oi):((bz n m).setIfInBounds i true=bz n m'∧(Region.ready md ops (bz n m)).contains i=true)∧oi.dst=some d∧Region.noSelect ops=true∧Region.free md ops (bz n m) i=true∧p≠i:=by
 unfold ckW at h
 simp only [Bool.and_eq_true,decide_eq_true_eq,ckI]at h
 obtain⟨⟨⟨⟨⟨h1,h2⟩,h3⟩,h4⟩,h5⟩,h6⟩:=h
 exact⟨⟨h1,h2⟩,ckD_of h3 hi,h4,h5,h6⟩
theorem Q_start{id:Nat}(S:World→Prop)(p n:Nat)(h:wpAnyP P .any ops (noPanic Q) S p n (bz n 0) a w.drew)(hn:ops.size=n:=by kernel_rfl)(hl:Array.replicate n false=bz n 0:=by kernel_rfl)(hm:P.follows .mixedOrders=true:=by kernel_rfl):(Code.region id ops true).wp P Q a w :=
 wp_nopanic (P_start S p n (bz n 0) hn hl hm h)
theorem Q_W(i d m':Nat)(v:Value)(hi:ops[i]?=some oi)(hS:S w)(h:wpAnyP P md ops (noPanic Q) S p fuel (bz n m') ⟨ts.setIfInBounds d v,ds⟩ w)
 (hc:ckW md ops p n m m' i d=true:=by kernel_rfl) (hy:YieldsIf P ops (fun _=>True) oi v ⟨ts,ds⟩:=by exact .inl ⟨by rfl,fun _ _=>by go_simp⟩):wpAnyP P md ops (noPanic Q) S p (fuel+1) (bz n m) ⟨ts,ds⟩ w:=by
 obtain⟨⟨h1,h2⟩,h3,h4,h5,h6⟩:=ckW_of hc hi
 exact P_takeW i d v _ hi h3 h1 h4 h5 h2 h6 (fun _ _ _ h=>h) hy hS h
theorem Q_T(i d m':Nat)(v:Value)(xs:List Nat)(hi:ops[i]?=some oi)(hS:S w)(hy:YieldsIf P ops S oi v ⟨ts,ds⟩)(h:wpAnyP P md ops (noPanic Q) S p fuel (bz n m') ⟨ts.setIfInBounds d v,ds⟩ w)
 (hc:ckT md ops p n m m' i d xs=true:=by kernel_rfl):wpAnyP P md ops (noPanic Q) S p (fuel+1) (bz n m) ⟨ts,ds⟩ w:=by
 unfold ckT at hc
 simp only [Bool.and_eq_true,decide_eq_true_eq]at hc
 obtain⟨⟨⟨hc,g1⟩,g2⟩,g3⟩:=hc
 obtain⟨⟨h1,h2⟩,h3,h4,h5,h6⟩:=ckW_of hc hi
 exact P_takeT i d v _ xs hi h3 h1 h4 h5 h2 g1 g2 g3 h6 (fun _ _ _ h=>h) hy hS h
theorem Q_X(i d m':Nat)(v:Value)(hi:ops[i]?=some oi)(h:wpAnyP P md ops (noPanic Q) S p fuel (bz n m') ⟨ts.setIfInBounds d v,ds⟩ w)
 (hc:ckW md ops p n m m' i d=true:=by kernel_rfl) (hp:(bz n m).getD p true=true:=by kernel_rfl) (hy:YieldsIf P ops (fun _=>True) oi v ⟨ts,ds⟩:=by exact .inl ⟨by rfl,fun _ _=>by go_simp⟩):wpAnyP P md ops (noPanic Q) S p (fuel+1) (bz n m) ⟨ts,ds⟩ w:=by
 obtain⟨⟨h1,h2⟩,h3,h4,h5,h6⟩:=ckW_of hc hi
 exact P_takeX i d v _ hi h3 h1 h4 h5 h2 h6 (fun _ _ _ h=>h) hy hp h
theorem Q_1(i m':Nat)(hi:ops[i]?=some oi)(h:∀ K:Act→World→Prop,(∀ a' w',wpAnyP P md ops Q S p fuel (bz n m') a' w'→K a' w')→oi.wp P a w K Q)
 (hc:ckO md ops n m m' i=true:=by kernel_rfl) (hg:Region.wanted oi (yielded ops a.tmps)=true:=by rfl) (hp:(bz n m').getD p true=true:=by kernel_rfl):wpAnyP P md ops Q S p (fuel+1) (bz n m) a w:=by
 unfold ckO at hc
 simp only [Bool.and_eq_true,decide_eq_true_eq]at hc
 exact P_oneG i _ hi hc.1 hc.2 hg hp h
theorem Q_1S(i m':Nat)(hi:ops[i]?=some oi)(h:∀ K:Act→World→Prop,(∀ a' w',S w'→wpAnyP P md ops Q S p fuel (bz n m') a' w'→K a' w')→oi.wp P a w K Q)
 (hc:ckO md ops n m m' i=true:=by kernel_rfl) (hg:oi.guard=none:=by rfl):wpAnyP P md ops Q S p (fuel+1) (bz n m) a w:=by
 unfold ckO at hc
 simp only [Bool.and_eq_true,decide_eq_true_eq]at hc
 exact P_oneS i _ hi hc.1 hc.2 hg h
theorem Q_2S(i j m1 m2:Nat){oj:Oper}(hi:ops[i]?=some oi)(hj:ops[j]?=some oj)
 (h1:∀ K:Act→World→Prop,(∀ a' w',S w'→wpAnyP P md ops Q S p fuel (bz n m1) a' w'→K a' w')→oi.wp P a w K Q)
 (h2:∀ K:Act→World→Prop,(∀ a' w',S w'→wpAnyP P md ops Q S p fuel (bz n m2) a' w'→K a' w')→oj.wp P a w K Q)
 (e1:(bz n m).setIfInBounds i true=bz n m1:=by kernel_rfl) (e2:(bz n m).setIfInBounds j true=bz n m2:=by kernel_rfl) (hr:Region.ready md ops (bz n m)=[i,j]:=by kernel_rfl) (gi:oi.guard=none:=by rfl) (gj:oj.guard=none:=by rfl):wpAnyP P md ops Q S p (fuel+1) (bz n m) a w :=
 P_twoS i j _ _ hi hj e1 e2 hr gi gj h1 h2
theorem Q_end(h:Q .normal a w)(hr:Region.ready md ops (bz n m)=[]:=by kernel_rfl):wpAnyP P md ops (noPanic Q) S p fuel (bz n m) a w:=P_done hr (noPanic_normal h) fuel
end
def Ob.eT(o:Ob)(i:Nat):Int:=ext (o.tot i - gi o.s i - gi o.a i)
def Ob.bT(o:Ob)(i:Nat):Int:=if o.tot i<0 then 1 else 0
section
variable {w W W' : World} {bf bg N bA cap b6 b12 B0 : Nat} {o : Ob} {vs vs' : List Value} {r1 r2 r3 q1 q2 q3 : RowD}
end
section
variable {W : World} {B0 i gx : Nat} {v : Int} {A : Option Addr} {c : Nat} {r2 r3 : RowD} {op : Oper} {ts : Array Value} {ds : List Deferred} {K : Act → World → Prop} {Q : Exit → Act → World → Prop} {o : Ob}
end
def inW(bs:List Bool):List Bool:=bs ++ [tu (fin bs) 0,tu (fin bs) 1,tu (fin bs) 2]
def outW(bs:List Bool):List Bool:=parL s0 bs ++ [tz (fin bs) 0,tz (fin bs) 1,tz (fin bs) 2]
def bq(b:Bool):Nat:=if b then 1 else 0
theorem inW_len(bs:List Bool):(inW bs).length=bs.length+3:=by simp [inW]
/-! ### the two decoders in plain Lean -/
theorem gN_val(o:Ob)(i bit:Nat)(f g:List Int)(hf:∀ b ∈ brT,UU≤gi f b.fr)(hg:∀ b ∈ brT,UU≤gi g b.tt):gN o i bit f g 16=o.val i bit f g:=by
 have key:∀ (l:List Br),(∀ b ∈ l,b ∈ brT)→∀ best,UU≤best→l.foldl (fun best x=>max best (o.vX i bit f g x)) best=l.foldl (o.vB i bit f g) best∧True:=by
  intro l
  induction l with
  | nil=>intro _ best _;exact⟨rfl,trivial⟩
  | cons b l ih =>
    intro hl best hb
    have hb1:=hf b (hl b (by simp))
    have hb2:=hg b (hl b (by simp))
    have e:max best (o.vX i bit f g b)=o.vB i bit f g best b:=by
     unfold Ob.vX Ob.vB
     by_cases h1:b.bt=bit∧gi f b.fr≠UU∧gi g b.tt≠UU
     · rw [if_pos h1,if_pos ⟨h1.1,by omega,by omega⟩]
     · rw [if_neg h1,if_neg (fun h=>h1 ⟨h.1,by omega,by omega⟩)];omega
    simp only [List.foldl_cons]
    rw [e]
    refine ih (fun c hc=>hl c (by simp [hc])) _ ?_
    rw [← e];omega
 have e16:brT.take 16=brT:=rfl
 unfold gN Ob.val
 rw [e16]
 exact(key brT (fun _ h=>h) UU (Int.le_refl _)).1
theorem met_ge{B:Int}{m:List Int}(h:Met B m)(hB:B≤1125899906842624)(j:Nat)(hj:j<8):UU≤gi m j:=by
 have:=h.bd j hj
 rw [UU_eq]at *
 omega
theorem tN_tot{o:Ob}(h:o.ok)(i:Nat)(hi:i<o.s.length):o.tN i=o.tot i:=by
 have hl:=h.2.1
 have hl2:=h.2.2.1
 have hf:=f_met h i (by omega)
 have hb:=bd_met h (o.s.length - (i+1)) (by omega)
 unfold Ob.tN Ob.tot
 have q:∀ bit,gN o i bit (o.f i) (o.b (i+1)) 16=o.val i bit (o.f i) (o.b (i+1)):=fun bit =>
  gN_val o i bit _ _ (fun b hb'=>met_ge hf (by omega) _ (br_bd b hb').1) (fun b hb'=>met_ge hb (by omega) _ (br_bd b hb').2.2.2)
 rw [q,q]
theorem rows_same{o:Ob}(h:o.ok):(List.range o.a.length).map o.tN=(List.range o.a.length).map o.tot∧(List.range o.a.length).map o.eN=(List.range o.a.length).map o.eT∧(List.range o.a.length).map o.bN=(List.range o.a.length).map o.bT:=by
 have hl2:=h.2.2.1
 have hlt:∀ i,i ∈ List.range o.a.length→i<o.s.length:=fun i hi=>by
  have:i<o.a.length:=by simpa using hi
  omega
 refine⟨List.map_congr_left fun i hi=>tN_tot h i (hlt i hi),List.map_congr_left fun i hi=>?_,List.map_congr_left fun i hi=>?_⟩
 · unfold Ob.eN Ob.eT;rw [tN_tot h i (hlt i hi)]
 · unfold Ob.bN Ob.bT;rw [tN_tot h i (hlt i hi)]
open Classical in
noncomputable def Ob.dE (o:Ob):List Int:=if o.ok then(List.range o.a.length).map o.eT else []
open Classical in
noncomputable def Ob.dB (o:Ob):List Int:=if o.ok then(List.range o.a.length).map o.bT else []
/-! ### the examples -/
end Go.Proofs.YtkdfefpnhaebfaaGreat
