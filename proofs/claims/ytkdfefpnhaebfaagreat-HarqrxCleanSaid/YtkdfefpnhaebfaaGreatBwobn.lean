/- Bundle. Conditions: none. -/
import Derived.Test.YtkdfefpnhaebfaaGreatBwobm
import Derived.Test.YtkdfefpnhaebfaaGreatBwobd
set_option linter.unusedVariables false
set_option linter.unusedSimpArgs false
namespace Go.Proofs.YtkdfefpnhaebfaaGreat
open Go.RowKit
attribute [local go_sem] Oper.semAt_some
set_option maxRecDepth 100000
set_option maxHeartbeats 8000000
theorem Q_1SG{P:Program}{ops:Array Oper}{Q:Exit→Act→World→Prop}{md:Region.Mode}{S:World→Prop}{p n m fuel:Nat}{oi:Oper}{a:Act}{w:World}(i m':Nat)(hi:ops[i]?=some oi)(h:∀ K:Act→World→Prop,(∀ a' w',S w'→wpAnyP P md ops Q S p fuel (bz n m') a' w'→K a' w')→oi.wp P a w K Q)
 (hc:ckO md ops n m m' i=true:=by kernel_rfl) (hg:Region.wanted oi (yielded ops a.tmps)=true:=by rfl):wpAnyP P md ops Q S p (fuel+1) (bz n m) a w:=by
 unfold ckO at hc
 simp only [Bool.and_eq_true,decide_eq_true_eq]at hc
 refine⟨fun h0=>?_,fun j hj=>?_⟩
 · rw [hc.2]at h0
   cases h0
 · rw [hc.2]at hj
   have hj':j=i:=by simpa using hj
   subst hj'
   unfold wpOp
   simp only [hi]
   rw [if_pos hg,hc.1]
   exact .inl (h _ fun _ _ h1 h2=>⟨fun _=>h1,h2⟩)
theorem blk3{W:World}{b:Nat}{t:TypeId}{x y z:Value}{rest:List Value}(h:Blk W b t (x :: y :: z :: rest)):W.rangeAt b 0 [x,y,z]:=fun q v hv=>by
 rw [Nat.zero_add]
 refine h.cell ?_
 show([x,y,z] ++ rest)[q]?=some v
 rw [List.getElem?_append_left (List.getElem?_eq_some_iff.1 hv).1]
 exact hv
theorem blk_ty{W:World}{b b':Nat}{t t':TypeId}{cs cs':List Value}(h:Blk W b t cs)(h':Blk W b' t' cs')(ht:t≠t'):b≠b':=by
 rintro rfl
 have:=(show W.heap[b]?=_ from h).symm.trans h'
 simp only [Option.some.injEq,Obj.cells.injEq]at this
 exact ht this.2.1
def BtP(W:World)(R:Option Addr)(r rc:Nat)(b:Option (List Int)):Prop:=match b with
 | none=>R=none∧r=0∧rc=0
 | some x=>R≠none∧r≠0∧Rd .u8 W R r rc x
structure HqP (W:World) (base P:Nat) (half st sz lm:Int) (G cap D k f:Nat) (V:Option Addr) (vc:Nat) (vs:List Int) (cnt:Int) (R:Option Addr) (r rc:Nat) (rest:List Value) (b:Option (List Int)):Prop where
 a:PrB W base P half st sz lm G cap D ((k+f:Nat):Int) R r rc rest
 d:DmS W base D k f lm V vc vs cnt
 t:BtP W R r rc b
 n:R≠none→blk R≠blk V∧blk R≠D∧blk R≠G∧blk R≠P
section
variable {W W' : World} {base P : Nat} {half st sz lm : Int} {G cap D k f : Nat} {V : Option Addr} {vc : Nat} {vs : List Int} {cnt : Int} {R : Option Addr} {r rc : Nat} {rest : List Value} {b : Option (List Int)}
theorem BtP.keep(h:BtP W R r rc b)(hk:∀ x,Rd .u8 W R r rc x→Rd .u8 W' R r rc x):BtP W' R r rc b:=by
 cases b with
 | none=>exact h
 | some x=>exact⟨h.1,h.2.1,hk x h.2.2⟩
theorem BtP.some_iff(h:BtP W R r rc b):R.isSome=b.isSome:=by
 cases b with
 | none=>rw [h.1];rfl
 | some x=>cases R with
   | none=>exact absurd rfl h.1
   | some a=>rfl
theorem HqP.below(h:HqP W base P half st sz lm G cap D k f V vc vs cnt R r rc rest b)(hB:Below W.heap.size W W'):HqP W' base P half st sz lm G cap D k f V vc vs cnt R r rc rest b :=
 ⟨h.a.below hB,h.d.below hB,h.t.keep (fun x hx=>Rdv.below hx hB),h.n⟩
theorem HqP.ne(h:HqP W base P half st sz lm G cap D k f V vc vs cnt R r rc rest b):P≠D∧P≠G∧G≠D∧blk V≠P∧blk V≠G∧blk V≠D :=
 ⟨blk_ty h.a.p.p h.d.b (by decide),blk_ty h.a.p.p h.a.g (by decide),blk_ty h.a.g h.d.b (by decide),fun e=>own_ne_blk h.d.v h.a.p.p (by decide) h.d.ne (by rw [e]),fun e=>own_ne_blk h.d.v h.a.g (by decide) h.d.ne (by rw [e]),fun e=>own_ne_blk h.d.v h.d.b (by decide) h.d.ne (by rw [e])⟩
end
noncomputable def dcB (vs:List Int) (k f:Nat) (half:Int) (b:Option (List Int)):Option (List Int):=match b with
 | some x=>some x
 | none=>if Cr.knC vs (3*(k+4))<k+f then none else if itE vs 1 half=0 then some (itD vs 1 half) else none
theorem DmS.drew{W:World}{base D k f:Nat}{lim:Int}{V:Option Addr}{vc:Nat}{vs:List Int}{cnt:Int}(h:DmS W base D k f lim V vc vs cnt):DmS W.drew base D k f lim V vc vs cnt:=⟨h.b.drew,Ownv.drew h.v,h.d⟩
theorem rd_ne{kd:IntKind}{W:World}{A:Option Addr}{n c:Nat}{xs:List Int}(h:Rd kd W A n c xs)(hn:0<n):A≠none:=fun hA=>by
 have h1:=h.nil hA
 have h2:=h.le
 omega
theorem dBl{o:Ob}(h:o.ok):o.dB.length=o.a.length:=by unfold Ob.dB;rw [if_pos h];simp
theorem it_lenK{vs:List Int}{kind most:Int}(h:itE vs kind most=0)(hl:vs.length≤1500):(itD vs kind most).length=kOf vs∧40≤kOf vs:=by
 by_cases hE:wrE vs kind most=0
 · obtain⟨a1,a2,a3,a4,a5⟩:=wrE_zero hE
   have hb:=Tu.valid_bd a2
   unfold itE at h
   rw [if_pos hE]at h
   cases hf:fdN vs kind most with
   | none=>rw [hf]at h;exact absurd h (by decide)
   | some j =>
     have hk:kOf vs≤512:=by unfold kOf;omega
     refine⟨?_,by unfold kOf;omega⟩
     rw [(it_of rfl hE hf).2.2]
     unfold decN
     split
     · show(obN vs (kOf vs) j).dB.length=_
       rw [dBl (obN_ok a5 (by unfold kOf at hk ⊢;omega) j)]
       show(apN vs (kOf vs) j).length=_
       rw [(apN_ok vs (kOf vs) j).1]
     · rw [pk_len,inv_len]
 · unfold itE at h
   rw [if_neg hE]at h
   exact absurd h hE
theorem elPP:El Tryz.prog 89 39 (.slice none 0 0) 24:=⟨by kernel_rfl,by kernel_rfl,fun _=>by kernel_rfl,rfl⟩
theorem combine_any{w:World}{base P:Nat}{half st sz lm:Int}{G cap D k f:Nat}{V:Option Addr}{vc:Nat}{vs:List Int}{cnt:Int}{R:Option Addr}{r rc:Nat}{rest:List Value}{b:Option (List Int)}(hq:HqP w base P half st sz lm G cap D k f V vc vs cnt R r rc rest b)(hbs:base≤w.heap.size)
 (hk:40≤k∧k≤496) (hf:f<k) (hlm:1≤lm) (rv m:Nat) (hrv:rv≤3) (hm:m≤131072) (hc:0≤cnt∧cnt≤900000000) (hus:m=0∨Cr.usC ((Cr.bufL k f).take (Cr.szB k lm))≠0)
 (PA:Option Addr) (cP:Nat) (Q:Option Addr) (qc:Nat) (l:List Int) (hpa:Rdv w PA 1 cP [.slice Q m qc]) (hl:Rd .i64 w Q m qc l) (hs:SoftB l=true) (hQV:Q≠none→blk Q≠blk V) :
 Calls Tryz.prog 43 #[.pointer (some ⟨P,0,none⟩),.int .i64 (rv:Int),.slice PA 1 cP] w fun e w'=>(∃ v,e= .returned v)∧Below base w w'∧(∀ q,q<w.heap.size→q≠G→q≠D→q≠blk V→w'.heap[q]?=w.heap[q]?)∧∃ T R' r' rc',(Cr.selL ((Cr.bufL k f).take (Cr.szB k lm)) (Cr.stS k (Cr.szB k lm) rv) (Cr.szB k lm) T).length=m ∧
  HqP w' base P half st sz lm G cap D k f V vc (cmbL (Cr.selL ((Cr.bufL k f).take (Cr.szB k lm)) (Cr.stS k (Cr.szB k lm) rv) (Cr.szB k lm) T) l vs m) (cnt+m) R' r' rc' rest (dcB (cmbL (Cr.selL ((Cr.bufL k f).take (Cr.szB k lm)) (Cr.stS k (Cr.szB k lm) rv) (Cr.szB k lm) T) l vs m) k f half b):=by
 obtain⟨n1,n2,n3,n4,n5,n6⟩:=hq.ne
 have c4:=hq.a.p.p.cell (j:=4) (v:=.slice (some ⟨G,0,none⟩) 1 cap) rfl
 have hix:=fun W=>ixK G cap W
 have hpx:=fun W=>Rdv.ixI hpa elPP (j:=0) (by omega) .i64 0 rfl W
 have HS4:Hid (w.drew.cell? ⟨G,0,none⟩=some (.pointer (some ⟨D,0,none⟩))∧w.drew.cell? (adr PA 0)=some (.slice Q m qc)):=Lib.hid ⟨hq.a.g.cell rfl,hpa.at_ 0 _ rfl⟩
 have HAD:=Lib.hid (add_any rv Q m qc l w.drew hq.d.drew (Rdv.drew hl) hs hQV hbs hk.1 (by omega) hf hlm hrv hm (by omega))
 have HUS:=Lib.hid hus
 have HQ:=Lib.hid hq
 have HK9:=Lib.hid hk
 have HNE:=Lib.hid (And.intro n1 (And.intro n2 (And.intro n3 (And.intro n4 (And.intro n5 n6)))))
 have HSZ:=Lib.hid hbs
 obtain⟨nd,hnd⟩:∃ nd:Nat,nd=k+f:=⟨_,rfl⟩
 have HND:=Lib.hid hnd
 clear hq hpa hl hs hQV hk hf hlm hrv hm hc hus n1 n2 n3 n4 n5 n6 hbs hnd
 go_enter Tryz.func43,Tryz.ntmps43
 go_wp2_with fail
 refine wp_loop_rounds 3 ?_
 rw [rounds_succ]
 go_wp2_with fail
 refine Q_start (fun W9=>W9.cell? ⟨G,0,none⟩=some (.pointer (some ⟨D,0,none⟩))∧W9.cell? (adr PA 0)=some (.slice Q m qc)) 9 10 ?_
 refine Q_W 0 25 1 (.pointer (some ⟨G,0,none⟩)) rfl HS4.out ?_
 simp only [z0,z1,z2]
 refine Q_W 1 26 3 (.pointer (some ⟨G,0,none⟩)) rfl HS4.out ?_
 simp only [z0,z1,z2]
 refine Q_W 2 27 7 (.pointer (some ⟨G,0,none⟩)) rfl HS4.out ?_
 simp only [z0,z1,z2]
 refine Q_T 3 28 15 (.pointer (some ⟨D,0,none⟩)) [] rfl HS4.out (.inl ⟨by rfl,fun W hS=>by obtain⟨s0,s1⟩:=hS;go_simp⟩) ?_
 simp only [z0,z1,z2]
 refine Q_W 4 29 31 (.int .i64 (rv:Int)) rfl HS4.out ?_
 simp only [z0,z1,z2]
 refine Q_W 5 30 63 (.slice PA 1 cP) rfl HS4.out ?_
 simp only [z0,z1,z2]
 refine Q_W 6 31 127 (.int .i64 0) rfl HS4.out ?_
 simp only [z0,z1,z2]
 refine Q_W 7 32 255 (.pointer (some (adr PA 0))) rfl HS4.out ?_
 simp only [z0,z1,z2]
 refine Q_T 8 33 511 (.slice Q m qc) [] rfl HS4.out (.inl ⟨by rfl,fun W hS=>by obtain⟨s0,s1⟩:=hS;go_simp⟩) ?_
 simp only [z0,z1,z2]
 refine Q_1 9 1023 rfl (fun K hK=>?_)
 go_simp
 refine HAD.out.mono ?_
 rintro e w4 ⟨hB,hKp,hX⟩
 have hX2:∃ T vs2 v,e= .returned v∧(Cr.selL ((Cr.bufL k f).take (Cr.szB k lm)) (Cr.stS k (Cr.szB k lm) rv) (Cr.szB k lm) T).length=m∧vs2=cmbL (Cr.selL ((Cr.bufL k f).take (Cr.szB k lm)) (Cr.stS k (Cr.szB k lm) rv) (Cr.szB k lm) T) l vs m∧DmS w4 base D k f lm V vc vs2 (cnt+m):=by
  rcases hX with⟨h1,h2,-⟩ | ⟨-,T,hl2,he,hD6⟩
  · have h3:=HUS.out
    omega
  · exact⟨T,_,_,he,hl2,rfl,hD6⟩
 obtain⟨T,vs2,v,rfl,hT,hvs,hD4⟩:=hX2
 have HT:=Lib.hid (And.intro hT hvs)
 have HD4:=Lib.hid hD4
 have HKP:=Lib.hid hKp
 have HB4:Hid (Below base w w4):=Lib.hid ((Below.refl base w).drew.trans hB)
 clear hB hKp hX hT hvs hD4
 refine hK _ _ ?_
 clear hK K
 refine Q_end ?_
 obtain⟨m1,m2,m3,m4,m5,m6⟩:=HNE.out
 have hsz4:w.heap.size≤w4.heap.size:=HB4.out.size
 have hP4:PrP w4 base P half st sz lm (some ⟨G,0,none⟩) 1 cap:=⟨(HKP.out P HQ.out.a.p.p.lt m1 (fun e=>m4 e.symm)).trans HQ.out.a.p.p,HQ.out.a.p.d⟩
 have hG4:Blk w4 G 103 (.pointer (some ⟨D,0,none⟩) :: .int .i64 (nd:Int) :: .slice R r rc :: rest):=(HKP.out G HQ.out.a.g.lt m3 (fun e=>m5 e.symm)).trans (by rw [HND.out];exact HQ.out.a.g)
 have ht4:BtP w4 R r rc b:=by
  have h0:=HQ.out.t
  cases b with
  | none=>exact h0
  | some x=>exact⟨h0.1,h0.2.1,Cr.rd_heq h0.2.2 hsz4 (fun h=>HKP.out _ h (HQ.out.n h0.1).2.1 (HQ.out.n h0.1).1)⟩
 have HQ4:Hid (HqP w4 base P half st sz lm G cap D k f V vc vs2 (cnt+m) R r rc rest b):=Lib.hid ⟨⟨hP4,by rw [← HND.out];exact hG4,HQ.out.a.b⟩,HD4.out,ht4,HQ.out.n⟩
 have HS5:=Lib.hid hG4.drew
 have HG4:=Lib.hid hG4
 have HP4:=Lib.hid hP4
 have HD5:=Lib.hid (fun W (h:Below w4.heap.size w4 W)=>HD4.out.below h)
 have HW4:Hid (base≤w4.heap.size):=Lib.hid (Nat.le_trans HSZ.out hsz4)
 have HTR:=Lib.hid ht4.some_iff
 have HZ4:=Lib.hid hsz4
 clear m1 m2 m3 m4 m5 m6 hsz4 hP4 hG4 ht4 c4 hix hpx HAD HQ HS4 HNE
 cases b with
 | some x =>
   have HRS:Hid (R.isSome=true):=Lib.hid HTR.out
   go_wp2_with fail
   refine Q_start (fun W9=>Blk W9 G 103 (.pointer (some ⟨D,0,none⟩) :: .int .i64 (nd:Int) :: .slice R r rc :: rest)) 15 16 ?_
   refine Q_W 0 35 1 (.pointer (some ⟨G,0,none⟩)) rfl HS5.out ?_
   simp only [z0,z1,z2]
   refine Q_W 1 36 3 (.pointer (some ⟨G,0,none⟩)) rfl HS5.out ?_
   simp only [z0,z1,z2]
   refine Q_T 2 37 7 (.agg #[.pointer (some ⟨D,0,none⟩),.int .i64 (nd:Int),.slice R r rc]) [4,3] rfl HS5.out (yieldsIf_load_mid rfl 103 (.tmp 36) rfl G (0) rfl [.pointer (some ⟨D,0,none⟩),.int .i64 (nd:Int),.slice R r rc] _ (fun W hS=>blk3 hS) Tryz.underlying103 rfl (by rw [infoBk];rfl)) ?_
   simp only [z0,z1,z2]
   refine Q_1S 3 15 rfl (fun K hK=>?_)
   go_simp
   refine(decoded_any (.pointer (some ⟨D,0,none⟩)) (nd:Int) R r rc _).mono ?_
   rintro e w5 ⟨rfl,hB⟩
   have HS6:=Lib.hid (HS5.out.below hB)
   have HB5:=Lib.hid ((Below.refl _ w4).drew.trans hB)
   clear hB
   refine hK _ _ HS6.out ?_
   clear hK K
   rw [HRS.out]
   refine Q_W 4 39 31 (.bool true) rfl HS6.out ?_
   simp only [z0,z1,z2]
   refine Q_W 5 40 63 (undef) rfl HS6.out ?_ (hy:=.inr ⟨by rfl,rfl⟩)
   simp only [z0,z1,z2]
   refine Q_W 6 41 127 (undef) rfl HS6.out ?_ (hy:=.inr ⟨by rfl,rfl⟩)
   simp only [z0,z1,z2]
   refine Q_W 7 42 255 (undef) rfl HS6.out ?_ (hy:=.inr ⟨by rfl,rfl⟩)
   simp only [z0,z1,z2]
   refine Q_W 8 43 511 (undef) rfl HS6.out ?_ (hy:=.inr ⟨by rfl,rfl⟩)
   simp only [z0,z1,z2]
   refine Q_W 9 44 1023 (undef) rfl HS6.out ?_ (hy:=.inr ⟨by rfl,rfl⟩)
   simp only [z0,z1,z2]
   refine Q_W 10 45 2047 (undef) rfl HS6.out ?_ (hy:=.inr ⟨by rfl,rfl⟩)
   simp only [z0,z1,z2]
   refine Q_W 11 46 4095 (undef) rfl HS6.out ?_ (hy:=.inr ⟨by rfl,rfl⟩)
   simp only [z0,z1,z2]
   refine Q_W 12 47 8191 (undef) rfl HS6.out ?_ (hy:=.inr ⟨by rfl,rfl⟩)
   simp only [z0,z1,z2]
   refine Q_W 13 48 16383 (undef) rfl HS6.out ?_ (hy:=.inr ⟨by rfl,rfl⟩)
   simp only [z0,z1,z2]
   refine Q_W 14 49 32767 (undef) rfl HS6.out ?_ (hy:=.inr ⟨by rfl,rfl⟩)
   simp only [z0,z1,z2]
   refine Q_1 15 65535 rfl (fun K hK=>?_)
   go_simp
   refine hK _ _ ?_
   clear hK K
   refine Q_end ?_
   go_wp2_with fail
   rw [rounds_succ]
   go_wp2
   go_end0
   exact⟨⟨_,rfl⟩,HB4.out.trans (HB5.out.mono HW4.out),fun q hq _ hD hV=>(HB5.out.block q (Nat.lt_of_lt_of_le hq HZ4.out)).trans (HKP.out q hq hD hV),T,R,r,rc,HT.out.1,by rw [← HT.out.2];exact HQ4.out.below HB5.out⟩
 | none =>
   have HRS:Hid (R.isSome=false):=Lib.hid HTR.out
   obtain⟨kn,hkn⟩:∃ kn,Cr.knC vs2 (3*(k+4))=kn:=⟨_,rfl⟩
   have HKN:=Lib.hid hkn
   clear hkn
   by_cases hlt:kn<nd
   · have q1:decide ((kn:Int)<(nd:Int))=true:=by rw [decide_eq_true_iff];omega
     have HDC:Hid (dcB vs2 k f half none=none):=Lib.hid (by unfold dcB;dsimp only;rw [HKN.out,if_pos (by rw [← HND.out];exact hlt)])
     have q2:decide (kn<nd)=true:=decide_eq_true hlt
     go_wp2_with fail
     refine Q_start (fun W9=>Blk W9 G 103 (.pointer (some ⟨D,0,none⟩) :: .int .i64 (nd:Int) :: .slice R r rc :: rest)) 15 16 ?_
     refine Q_W 0 35 1 (.pointer (some ⟨G,0,none⟩)) rfl HS5.out ?_
     simp only [z0,z1,z2]
     refine Q_W 1 36 3 (.pointer (some ⟨G,0,none⟩)) rfl HS5.out ?_
     simp only [z0,z1,z2]
     refine Q_T 2 37 7 (.agg #[.pointer (some ⟨D,0,none⟩),.int .i64 (nd:Int),.slice R r rc]) [4,3] rfl HS5.out (yieldsIf_load_mid rfl 103 (.tmp 36) rfl G (0) rfl [.pointer (some ⟨D,0,none⟩),.int .i64 (nd:Int),.slice R r rc] _ (fun W hS=>blk3 hS) Tryz.underlying103 rfl (by rw [infoBk];rfl)) ?_
     simp only [z0,z1,z2]
     refine Q_1S 3 15 rfl (fun K hK=>?_)
     go_simp
     refine(decoded_any (.pointer (some ⟨D,0,none⟩)) (nd:Int) R r rc _).mono ?_
     rintro e w5 ⟨rfl,hB⟩
     have HS6:=Lib.hid (HS5.out.below hB)
     have HB5:=Lib.hid ((Below.refl _ w4).drew.trans hB)
     clear hB
     refine hK _ _ HS6.out ?_
     clear hK K
     rw [HRS.out]
     refine Q_W 4 39 31 (.bool false) rfl HS6.out ?_
     simp only [z0,z1,z2]
     refine Q_W 5 40 63 (.pointer (some ⟨G,0,none⟩)) rfl HS6.out ?_
     simp only [z0,z1,z2]
     refine Q_W 6 41 127 (.pointer (some ⟨G,0,none⟩)) rfl HS6.out ?_
     simp only [z0,z1,z2]
     refine Q_W 7 42 255 (.pointer (some ⟨G,0,none⟩)) rfl HS6.out ?_
     simp only [z0,z1,z2]
     refine Q_T 8 43 511 (.pointer (some ⟨D,0,none⟩)) [14,9] rfl HS6.out (.inl ⟨by rfl,fun W hS=>by have s0:=Blk.cell hS (j:=0) (v:=.pointer (some ⟨D,0,none⟩)) rfl;go_simp⟩) ?_
     simp only [z0,z1,z2]
     refine Q_W 10 45 1535 (.pointer (some ⟨G,0,none⟩)) rfl HS6.out ?_
     simp only [z0,z1,z2]
     refine Q_W 11 46 3583 (.pointer (some ⟨G,0,none⟩)) rfl HS6.out ?_
     simp only [z0,z1,z2]
     refine Q_W 12 47 7679 (.pointer (some ⟨G,1,none⟩)) rfl HS6.out ?_
     simp only [z0,z1,z2]
     refine Q_T 13 48 15871 (.int .i64 (nd:Int)) [14] rfl HS6.out (.inl ⟨by rfl,fun W hS=>by have s0:=Blk.cell hS (j:=1) (v:=.int .i64 (nd:Int)) rfl;go_simp⟩) ?_
     simp only [z0,z1,z2]
     refine Q_1SG 9 16383 rfl (fun K hK=>?_)
     go_simp
     refine(Cr.known_any (HD5.out w5 HB5.out) (by have:=HK9.out;omega)).mono ?_
     rintro e w7 ⟨rfl,hB⟩
     rw [HKN.out]
     have HS7:=Lib.hid (HS6.out.below hB)
     have HB7:=Lib.hid (HB5.out.trans (hB.mono HB5.out.size))
     clear hB
     refine hK _ _ HS7.out ?_
     clear hK K
     refine Q_W 14 49 32767 (.bool (decide ((kn:Int)<(nd:Int)))) rfl HS7.out ?_
     simp only [z0,z1,z2]
     refine Q_1 15 65535 rfl (fun K hK=>?_)
     go_simp
     refine hK _ _ ?_
     clear hK K
     refine Q_end ?_
     go_wp2_with fail
     rw [rounds_succ]
     go_wp2
     go_end0
     exact⟨⟨_,rfl⟩,HB4.out.trans (HB7.out.mono HW4.out),fun q hq _ hD hV=>(HB7.out.block q (Nat.lt_of_lt_of_le hq HZ4.out)).trans (HKP.out q hq hD hV),T,R,r,rc,HT.out.1,by rw [← HT.out.2,HDC.out];exact HQ4.out.below HB7.out⟩
   · have q1:decide ((kn:Int)<(nd:Int))=false:=by rw [decide_eq_false_iff_not];omega
     have HDC:Hid (dcB vs2 k f half none=if itE vs2 1 half=0 then some (itD vs2 1 half) else none):=Lib.hid (by unfold dcB;dsimp only;rw [HKN.out,if_neg (by rw [← HND.out];exact hlt)])
     have q2:decide (kn<nd)=false:=decide_eq_false hlt
     have q3:nd≤kn:=by omega
     clear hlt
     go_wp2_with fail
     refine Q_start (fun W9=>Blk W9 G 103 (.pointer (some ⟨D,0,none⟩) :: .int .i64 (nd:Int) :: .slice R r rc :: rest)) 15 16 ?_
     refine Q_W 0 35 1 (.pointer (some ⟨G,0,none⟩)) rfl HS5.out ?_
     simp only [z0,z1,z2]
     refine Q_W 1 36 3 (.pointer (some ⟨G,0,none⟩)) rfl HS5.out ?_
     simp only [z0,z1,z2]
     refine Q_T 2 37 7 (.agg #[.pointer (some ⟨D,0,none⟩),.int .i64 (nd:Int),.slice R r rc]) [4,3] rfl HS5.out (yieldsIf_load_mid rfl 103 (.tmp 36) rfl G (0) rfl [.pointer (some ⟨D,0,none⟩),.int .i64 (nd:Int),.slice R r rc] _ (fun W hS=>blk3 hS) Tryz.underlying103 rfl (by rw [infoBk];rfl)) ?_
     simp only [z0,z1,z2]
     refine Q_1S 3 15 rfl (fun K hK=>?_)
     go_simp
     refine(decoded_any (.pointer (some ⟨D,0,none⟩)) (nd:Int) R r rc _).mono ?_
     rintro e w5 ⟨rfl,hB⟩
     have HS6:=Lib.hid (HS5.out.below hB)
     have HB5:=Lib.hid ((Below.refl _ w4).drew.trans hB)
     clear hB
     refine hK _ _ HS6.out ?_
     clear hK K
     rw [HRS.out]
     refine Q_W 4 39 31 (.bool false) rfl HS6.out ?_
     simp only [z0,z1,z2]
     refine Q_W 5 40 63 (.pointer (some ⟨G,0,none⟩)) rfl HS6.out ?_
     simp only [z0,z1,z2]
     refine Q_W 6 41 127 (.pointer (some ⟨G,0,none⟩)) rfl HS6.out ?_
     simp only [z0,z1,z2]
     refine Q_W 7 42 255 (.pointer (some ⟨G,0,none⟩)) rfl HS6.out ?_
     simp only [z0,z1,z2]
     refine Q_T 8 43 511 (.pointer (some ⟨D,0,none⟩)) [14,9] rfl HS6.out (.inl ⟨by rfl,fun W hS=>by have s0:=Blk.cell hS (j:=0) (v:=.pointer (some ⟨D,0,none⟩)) rfl;go_simp⟩) ?_
     simp only [z0,z1,z2]
     refine Q_W 10 45 1535 (.pointer (some ⟨G,0,none⟩)) rfl HS6.out ?_
     simp only [z0,z1,z2]
     refine Q_W 11 46 3583 (.pointer (some ⟨G,0,none⟩)) rfl HS6.out ?_
     simp only [z0,z1,z2]
     refine Q_W 12 47 7679 (.pointer (some ⟨G,1,none⟩)) rfl HS6.out ?_
     simp only [z0,z1,z2]
     refine Q_T 13 48 15871 (.int .i64 (nd:Int)) [14] rfl HS6.out (.inl ⟨by rfl,fun W hS=>by have s0:=Blk.cell hS (j:=1) (v:=.int .i64 (nd:Int)) rfl;go_simp⟩) ?_
     simp only [z0,z1,z2]
     refine Q_1SG 9 16383 rfl (fun K hK=>?_)
     go_simp
     refine(Cr.known_any (HD5.out w5 HB5.out) (by have:=HK9.out;omega)).mono ?_
     rintro e w7 ⟨rfl,hB⟩
     rw [HKN.out]
     have HS7:=Lib.hid (HS6.out.below hB)
     have HB7:=Lib.hid (HB5.out.trans (hB.mono HB5.out.size))
     clear hB
     refine hK _ _ HS7.out ?_
     clear hK K
     refine Q_W 14 49 32767 (.bool (decide ((kn:Int)<(nd:Int)))) rfl HS7.out ?_
     simp only [z0,z1,z2]
     refine Q_1 15 65535 rfl (fun K hK=>?_)
     go_simp
     refine hK _ _ ?_
     clear hK K
     refine Q_end ?_
     have HQ7:=Lib.hid (HQ4.out.below HB7.out)
     have HD7:=Lib.hid HQ7.out.d
     have HP7:=Lib.hid HQ7.out.a.p
     have HG7:=Lib.hid HQ7.out.a.g
     have HS8:=Lib.hid (And.intro (HG7.out.drew.cell (j:=0) (v:=.pointer (some ⟨D,0,none⟩)) rfl) (HP7.out.p.drew.cell (j:=0) (v:=.int .i64 half) rfl))
     go_wp2_with fail
     refine Q_start (fun W9=>W9.cell? ⟨G,0,none⟩=some (.pointer (some ⟨D,0,none⟩))∧W9.cell? ⟨P,0,none⟩=some (.int .i64 half)) 11 19 ?_
     refine Q_W 0 52 1 (.pointer (some ⟨G,0,none⟩)) rfl HS8.out ?_
     simp only [z0,z1,z2]
     refine Q_W 1 53 3 (.pointer (some ⟨G,0,none⟩)) rfl HS8.out ?_
     simp only [z0,z1,z2]
     refine Q_W 2 54 7 (.pointer (some ⟨G,0,none⟩)) rfl HS8.out ?_
     simp only [z0,z1,z2]
     refine Q_T 3 55 15 (.pointer (some ⟨D,0,none⟩)) [4] rfl HS8.out (.inl ⟨by rfl,fun W hS=>by obtain⟨s0,s1⟩:=hS;go_simp⟩) ?_
     simp only [z0,z1,z2]
     refine Q_W 5 57 47 (.pointer (some ⟨P,0,none⟩)) rfl HS8.out ?_
     simp only [z0,z1,z2]
     refine Q_W 7 59 175 (.pointer (some ⟨P,0,none⟩)) rfl HS8.out ?_
     simp only [z0,z1,z2]
     refine Q_W 8 60 431 (.pointer (some ⟨P,0,none⟩)) rfl HS8.out ?_
     simp only [z0,z1,z2]
     refine Q_W 9 61 943 (.pointer (some ⟨P,0,none⟩)) rfl HS8.out ?_
     simp only [z0,z1,z2]
     refine Q_T 10 62 1967 (.int .i64 half) [] rfl HS8.out (.inl ⟨by rfl,fun W hS=>by obtain⟨s0,s1⟩:=hS;go_simp⟩) ?_
     simp only [z0,z1,z2]
     refine Q_1S 4 1983 rfl (fun K hK=>?_)
     go_simp
     refine(values_any HD7.out.drew (by have:=HK9.out;omega)).mono ?_
     rintro e w8 ⟨A8,c8,rfl,hO,hB⟩
     have HB8:=Lib.hid ((Below.refl _ w7).drew.trans hB)
     have HP8:=Lib.hid (HP7.out.below HB8.out)
     have HG8:=Lib.hid (HG7.out.below HB8.out)
     have HO8:=Lib.hid hO
     have HS9:=Lib.hid (And.intro (HG8.out.cell (j:=0) (v:=.pointer (some ⟨D,0,none⟩)) rfl) (HP8.out.p.cell (j:=0) (v:=.int .i64 half) rfl))
     clear hO hB
     refine hK _ _ HS9.out ?_
     clear hK K
     refine Q_1S 6 2047 rfl (fun K hK=>?_)
     go_simp
     refine(pkind_any HP8.out).mono ?_
     rintro e w9 ⟨rfl,rfl⟩
     refine hK _ _ HS9.out ?_
     clear hK K
     refine Q_1 11 4095 rfl (fun K hK=>?_)
     go_simp
     refine(dec_any A8 (3*(k+4)) c8 vs2 1 half w8 (Own.rd HO8.out) (by have:=HK9.out;omega)).mono ?_
     rintro e w9 ⟨R2,n2,rc2,rfl,hR2,hF2,hB⟩
     have HB9:=Lib.hid (HB8.out.trans (hB.mono HB8.out.size))
     have HR2:=Lib.hid hR2
     have HF2:=Lib.hid (fun hA=>Nat.le_trans HB8.out.size (hF2 hA))
     clear hR2 hF2 hB
     refine hK _ _ ?_
     clear hK K
     refine Q_X 12 51 8191 (.tuple #[.slice R2 n2 rc2,.int .i64 (itH vs2 1 half),.int .i64 (itE vs2 1 half)]) rfl ?_
     simp only [z0,z1,z2]
     refine Q_X 13 64 16383 (.slice R2 n2 rc2) rfl ?_
     simp only [z0,z1,z2]
     refine Q_X 14 65 32767 (.int .i64 (itH vs2 1 half)) rfl ?_
     simp only [z0,z1,z2]
     refine Q_X 15 66 65535 (.int .i64 (itE vs2 1 half)) rfl ?_
     simp only [z0,z1,z2]
     refine Q_1 16 131071 rfl (fun K hK=>?_)
     go_simp
     refine hK _ _ ?_
     clear hK K
     refine Q_1 17 262143 rfl (fun K hK=>?_)
     go_simp
     refine hK _ _ ?_
     clear hK K
     refine Q_1 18 524287 rfl (fun K hK=>?_)
     go_simp
     refine hK _ _ ?_
     clear hK K
     refine Q_end ?_
     have hl2:=Rd.len (Own.rd HD7.out.v)
     have hG9:=HG7.out.below HB9.out
     have cg:=hG9.cell (j:=2) (v:=.slice R r rc) rfl
     have fg:=hG9.frozen 2
     have HQ9:=Lib.hid (HQ7.out.below HB9.out)
     by_cases hE:itE vs2 1 half=0
     · have HE:=Lib.hid (it_lenK hE (by have:=HK9.out;omega))
       rw [hE,if_pos rfl]at HDC
       rw [hE]
       clear hE hG9 hl2
       go_wp2_with fail
       rw [rounds_succ]
       go_wp2
       go_end0
       have hs:=grownBy_set w9 G 2 (.slice R2 n2 rc2)
       obtain⟨m1,m2,m3,m4,m5,m6⟩:=HQ9.out.ne
       have hn2:=Rd.len HR2.out
       have hE:=HE.out
       have hR2:R2≠none:=rd_ne HR2.out (by omega)
       have hge:=HF2.out hR2
       have l1:=(Ownv.blk_of HQ7.out.d.v HQ7.out.d.ne).2
       have l2:=HQ7.out.d.b.lt
       have l3:=HQ7.out.a.g.lt
       have l4:=HQ7.out.a.p.p.lt
       have hB97:=HB7.out.trans (HB9.out.mono HB7.out.size)
       have hB9:=HB4.out.trans ((HB7.out.trans (HB9.out.mono HB7.out.size)).mono HW4.out)
       refine⟨⟨_,rfl⟩,hB9.grown hs (Nat.le_trans HSZ.out hB9.size) (fun q e=>by cases e;exact HQ9.out.a.b),fun q hq hG hD hV=>((hs.block q (Nat.lt_of_lt_of_le hq hB9.size) (fun e=>hG (Option.some.inj e))).trans (hB97.block q (Nat.lt_of_lt_of_le hq HZ4.out))).trans (HKP.out q hq hD hV),T,R2,n2,rc2,HT.out.1,?_⟩
       rw [← HT.out.2,HDC.out]
       exact⟨⟨⟨HQ9.out.a.p.p.other (Ne.symm m2) 2 _,HQ9.out.a.p.d⟩,HQ9.out.a.g.set 2 _,HQ9.out.a.b⟩,HQ9.out.d.grown hs (Ne.symm m3) m5,⟨hR2,by omega,Rdv.grown HR2.out hs (fun _ e=>by have:=Option.some.inj e;omega)⟩,fun _=>⟨by omega,by omega,by omega,by omega⟩⟩
     · have q4:=beq_f hE
       rw [if_neg hE]at HDC
       clear hG9 hl2
       go_wp2_with fail
       rw [rounds_succ]
       go_wp2
       go_end0
       have hB97:=HB7.out.trans (HB9.out.mono HB7.out.size)
       have hB9:=HB4.out.trans ((HB7.out.trans (HB9.out.mono HB7.out.size)).mono HW4.out)
       refine⟨⟨_,rfl⟩,hB9,fun q hq hG hD hV=>(hB97.block q (Nat.lt_of_lt_of_le hq HZ4.out)).trans (HKP.out q hq hD hV),T,R,r,rc,HT.out.1,?_⟩
       rw [← HT.out.2,HDC.out]
       exact HQ9.out
def tE1(sz:Int)(x:List Int):Int:=Cr.tE sz [⟨none,x.length,0,x⟩]
def tR1(sz:Int)(x:List Int):List Int:=Cr.tR sz [⟨none,x.length,0,x⟩]
theorem tE1_eq(sz:Int)(x:List Int)(R:Option Addr)(rc:Nat):Cr.tE sz [⟨R,x.length,rc,x⟩]=tE1 sz x∧Cr.tR sz [⟨R,x.length,rc,x⟩]=tR1 sz x:=⟨rfl,rfl⟩
def fnK(sz:Int)(b:Option (List Int)):Int:=match b with
 | none=>2
 | some x=>if tE1 sz x=0 then 1 else 2
def fnO(sz:Int)(b:Option (List Int)):List Int:=match b with
 | none=>[]
 | some x=>if tE1 sz x=0 then tR1 sz x else []
def fnS(st sz:Int)(b:Option (List Int)):Int:=match b with
 | none=>st
 | some x=>if tE1 sz x=0 then 2 else st
def fnB(sz:Int)(b:Option (List Int)):Option (List Int):=match b with
 | none=>none
 | some x=>if tE1 sz x=0 then some x else none
section
variable {W : World} {base P : Nat} {half st sz lm : Int} {G cap D k f : Nat} {V : Option Addr} {vc : Nat} {vs : List Int} {cnt : Int} {R : Option Addr} {r rc : Nat} {rest : List Value} {b : Option (List Int)}
theorem HqP.setP(h:HqP W base P half st sz lm G cap D k f V vc vs cnt R r rc rest b)(s:Int):HqP (W.setCell ⟨P,1,none⟩ (.int .i64 s)) base P half s sz lm G cap D k f V vc vs cnt R r rc rest b:=by
 obtain⟨n1,n2,n3,n4,n5,n6⟩:=h.ne
 have hs:=grownBy_set W P 1 (.int .i64 s)
 refine⟨⟨⟨h.a.p.p.set 1 _,h.a.p.d⟩,h.a.g.other n2 1 _,h.a.b⟩,h.d.grown hs (Ne.symm n1) n4,?_,h.n⟩
 have ht:=h.t
 cases b with
 | none=>exact ht
 | some x=>exact⟨ht.1,ht.2.1,Rdv.grown ht.2.2 hs (fun hA e=>(h.n hA).2.2.2 (Option.some.inj e))⟩
theorem HqP.clearG(h:HqP W base P half st sz lm G cap D k f V vc vs cnt R r rc rest b):HqP (W.setCell ⟨G,2,none⟩ (.slice none 0 0)) base P half st sz lm G cap D k f V vc vs cnt none 0 0 rest none:=by
 obtain⟨n1,n2,n3,n4,n5,n6⟩:=h.ne
 have hs:=grownBy_set W G 2 (.slice none 0 0)
 exact⟨⟨⟨h.a.p.p.other (Ne.symm n2) 2 _,h.a.p.d⟩,h.a.g.set 2 _,h.a.b⟩,h.d.grown hs (Ne.symm n3) n5,⟨rfl,rfl,rfl⟩,fun hA=>absurd rfl hA⟩
end
theorem rd_other{W:World}{P:Nat}{t:TypeId}{cs:List Value}{A:Option Addr}{n c:Nat}{xs:List Int}(h:Rd .u8 W A n c xs)(hP:Blk W P t cs)(hu:∀ v ∈ cs,∀ z,v≠.int .u8 z)(j:Nat)(u:Value):Rd .u8 (W.setCell ⟨P,j,none⟩ u) A n c xs:=by
 by_cases hb:0<n∧blk A=P
 · exfalso
   obtain⟨hn,hb⟩:=hb
   have h0:=Rd.cell h hn
   have hle:=Rdv.le h
   obtain⟨b,o,rfl,-⟩:=Rdv.ptr h (by omega)
   have hb:b=P:=hb
   subst hb
   rw [adr_some,Nat.add_zero,cell_of_row W b o _ _ _ hP]at h0
   exact hu _ (List.mem_of_getElem? (by simpa using h0)) _ rfl
 · by_cases hn:0<n
   · exact Rdv.grown h (grownBy_set W P j u) (fun _ e=>hb ⟨hn,Option.some.inj e⟩)
   · have h':Rdv W A n c (xs.map (Value.int .u8)):=h
     refine⟨h'.len,h'.le,h'.cm,h'.nil,h'.spot,fun hc a ha=>Nat.lt_of_lt_of_le (h'.lt hc a ha) (grownBy_set W P j u).size,fun q v hj=>?_⟩
     have h1:=(List.getElem?_eq_some_iff.1 hj).1
     have h2:=h'.len
     omega
theorem elRR:El Tryz.prog 56 28 (.slice none 0 0) 24:=⟨by kernel_rfl,by kernel_rfl,fun _=>by kernel_rfl,rfl⟩
theorem finish_any{w:World}{base P:Nat}{half st sz lm:Int}{G cap D k f:Nat}{V:Option Addr}{vc:Nat}{vs:List Int}{cnt:Int}{R:Option Addr}{r rc:Nat}{rest:List Value}{b:Option (List Int)}(hq:HqP w base P half st sz lm G cap D k f V vc vs cnt R r rc rest b)(hbs:base≤w.heap.size)(hr:r≤100000) :
 Calls Tryz.prog 44 #[.pointer (some ⟨P,0,none⟩)] w fun e w'=>∃ A' n' c' R' r' rc',e= .returned (.tuple #[.slice A' n' c',.int .i64 (fnK sz b)])∧Rd .u8 w' A' n' c' (fnO sz b)∧Below base w w'∧(∀ q,q<w.heap.size→q≠P→q≠G→w'.heap[q]?=w.heap[q]?)∧HqP w' base P half (fnS st sz b) sz lm G cap D k f V vc vs cnt R' r' rc' rest (fnB sz b):=by
 have c4:=hq.a.p.p.cell (j:=4) (v:=.slice (some ⟨G,0,none⟩) 1 cap) rfl
 have HAL:=Lib.hid (allK_any (cap:=cap) hq.a.g)
 have HTR:=Lib.hid hq.t.some_iff
 have HQ:=Lib.hid hq
 have HSZ:=Lib.hid hbs
 have hix:=fun W=>ixK G cap W
 clear hq hbs
 go_enter Tryz.func44,Tryz.ntmps44
 go_wp2_with fail
 refine HAL.out.mono ?_
 rintro e w1 ⟨rfl,hB1⟩
 rw [HTR.out]
 have HQ1:=Lib.hid (HQ.out.below hB1)
 have HB1:=Lib.hid hB1
 clear hB1 c4
 cases b with
 | none =>
   go_wp2
   go_ret2
   exact⟨none,0,0,R,r,rc,rfl,Rd.nilv _ _,HB1.out.mono HSZ.out,fun q hq _ _=>HB1.out.block q hq,HQ1.out⟩
 | some x =>
   have c41:=HQ1.out.a.p.p.cell (j:=4) (v:=.slice (some ⟨G,0,none⟩) 1 cap) rfl
   have hG:Blk w1 G 103 ([.pointer (some ⟨D,0,none⟩),.int .i64 ((k+f:Nat):Int),.slice R r rc] ++ rest):=HQ1.out.a.g
   obtain⟨nd,hnd⟩:∃ nd:Int,nd=((k+f:Nat):Int):=⟨_,rfl⟩
   rw [← hnd]at hG
   have HND:=Lib.hid hnd
   clear hnd
   go_wp2_with fail
   refine wp_loop_rounds 3 ?_
   rw [rounds_succ]
   have hX2:Blk (w1.alloc (.cells #[.pointer (some ⟨D,0,none⟩),.int .i64 nd,.slice R r rc] 103)) w1.heap.size 103 [.pointer (some ⟨D,0,none⟩),.int .i64 nd,.slice R r rc]:=Blk.new w1 _ _ rfl
   have cx:=hX2.cell (j:=2) (v:=.slice R r rc) rfl
   go_wp2_with (first
    | (refine ldpre (cs:=[.pointer (some ⟨D,0,none⟩),.int .i64 nd,.slice R r rc]) rfl 103 (.tmp 23) rfl rfl hG _ Tryz.underlying103 rfl (by rw [infoBk];rfl) ?_)
    | (at_builtin
       refine list_of rfl fun K hK=>wp_app1 (w:=w1.alloc (.cells #[.pointer (some ⟨D,0,none⟩),.int .i64 nd,.slice R r rc] 103)) (base:=w1.heap.size) _ _ 56 rfl elRR rfl (.slice R r rc) (by rw [World.size_alloc];rfl) rfl (Ownv.nilv _ _ _) (by omega) (by omega) (by simp) ?_
       intro A2 c2 w2 hO2 hG2
       have HO2:=Lib.hid hO2
       have hb2:=(bal (Below.refl w1.heap.size w1) (.cells #[.pointer (some ⟨D,0,none⟩),.int .i64 nd,.slice R r rc] 103)).grown hG2 (by simp) (fun q e=>by simp [Value.ownBlock]at e)
       have HQ2:=Lib.hid (HQ1.out.below hb2)
       have HB2:=Lib.hid (HB1.out.trans (hb2.mono HB1.out.size))
       clear hO2 hG2 hb2 hX2 cx hG c41
       refine hK _ _ ?_
       clear hK K))
   rw [rounds_succ]
   have c2s:=HQ2.out.a.p.p.cell (j:=2) (v:=.int .i64 sz) rfl
   obtain rfl:x.length=r:=Rd.len HQ2.out.t.2.2
   have HJ:=Lib.hid (Cr.tjoin_any sz A2 1 c2 [⟨R,x.length,rc,x⟩] w2 ⟨by simpa [Cr.Sv.v] using HO2.out.rd,fun s hs=>by simp at hs;subst hs;exact HQ2.out.t.2.2⟩ (fun s hs=>by simp at hs;subst hs;exact hr))
   rw [(tE1_eq sz x R rc).1,(tE1_eq sz x R rc).2]at HJ
   clear hix
   go_wp2_with fail
   refine HJ.out.mono ?_
   rintro e w3 ⟨A3,n3,c3,rfl,hR3,hB3⟩
   have HQ3:=Lib.hid (HQ2.out.below hB3)
   have HB33:=Lib.hid (HB2.out.trans (hB3.mono HB2.out.size))
   have HB3:=Lib.hid ((HB2.out.trans (hB3.mono HB2.out.size)).mono HSZ.out)
   have HR3:=Lib.hid hR3
   have HW3:Hid (base≤w3.heap.size):=Lib.hid (Nat.le_trans HSZ.out (HB2.out.trans (hB3.mono HB2.out.size)).size)
   clear hB3 hR3 c2s HJ
   by_cases hE:tE1 sz x=0
   · have HE:Hid (fnK sz (some x)=1∧fnO sz (some x)=tR1 sz x∧fnS st sz (some x)=2∧fnB sz (some x)=some x):=Lib.hid ⟨if_pos hE,if_pos hE,if_pos hE,if_pos hE⟩
     rw [hE]
     have hp1:=HQ3.out.a.p.p.cell (j:=1) (v:=.int .i64 st) rfl
     have hf1:=HQ3.out.a.p.p.frozen 1
     clear hE
     go_wp2
     go_ret2
     rw [HE.out.1,HE.out.2.1,HE.out.2.2.1,HE.out.2.2.2]
     exact⟨A3,n3,c3,R,_,rc,rfl,rd_other HR3.out HQ3.out.a.p.p (by simp) 1 _,HB3.out.grown (grownBy_set w3 P 1 (.int .i64 2)) HW3.out (fun q e=>by cases e;exact HQ3.out.a.p.d),fun q hq hP _=>((grownBy_set w3 P 1 (.int .i64 2)).block q (Nat.lt_of_lt_of_le hq HB33.out.size) (fun e=>hP (Option.some.inj e))).trans (HB33.out.block q hq),HQ3.out.setP 2⟩
   · have q4:=bne_t hE
     have HE:Hid (fnK sz (some x)=2∧fnO sz (some x)=[]∧fnS st sz (some x)=st∧fnB sz (some x)=none):=Lib.hid ⟨if_neg hE,if_neg hE,if_neg hE,if_neg hE⟩
     have c43:=HQ3.out.a.p.p.cell (j:=4) (v:=.slice (some ⟨G,0,none⟩) 1 cap) rfl
     have hix:=fun W=>ixK G cap W
     have cg:=HQ3.out.a.g.cell (j:=2) (v:=.slice R x.length rc) rfl
     have fg:=HQ3.out.a.g.frozen 2
     clear hE
     go_wp2_with fail
     refine wp_loop_rounds 3 ?_
     rw [rounds_succ]
     go_wp2_with fail
     rw [rounds_succ]
     go_wp2
     go_ret2
     rw [HE.out.1,HE.out.2.1,HE.out.2.2.1,HE.out.2.2.2]
     exact⟨none,0,0,none,0,0,rfl,Rd.nilv _ _,HB3.out.grown (grownBy_set w3 G 2 (.slice none 0 0)) HW3.out (fun q e=>by cases e;exact HQ3.out.a.b),fun q hq _ hG=>((grownBy_set w3 G 2 (.slice none 0 0)).block q (Nat.lt_of_lt_of_le hq HB33.out.size) (fun e=>hG (Option.some.inj e))).trans (HB33.out.block q hq),HQ3.out.clearG⟩
end Go.Proofs.YtkdfefpnhaebfaaGreat
namespace Go.Proofs.YtkdfefpnhaebfaaGreat
open Go.RowKit
def b1(s lm:Int):List Int:=(Cr.bufL (Cr.lo (s.toNat+24)) (Cr.fi (s.toNat+24))).take (Cr.szB (Cr.lo (s.toNat+24)) lm)
def spE(s bt md lm rv:Int)(n:Nat):Int:=if Cr.VC s bt md lm rv=false∨(n:Int)≠bt then 2 else if Cr.usC (b1 s lm)=0∧0<n then 10 else 0
def SpQ(s bt md lm rv:Int)(n:Nat)(ys:List Int)(w:World)(e:Ending)(w':World):Prop :=
 Below w.heap.size w w'∧∃ PA nP cP,e= .returned (.tuple #[.slice PA nP cP,.int .i64 (spE s bt md lm rv n)])∧(spE s bt md lm rv n=0→nP=1∧w.heap.size≤blk PA∧∃ Q qc,Rdv w' PA 1 cP [.slice Q n qc]∧Rd .i64 w' Q n qc ys∧(Q≠none→w.heap.size≤blk Q∧blk Q<w'.heap.size))
theorem vc_inv{s bt md lm rv:Int}(h:Cr.VC s bt md lm rv=true):(1≤s∧s≤79536)∧(md=2∨md=4∨md=6)∧(0≤bt∧bt≤131072)∧bt % md=0∧1≤lm∧0≤rv∧rv≤3:=by
 unfold Cr.VC at h
 have h:=of_decide_eq_true h
 exact⟨⟨h.1,h.2.1⟩,h.2.2.1,⟨h.2.2.2.1,h.2.2.2.2.1⟩,h.2.2.2.2.2.1,h.2.2.2.2.2.2.1,h.2.2.2.2.2.2.2⟩
theorem sz_one{b:Nat}(h1:1≤b)(h:b≤6144):Cr.sz b 0=Cr.lo b∧Cr.fl b 0=Cr.fi b:=by
 obtain⟨e1,-⟩:=one_lay h1 h
 refine⟨?_,rfl⟩
 unfold Cr.sz
 rw [e1]
 rfl
theorem split1(s bt md lm rv:Int)(A:Option Addr)(n c:Nat)(ys:List Int)(w:World)(hy:Rd .i64 w A n c ys)(hs:s≤6000) :
 Calls Tryz.prog 41 #[.agg #[.int .i64 s,.int .i64 bt,.int .i64 md,.int .i64 lm,.int .i64 rv],.slice A n c] w (SpQ s bt md lm rv n ys w):=by
 by_cases hv:Cr.VC s bt md lm rv=false∨(n:Int)≠bt
 · refine(Cr.tsplit_bad s bt md lm rv A n c w hv).mono ?_
   rintro e w' ⟨rfl,hB⟩
   have h1:spE s bt md lm rv n=2:=if_pos hv
   exact⟨hB,none,0,0,by rw [h1],fun h=>by rw [h1]at h;cases h⟩
 · have hV:Cr.VC s bt md lm rv=true:=by
    cases h:Cr.VC s bt md lm rv with
    | true=>rfl
    | false=>exact absurd (.inl h) hv
   have hn:(n:Int)=bt:=by
    apply Classical.byContradiction
    intro h
    exact hv (.inr h)
   obtain⟨h1,h2,h3,h4,h5,h6⟩:=vc_inv hV
   obtain⟨s,rfl⟩:=Int.eq_ofNat_of_zero_le (show 0≤s by omega)
   obtain⟨m,rfl⟩:=Int.eq_ofNat_of_zero_le (show 0≤md by omega)
   obtain⟨g,hg⟩:∃ g:Nat,n=m*g:=by
    refine⟨n / m,?_⟩
    have h7:n % m=0:=by
     have:((n % m:Nat):Int)=0:=by rw [Int.natCast_emod,hn];exact h4
     omega
    have:=Nat.div_add_mod n m
    omega
   have hC:(1:Nat)=Cr.bC (s+24):=(Cr.bC_one (by omega)).symm
   have hsplit:=Cr.tsplit_ok s 1 g m lm rv A n c ys w (by omega) (by omega) hC (by omega) (by omega) h5 h6 hg hy
   rw [← hg,hn]at hsplit
   refine hsplit.mono ?_
   rintro e w' ⟨hB,h⟩
   have hsh:Cr.shN 1 g m 0=n:=by
    unfold Cr.shN
    rw [if_pos (by omega),Nat.div_one,hg,Nat.mul_comm]
   obtain⟨z1,z2⟩:=sz_one (b:=s+24) (by omega) (by omega)
   have hbad:Cr.bad49 (s+24) lm 1 g m 0↔(Cr.usC (b1 (s:Int) lm)=0∧0<n):=by
    unfold Cr.bad49 Cr.uS b1
    rw [hsh,z1,z2]
    rfl
   rcases h with⟨⟨q,hq,hb⟩,rfl⟩ | ⟨hno,A',c',L,rfl,hBI,hL⟩
   · obtain rfl:q=0:=by omega
     have e1:spE (s:Int) bt (m:Int) lm rv n=10:=by unfold spE;rw [if_neg hv,if_pos (hbad.1 hb)]
     exact⟨hB,none,0,0,by rw [e1],fun h=>by rw [e1]at h;cases h⟩
   · have e1:spE (s:Int) bt (m:Int) lm rv n=0:=by unfold spE;rw [if_neg hv,if_neg (fun h=>hno 0 (by omega) (hbad.2 h))]
     have hl1:L.length=1:=by
      have:=congrArg List.length hL
      simpa [Cr.prtS] using this
     obtain⟨sv,rfl⟩:=List.length_eq_one_iff.1 hl1
     have hys:sv.xs=ys:=by
      have hyl:=Rd.len hy
      simp [Cr.prtS,Cr.offS,hsh]at hL
      rw [hL,← hyl,List.take_length]
     have hO:=hBI.r sv (by simp)
     have hnn:sv.n=n:=by rw [← Rd.len (Own.rd hO),hys];exact Rd.len hy
     refine⟨hB,A',1,c',by rw [e1];rfl,fun _=>⟨rfl,(Ownv.blk_of hBI.o (by
      intro hA
      have h9:=hBI.o.rd.nil hA
      have h8:=hBI.o.rd.le
      simp at h8
      omega)).1,sv.A,sv.c,?_,?_,fun hA=>Ownv.blk_of hO hA⟩⟩
     · have:=hBI.o.rd
       simpa [Cr.Sv.v,hnn] using this
     · have:=Own.rd hO
       rw [hys,hnn]at this
       exact this
attribute [local go_sem] Oper.semAt_some
def rcE(st sz lm s bt md l rv:Int)(fresh:Bool)(ys:List Int)(n:Nat):Int :=
 if spE s bt md l rv n=2∨SoftB ys=false then 2 else if (fresh=false∧st≠0)∧(s≠sz∨l≠lm) then 8 else spE s bt md l rv n
end Go.Proofs.YtkdfefpnhaebfaaGreat
