/- Bundle. Conditions: none. -/
import Derived.Test.YthmhogdceolkdaaGreatBqbq
import Derived.Test.YthmhogdceolkdaaGreatBqbf
import Derived.Test.YthmhogdceolkdaaGreatBqbb
import Derived.RangeFuncWrites
import Derived.Test.YthmhogdceolkdaaGreatBqar
set_option linter.unusedVariables false
set_option linter.unusedSimpArgs false
namespace Go.Proofs.YthmhogdceolkdaaGreat
open Tryz
open Go.RowKit
attribute [local go_sem] Oper.semAt_some
set_option maxRecDepth 100000
set_option maxHeartbeats 2000000
theorem DmS.below{W W':World}{base D k f:Nat}{lim:Int}{V:Option Addr}{vc:Nat}{vs:List Int}{cnt:Int}(h:DmS W base D k f lim V vc vs cnt)(hB:Below W.heap.size W W'):DmS W' base D k f lim V vc vs cnt:=⟨h.b.below hB,Ownv.below h.v hB,h.d⟩
theorem sel_pos(k f:Nat)(lim:Int)(st:Nat)(hl:1<=lim)(T j:Nat)(hj:j<(Cr.selL ((Cr.bufL k f).take (Cr.szB k lim)) st (Cr.szB k lim) T).length):∃ p:Nat,gi (Cr.selL ((Cr.bufL k f).take (Cr.szB k lim)) st (Cr.szB k lim) T) j=(p:Int)/\p<3*(k+4):=by
 have hzb:=Cr.szB_bd k hl;have hlen:Cr.szB k lim<=((Cr.bufL k f).take (Cr.szB k lim)).length:=by
  rw [List.length_take,show(Cr.bufL k f).length=3*Cr.nB k from by unfold Cr.bufL;exact Cr.bufT_len _ _ _];omega
 have hm:=gi_mem _ j hj;obtain⟨h0,h1⟩:=Cr.selL_mem hzb.1 hlen T _ hm;have h2:=Cr.bufL_bd k f (Cr.szB k lim) _ h1;exact⟨(gi (Cr.selL ((Cr.bufL k f).take (Cr.szB k lim)) st (Cr.szB k lim) T) j).toNat,by omega,by omega⟩
def AdP(base D k f:Nat)(lim:Int)(rv m:Nat)(V:Option Addr)(vc:Nat)(vs l:List Int)(cnt:Int)(W:World)(e:Ending)(w':World):Prop :=
 Below base W w'/\(∀ q,q<W.heap.size->q≠D->q≠blk V->w'.heap[q]?=W.heap[q]?)/\((m≠0/\Cr.usC ((Cr.bufL k f).take (Cr.szB k lim))=0/\e= .returned (.int .i64 10)/\DmS w' base D k f lim V vc vs cnt) \/
  ((m=0\/Cr.usC ((Cr.bufL k f).take (Cr.szB k lim))≠0)/\∃ T,(Cr.selL ((Cr.bufL k f).take (Cr.szB k lim)) (Cr.stS k (Cr.szB k lim) rv) (Cr.szB k lim) T).length=m/\e= .returned (.int .i64 0) /\
    DmS w' base D k f lim V vc (cmbL (Cr.selL ((Cr.bufL k f).take (Cr.szB k lim)) (Cr.stS k (Cr.szB k lim) rv) (Cr.szB k lim) T) l vs m) (cnt+m)))
theorem add_any{base D k f:Nat}{lim:Int}{V:Option Addr}{vc:Nat}{vs:List Int}{cnt:Int}(rv:Nat)(A:Option Addr)(m c:Nat)(l:List Int)(W:World)(h:DmS W base D k f lim V vc vs cnt)(hl:Rd .i64 W A m c l)(hs:SoftB l=true)(hA:A≠none->blk A≠blk V)(hbs:base<=W.heap.size)
 (h1:40<=k) (h2:k<=6144) (hf:f<k) (hlm:1<=lim) (hrv:rv<=3) (hm:m<=131072) (hc:0<=cnt/\cnt<=1000000000) :
 Calls prog 120 #[.pointer (some ⟨D,0,none⟩),.int .i64 (rv:Int),.slice A m c] W (AdP base D k f lim rv m V vc vs l cnt W):=by
 have HPO:=aq (fun W=>Cr.positions_any k f rv m lim W h1 h2 hf hlm hrv hm);have HNO:=aq (dnone_any h);have HSV:=aq (svalid_any A m c l W hl);rw [hs]at HSV;have HD:=aq h;have HL:=aq hl;have HAV:=aq hA;have hm2:decide ((m:Int) > 131072)=false:=by simp;omega
 have hm3:¬ (131072:Int)<(m:Int):=by omega
 have HBS:=aq hbs;have HPB:=aq (fun T j (hj:j<(Cr.selL ((Cr.bufL k f).take (Cr.szB k lim)) (Cr.stS k (Cr.szB k lim) rv) (Cr.szB k lim) T).length)=>sel_pos k f lim (Cr.stS k (Cr.szB k lim) rv) hlm T j hj);clear h hl hs hA hbs;go_enter func120,ntmps120;by_cases hx:m≠0/\Cr.usC ((Cr.bufL k f).take (Cr.szB k lim))=0
 . have HX:=aq hx
   clear hx;go_wp2_with fail;refine wp_scope_fwd 0 rfl ?_;go_wp2_with fail;refine HNO.o.mono ?_;rintro e w1 ⟨rfl,rfl⟩;go_wp2_with fail;refine HSV.o.mono ?_;rintro e W2 ⟨rfl,hB⟩;have HB2:=aq hB;have HD2:=aq (HD.o.below hB);have HS:Hid (W2.drew.cell? ⟨D,0,none⟩=some (.int .i64 (k:Int))/\W2.drew.cell? ⟨D,1,none⟩=some (.int .i64 (f:Int))/\W2.drew.cell? ⟨D,2,none⟩=some (.int .i64 lim)):=aq ⟨HD2.o.b.cell rfl,HD2.o.b.cell rfl,HD2.o.b.cell rfl⟩;clear hB;go_wp2_with fail;refine Q_start (fun W9=>W9.cell? ⟨D,0,none⟩=some (.int .i64 (k:Int))/\W9.cell? ⟨D,1,none⟩=some (.int .i64 (f:Int))/\W9.cell? ⟨D,2,none⟩=some (.int .i64 lim)) 18 24 ?_;refine Q_W 0 19 1 (.pointer (some ⟨D,0,none⟩)) rfl HS.o ?_;simp only [z0,z1,z2];refine Q_W 1 20 3 (.pointer (some ⟨D,0,none⟩)) rfl HS.o ?_;simp only [z0,z1,z2];refine Q_W 2 21 7 (.pointer (some ⟨D,0,none⟩)) rfl HS.o ?_;simp only [z0,z1,z2];refine Q_W 3 22 15 (.pointer (some ⟨D,0,none⟩)) rfl HS.o ?_;simp only [z0,z1,z2];refine Q_T 4 23 31 (.int .i64 (k:Int)) [] rfl HS.o (.inl ⟨by rfl,fun W hS=>by obtain⟨s0,s1,s2⟩:=hS;go_simp⟩) ?_;simp only [z0,z1,z2];refine Q_W 5 24 63 (.pointer (some ⟨D,0,none⟩)) rfl HS.o ?_;simp only [z0,z1,z2];refine Q_W 6 25 127 (.pointer (some ⟨D,0,none⟩)) rfl HS.o ?_;simp only [z0,z1,z2];refine Q_W 7 26 255 (.pointer (some ⟨D,0,none⟩)) rfl HS.o ?_;simp only [z0,z1,z2];refine Q_W 8 27 511 (.pointer (some ⟨D,1,none⟩)) rfl HS.o ?_;simp only [z0,z1,z2];refine Q_T 9 28 1023 (.int .i64 (f:Int)) [] rfl HS.o (.inl ⟨by rfl,fun W hS=>by obtain⟨s0,s1,s2⟩:=hS;go_simp⟩) ?_;simp only [z0,z1,z2];refine Q_W 10 29 2047 (.pointer (some ⟨D,0,none⟩)) rfl HS.o ?_;simp only [z0,z1,z2];refine Q_W 11 30 4095 (.pointer (some ⟨D,0,none⟩)) rfl HS.o ?_;simp only [z0,z1,z2];refine Q_W 12 31 8191 (.pointer (some ⟨D,0,none⟩)) rfl HS.o ?_;simp only [z0,z1,z2];refine Q_W 13 32 16383 (.pointer (some ⟨D,2,none⟩)) rfl HS.o ?_;simp only [z0,z1,z2];refine Q_T 14 33 32767 (.int .i64 lim) [] rfl HS.o (.inl ⟨by rfl,fun W hS=>by obtain⟨s0,s1,s2⟩:=hS;go_simp⟩) ?_;simp only [z0,z1,z2];refine Q_W 15 34 65535 (.int .i64 (rv:Int)) rfl HS.o ?_;simp only [z0,z1,z2];refine Q_W 16 35 131071 (.slice A m c) rfl HS.o ?_;simp only [z0,z1,z2];refine Q_W 17 36 262143 (.int .i64 (m:Int)) rfl HS.o ?_;simp only [z0,z1,z2];refine Q_1 18 524287 rfl (fun K hK=>?_);go_simp;refine(HPO.o W2.drew).mono ?_;rintro e w3 ⟨hB,hp⟩;have HB3:Hid (Below W2.heap.size W2 w3):=aq ((Below.refl _ W2).drew.trans hB);have HP3:=aq hp;clear hB hp;rcases HP3.o with⟨g1,g2,rfl⟩ | ⟨g1,-⟩
   . refine hK _ _ ?_
     clear hK K g1 g2 HP3;refine Q_1 19 1048575 rfl (fun K hK=>?_);go_simp;refine hK _ _ ?_;clear hK K;refine Q_X 20 38 2097151 (.slice none 0 0) rfl ?_;simp only [z0,z1,z2];refine Q_X 21 39 4194303 (.int .i64 10) rfl ?_;simp only [z0,z1,z2];refine Q_1 22 8388607 rfl (fun K hK=>?_);go_simp;refine hK _ _ ?_;clear hK K;refine Q_1 23 16777215 rfl (fun K hK=>?_);go_simp;refine hK _ _ ?_;clear hK K;refine Q_end ?_;go_wp2_with fail;go_step3;refine⟨rfl,?_⟩;go_wp2;simp only [Exit.jump];go_ret;have hB9:=HB2.o.trans (HB3.o.mono HB2.o.size);exact⟨hB9.mono HBS.o,fun q hq _ _=>hB9.block q hq,.inl ⟨HX.o.1,HX.o.2,rfl,HD2.o.below HB3.o⟩⟩
   . exact absurd HX.o (by omega)
 . have HX:=aq hx
   clear hx;go_wp2_with fail;go_step3;go_wp2_with fail;refine HNO.o.mono ?_;rintro e w1 ⟨rfl,rfl⟩;go_wp2_with fail;refine HSV.o.mono ?_;rintro e W2 ⟨rfl,hB⟩;have HB2:=aq hB;have HD2:=aq (HD.o.below hB);have HL2:=aq (Rdv.below HL.o hB);have HS:Hid (W2.drew.cell? ⟨D,0,none⟩=some (.int .i64 (k:Int))/\W2.drew.cell? ⟨D,1,none⟩=some (.int .i64 (f:Int))/\W2.drew.cell? ⟨D,2,none⟩=some (.int .i64 lim)):=aq ⟨HD2.o.b.cell rfl,HD2.o.b.cell rfl,HD2.o.b.cell rfl⟩;clear hB;go_wp2_with fail;refine Q_start (fun W9=>W9.cell? ⟨D,0,none⟩=some (.int .i64 (k:Int))/\W9.cell? ⟨D,1,none⟩=some (.int .i64 (f:Int))/\W9.cell? ⟨D,2,none⟩=some (.int .i64 lim)) 18 24 ?_;refine Q_W 0 19 1 (.pointer (some ⟨D,0,none⟩)) rfl HS.o ?_;simp only [z0,z1,z2];refine Q_W 1 20 3 (.pointer (some ⟨D,0,none⟩)) rfl HS.o ?_;simp only [z0,z1,z2];refine Q_W 2 21 7 (.pointer (some ⟨D,0,none⟩)) rfl HS.o ?_;simp only [z0,z1,z2];refine Q_W 3 22 15 (.pointer (some ⟨D,0,none⟩)) rfl HS.o ?_;simp only [z0,z1,z2];refine Q_T 4 23 31 (.int .i64 (k:Int)) [] rfl HS.o (.inl ⟨by rfl,fun W hS=>by obtain⟨s0,s1,s2⟩:=hS;go_simp⟩) ?_;simp only [z0,z1,z2];refine Q_W 5 24 63 (.pointer (some ⟨D,0,none⟩)) rfl HS.o ?_;simp only [z0,z1,z2];refine Q_W 6 25 127 (.pointer (some ⟨D,0,none⟩)) rfl HS.o ?_;simp only [z0,z1,z2];refine Q_W 7 26 255 (.pointer (some ⟨D,0,none⟩)) rfl HS.o ?_;simp only [z0,z1,z2];refine Q_W 8 27 511 (.pointer (some ⟨D,1,none⟩)) rfl HS.o ?_;simp only [z0,z1,z2];refine Q_T 9 28 1023 (.int .i64 (f:Int)) [] rfl HS.o (.inl ⟨by rfl,fun W hS=>by obtain⟨s0,s1,s2⟩:=hS;go_simp⟩) ?_;simp only [z0,z1,z2];refine Q_W 10 29 2047 (.pointer (some ⟨D,0,none⟩)) rfl HS.o ?_;simp only [z0,z1,z2];refine Q_W 11 30 4095 (.pointer (some ⟨D,0,none⟩)) rfl HS.o ?_;simp only [z0,z1,z2];refine Q_W 12 31 8191 (.pointer (some ⟨D,0,none⟩)) rfl HS.o ?_;simp only [z0,z1,z2];refine Q_W 13 32 16383 (.pointer (some ⟨D,2,none⟩)) rfl HS.o ?_;simp only [z0,z1,z2];refine Q_T 14 33 32767 (.int .i64 lim) [] rfl HS.o (.inl ⟨by rfl,fun W hS=>by obtain⟨s0,s1,s2⟩:=hS;go_simp⟩) ?_;simp only [z0,z1,z2];refine Q_W 15 34 65535 (.int .i64 (rv:Int)) rfl HS.o ?_;simp only [z0,z1,z2];refine Q_W 16 35 131071 (.slice A m c) rfl HS.o ?_;simp only [z0,z1,z2];refine Q_W 17 36 262143 (.int .i64 (m:Int)) rfl HS.o ?_;simp only [z0,z1,z2];refine Q_1 18 524287 rfl (fun K hK=>?_);go_simp;refine(HPO.o W2.drew).mono ?_;rintro e w3 ⟨hB,hp⟩;have HB3:Hid (Below W2.heap.size W2 w3):=aq ((Below.refl _ W2).drew.trans hB);have HP3:=aq hp;clear hB hp;rcases HP3.o with⟨g1,g2,rfl⟩ | ⟨g1,Ap,cp,T,hlen,rfl,hO⟩
   . exact absurd ⟨g1,g2⟩ HX.o
   . have HO3:=aq hO
     have HLE:=aq hlen;have HOR:=aq g1;refine hK _ _ ?_;clear hK K g1 HP3 hO hlen;refine Q_1 19 1048575 rfl (fun K hK=>?_);go_simp;refine hK _ _ ?_;clear hK K;refine Q_X 20 38 2097151 (.slice Ap m cp) rfl ?_;simp only [z0,z1,z2];refine Q_X 21 39 4194303 (.int .i64 0) rfl ?_;simp only [z0,z1,z2];refine Q_1 22 8388607 rfl (fun K hK=>?_);go_simp;refine hK _ _ ?_;clear hK K;refine Q_1 23 16777215 rfl (fun K hK=>?_);go_simp;refine hK _ _ ?_;clear hK K;refine Q_end ?_;have hD3:=HD2.o.below HB3.o;have hV:=hD3.ne;have hgeV:=Ownv.blk_of HD2.o.v HD2.o.ne;have hDV:some (blk V)≠some D:=own_ne_blk hD3.v hD3.b (by decide) hV
     have HCB:=aq (combined_any V (3*(k+4)) vc base vs Ap m cp _ A c l w3 hD3.v (Own.rd HO3.o) (Rdv.below HL2.o HB3.o) (fun hA e=>by
      have h9:=(Ownv.blk_of HO3.o hA).1;have h8:W2.heap.size<=blk Ap:=h9
      omega) HAV.o (fun j hj=>HPB.o T j (by have:=HLE.o;omega)) (by omega))
     have c43:=hD3.b.cell (j:=3) (v:=.slice V (3*(k+4)) vc) rfl;have HD3:=aq hD3;have HDV:=aq hDV;have HGV:=aq (And.intro (Ownv.blk_of HD2.o.v HD2.o.ne).1 hV);clear hD3 hV hgeV hDV;go_wp2_with fail;refine HCB.o.mono ?_;rintro e w4 ⟨⟨v,rfl⟩,hO4,hG4⟩;have hb4:=HD3.o.b.grown hG4 (fun e=>HDV.o (by rw [e]));have c44:=hb4.cell (j:=4) (v:=.int .i64 cnt) rfl;have f44:=hb4.frozen 4;have HB4:=aq hb4;have HO4:=aq hO4;have HG4:=aq hG4;have q9:IntKind.i64.wrap (cnt+(m:Int))=cnt+(m:Int):=IntWalk.i64_in _ (by omega);clear c43 hb4 hO4 hG4;go_wp2;rw [Exit.noGoto_ret];go_ret;have hs:=grownBy_set w4 D 4 (.int .i64 (cnt+(m:Int)));have hB9:=(HB2.o.trans (HB3.o.mono HB2.o.size)).mono HBS.o;have hB8:=(hB9.grown HG4.o (Nat.le_trans HBS.o (Nat.le_trans HB2.o.size HB3.o.size)) (fun r e=>by cases e;exact HGV.o.1))
     have hB7:=HB2.o.trans (HB3.o.mono HB2.o.size);exact⟨hB8.grown hs (Nat.le_trans HBS.o (Nat.le_trans HB2.o.size (Nat.le_trans HB3.o.size HG4.o.size))) (fun r e=>by cases e;exact HD3.o.d),fun q hq hD hV=>((hs.block q (Nat.lt_of_lt_of_le hq (Nat.le_trans hB7.size HG4.o.size)) (fun e=>hD (Option.some.inj e))).trans (HG4.o.block q (Nat.lt_of_lt_of_le hq hB7.size) (fun e=>hV (Option.some.inj e)))).trans (hB7.block q hq),.inr ⟨HOR.o,T,HLE.o,rfl,HB4.o.set 4 _,Ownv.grown HO4.o hs (fun hA=>HDV.o),HD3.o.d⟩⟩
end Go.Proofs.YthmhogdceolkdaaGreat
namespace Go.Proofs.YthmhogdceolkdaaGreat.Cr
open Tryz
open Go.RowKit
attribute [local go_sem] Oper.semAt_some
set_option maxRecDepth 100000
set_option maxHeartbeats 8000000
def DecD(N F rv:Nat)(lm hv kd:Int)(m:Nat)(l x:List Int):Prop:=(m=0\/Cr.usC ((Cr.bufL N F).take (Cr.szB N lm))≠0)/\kd=1/\∀ T,(Cr.selL ((Cr.bufL N F).take (Cr.szB N lm)) (Cr.stS N (Cr.szB N lm) rv) (Cr.szB N lm) T).length=m->FstK (cmbL (Cr.selL ((Cr.bufL N F).take (Cr.szB N lm)) (Cr.stS N (Cr.szB N lm) rv) (Cr.szB N lm) T) l (frL N F) m) hv x
theorem decd_ok(B c k lm hv:Int)(N F rv:Nat)(kd:Int)(S:Option Addr)(m cs:Nat)(l x:List Int)(w:World)(h1:40<=N)(h2:N<=496)(hF:F<N)(hlm:1<=lm)(hrv:rv<=3)(hm:m<=131072)(hl:Rd .i64 w S m cs l)(hs:SoftB l=true)(hSl:S≠none->blk S<w.heap.size)(hD:DecD N F rv lm hv kd m l x) :
 Calls prog 64 #[.agg #[.int .i64 B,.int .i64 c,.int .i64 k,.int .i64 lm,.int .i64 hv],.int .i64 (rv:Int),.int .i64 (N:Int),.int .i64 (F:Int),.int .i64 kd,.slice S m cs] w fun e w'=>∃ A',e= .returned (.slice A' x.length x.length)/\Rd .u8 w' A' x.length x.length x/\(A'≠none->w.heap.size<=blk A')/\Below w.heap.size w w':=by
 have HDD:=aq hD;have HL:=aq hl;have HC:Hid (Blk (w.alloc (.cells #[.int .i64 B,.int .i64 c,.int .i64 k,.int .i64 lm,.int .i64 hv] 25)) w.heap.size 25 (c5 B c k lm hv)):=aq (Blk.new w [.int .i64 B,.int .i64 c,.int .i64 k,.int .i64 lm,.int .i64 hv] 25 rfl);have HB:=aq (bal (Below.refl w.heap.size w) (.cells #[.int .i64 B,.int .i64 c,.int .i64 k,.int .i64 lm,.int .i64 hv] 25));have c3:=HC.o.cell (j:=3) (v:=.int .i64 lm) rfl;have HN:Hid (∀ W,Calls prog 119 #[.int .i64 (N:Int),.int .i64 (F:Int),.int .i64 lm] W fun e w'=>∃ D V,e= .returned (.tuple #[.pointer (some ⟨D,0,none⟩),.int .i64 0])/\DmS w' W.heap.size D N F lm V (3*(N+4)) (frL N F) 0/\Below W.heap.size W w'):=aq (fun W=>new_ok N F lm W h1 (by omega) hF hlm);clear hD hl;go_enter func64,ntmps64;go_wp2_with fail;refine(HN.o _).mono ?_;rintro e w1 ⟨D,V,rfl,hD1,hB1⟩;obtain⟨CB,hCB⟩:∃ x,x=w.heap.size:=⟨_,rfl⟩
 rw [<- hCB]at HC ⊢;clear hCB c3;generalize (w.alloc (.cells #[.int .i64 B,.int .i64 c,.int .i64 k,.int .i64 lm,.int .i64 hv] 25))=w0 at *;have HCL:=aq (Blk.lt HC.o);have HC1:=aq (HC.o.below hB1);have HL1:=aq ((HL.o.below HB.o).below hB1);have HD1:=aq hD1;have HZ0:=aq HB.o.size;have HZ1:=aq hB1.size;have HB1:=aq (HB.o.trans (hB1.mono HB.o.size));have hAV:S≠none->blk S≠blk V:=fun hS e=>by
  have h3:=hSl hS;have h4:=(Ownv.blk_of hD1.v hD1.ne).1;have h5:=HB.o.size;omega
 clear hB1 hD1 HN HC HB;dsimp only;go_wp2_with fail;refine(gotD_ok _).mono ?_;rintro e w2 ⟨rfl,rfl⟩;dsimp only;go_wp2_with fail;refine(add_any rv S m cs l _ HD1.o HL1.o hs hAV HZ1.o h1 (by omega) hF hlm hrv hm ⟨by omega,by omega⟩).mono ?_;rintro e w2 ⟨hB2,-,hP⟩;rcases hP with⟨h0,h9,-,-⟩ | ⟨-,T,hT,rfl,hD2⟩
 . rcases HDD.o.1 with h | h
   . exact absurd h h0
   . exact absurd h9 h
 have hE:=HDD.o.2.2 T hT;have hkd:=HDD.o.2.1;generalize cmbL (Cr.selL ((Cr.bufL N F).take (Cr.szB N lm)) (Cr.stS N (Cr.szB N lm) rv) (Cr.szB N lm) T) l (frL N F) m=vs at *;have HZ2:=aq hB2.size;have HC2:=aq (show Blk w2 CB 25 (c5 B c k lm hv) from(hB2.block CB HCL.o).trans HC1.o);have HD2:=aq hD2;have HD1K:=aq (fun A5 cz5 W hW=>show Calls prog 121 #[.slice A5 (3*(N+4)) cz5,.int .i64 kd,.int .i64 hv] W _ from by rw [hkd];exact dec_1 A5 (3*(N+4)) cz5 vs x hv W hW (by omega) hE);have HB2:=aq (HB1.o.trans (hB2.mono HZ0.o));clear hB2 hD2 hE hkd hT HDD HD1 HC1 HL1 HB1;dsimp only;go_wp2_with fail;refine(pmust_ok 10 _).mono ?_;rintro e w3 ⟨rfl,rfl⟩;dsimp only;go_wp2_with fail;have HS0:Hid (Blk w3.drew CB 25 (c5 B c k lm hv)/\DmS w3.drew w0.heap.size D N F lm V (3*(N+4)) vs (0+(m:Int))):=aq ⟨HC2.o.drew,⟨HD2.o.b.drew,Ownv.drew HD2.o.v,HD2.o.d⟩⟩;have HG0:=aq HB2.o.drew;clear HC2 HD2 HB2;refine Q_start (fun W9=>Blk W9 CB 25 (c5 B c k lm hv)/\DmS W9 w0.heap.size D N F lm V (3*(N+4)) vs (0+(m:Int))) 5 13 ?_;generalize w3.drew=w4 at *;refine Q_W 0 32 1 (.pointer (some ⟨D,0,none⟩)) rfl HS0.o ?_;simp only [z0,z1,z2];refine Q_W 2 34 5 (.int .i64 kd) rfl HS0.o ?_;simp only [z0,z1,z2];refine Q_W 3 35 13 (.pointer (some ⟨CB,4,none⟩)) rfl HS0.o ?_;simp only [z0,z1,z2];refine Q_T 4 36 29 (.int .i64 hv) [] rfl HS0.o (.inl ⟨by rfl,fun W hS=>by have s0:=Blk.cell hS.1 (j:=4) (v:=.int .i64 hv) rfl;go_simp⟩) ?_;simp only [z0,z1,z2];refine Q_1S 1 31 rfl (fun K hK=>?_);go_simp;refine(Go.Proofs.YthmhogdceolkdaaGreat.values_any HS0.o.2 (by omega)).mono ?_;rintro e w5 ⟨A5,cz5,rfl,hO5,hwx⟩;have HS5:Hid (Blk w5 CB 25 (c5 B c k lm hv)/\DmS w5 w0.heap.size D N F lm V (3*(N+4)) vs (0+(m:Int))):=aq ⟨HS0.o.1.below hwx,HS0.o.2.below hwx⟩;have HO5:=aq hO5;have HG5:=aq (HG0.o.trans (hwx.mono HG0.o.size));clear hwx hO5;refine hK _ _ HS5.o ?_;clear hK K;refine Q_1S 5 63 rfl (fun K hK=>?_);go_simp;refine(HD1K.o A5 cz5 _ HO5.o.rd).mono ?_;rintro e w6 ⟨R,rc,rfl,hX,hRn,hwx⟩;have HS6:Hid (Blk w6 CB 25 (c5 B c k lm hv)/\DmS w6 w0.heap.size D N F lm V (3*(N+4)) vs (0+(m:Int))):=aq ⟨HS5.o.1.below hwx,HS5.o.2.below hwx⟩;have HX:=aq hX;have HRF:Hid (R≠none->w.heap.size<=blk R):=aq (fun h=>Nat.le_trans HG5.o.size (hRn h));have HG6:=aq (HG5.o.trans (hwx.mono HG5.o.size));clear hwx hX hRn;refine hK _ _ HS6.o ?_;clear hK K;refine Q_X 6 31 127 (.tuple #[.slice R x.length rc,.int .i64 1,.int .i64 0]) rfl ?_;simp only [z0,z1,z2];refine Q_X 7 38 255 (.slice R x.length rc) rfl ?_;simp only [z0,z1,z2];refine Q_X 8 39 511 (.int .i64 1) rfl ?_;simp only [z0,z1,z2];refine Q_X 9 40 1023 (.int .i64 0) rfl ?_;simp only [z0,z1,z2];refine Q_1 10 2047 rfl (fun K hK=>?_);go_simp;refine hK _ _ ?_;clear hK K;refine Q_1 11 4095 rfl (fun K hK=>?_);go_simp;refine hK _ _ ?_;clear hK K;refine Q_1 12 8191 rfl (fun K hK=>?_);go_simp;refine hK _ _ ?_;clear hK K;refine Q_end ?_;go_wp2_with fail;refine(pmust_ok 11 _).mono ?_;rintro e w7 ⟨rfl,rfl⟩;dsimp only;have HXx:Hid (Rd .u8 w7 R x.length rc x):=aq HX.o;have hsl:=Rdv.slm HXx.o el26 .i64 .i64 (m:=x.length) (Rdv.le HXx.o);go_wp2;go_ret;exact⟨R,rfl,by have:=Rd.capped HXx.o (Nat.le_refl x.length);rwa [List.take_of_length_le (Nat.le_refl _)]at this,HRF.o,HG6.o⟩
open Go.Shelf
theorem round_depth{m m':Nat}{P:Program}{l:Nat}{f:FuncId}{tmps:Array Value}{assign body:Code}{w:World}{R:Ending->World->Prop}(h:RoundIn Fence.wide m P l f tmps assign body w R):RoundIn Fence.wide m' P l f tmps assign body w R:=⟨h.1,fun c cs _=>h.2 c cs (fun d e=>by cases e)⟩
theorem yield_depth{m:Nat}(m' q:Nat){P:Program}{l:Nat}{args:Array Value}{W:World}{R:Ending->World->Prop}(h:YieldAt Fence.wide m P l args W R):YieldAt (Fence.wide.inRound q) m' P l args W R:=by
 obtain⟨fn,tmps,assign,body,hy,hR⟩:=h;exact⟨fn,tmps,assign,body,hy,round_depth hR⟩
def ownPostX{α:Type}(B:Nat)(Kp:World->World->Prop)(I:List α->World->Prop)(Ix:Code->List α->World->Prop)(xs:List α)(W:World):Exit->Act->World->Prop
 | .normal,_,W'=>KeepsFrom B W W'/\Kp W W'/\I xs W'
 | .ret,_,W'=>KeepsFrom B W W'/\Kp W W'/\Ix .ret xs W'
 | .exit id,_,W'=>KeepsFrom B W W'/\Kp W W'/\Ix (.exit id) xs W'
 | .goto t,_,W'=>KeepsFrom B W W'/\Kp W W'/\Ix (.goto t) xs W'
 | .panic _,_,_=>False
 | .outgrown,_,_=>False
theorem calls_depth{m:Nat}(m':Nat){P:Program}{f:FuncId}{args:Array Value}{w:World}{R:Ending->World->Prop}(h:CallsIn Fence.wide m P f args w R):CallsIn Fence.wide m' P f args w R:=callsIn_wide.2 (callsIn_wide.1 h)
def SeqX{α:Type}(m y gf:Nat)(lb:Array Value)(encs:α->Array Value)(Kp:World->World->Prop)(S Sp:List α->Prop)(Ok:List α->α->World->Prop)(w:World):Prop :=
 ∀ (l:Nat) (J Jx:List α->World->Prop) (W:World),Below w.heap.size w W->w.heap.size+2<=W.heap.size->ClB J->ClB Jx->ClP W.heap.size J->ClP W.heap.size Jx ->
  (∀ pre x W1,J pre W1->Ok pre x W1->YieldAt Fence.wide y prog l (encs x) W1 fun e W' =>
    (e= .returned (.bool true)/\J (pre ++ [x]) W'/\Kp W1 W')\/(e= .returned (.bool false)/\Jx (pre ++ [x]) W'/\Kp W1 W')) ->
  J [] W ->
  CallsIn Fence.wide m prog gf (#[.func (.yield l) #[] #[]] ++ lb) W fun e W'=>(∃ v,e= .returned v)/\((∃ xs,S xs/\J xs W')\/(∃ pre,Sp pre/\Jx pre W'))
theorem rangeX{α:Type}{g:Operand}{ps:Array Tmp}{assign body:Code}{Q:Exit->Act->World->Prop}{a:Act}{w:World}
 {gf:Nat} {lb:Array Value} (hg:a.eval g= .func (.func gf) #[] lb) (eg:∀ args w,(callFunc gf args).run prog w= .ok (.enter gf args) w)
 {encs:α->Array Value} {Kp:World->World->Prop} {S Sp:List α->Prop} {Ok:List α->α->World->Prop} {w0:World} {d y:Nat} (hseq:SeqX (d+2) y gf lb encs Kp S Sp Ok w0) (hOk:∀ pre x W l o o',Ok pre x W->W.heap[l]?=some o->o.isCells=false->Ok pre x (W.putObj l o'))
 (hKt:∀ {A B C:World},Kp A B->Kp B C->Kp A C) (hKb:∀ (W:World) (o o':Obj),W.heap[w.heap.size+1]?=some o->o.isCells=false->Kp W (W.putObj (w.heap.size+1) o')) (hb0:Below w0.heap.size w0 w) (hps:∀ x,(encs x).size=ps.size)
 (I:List α->World->Prop) (Ix:Code->List α->World->Prop) (hI:ClB I) (hIx:∀ c,ClB (Ix c)) (hIp:ClP w.heap.size I) (hIxp:∀ c,ClP w.heap.size (Ix c)) (h0:I [] w) (a₁:α->Act)
 (hassign:∀ (l:Nat) (x:α) (W:World) (K:Act->World->Prop),K (a₁ x) W ->
   assign.wpIn (Fence.wide.inRound l) y prog (Exit.then K (fun _ _ _=>False)) {tmps:=(ps.zip (encs x)).foldl (fun t (p,v)=>t.setIfInBounds p v) a.tmps,defers:=[]} W)
 (hbody:∀ (l:Nat) (pre:List α) (x:α) (W:World),I pre W->Ok pre x W->body.wpIn (Fence.wide.inRound l) y prog (ownPostX w.heap.size Kp I Ix (pre ++ [x]) W) (a₁ x) W)
 (hdone:∀ (D:Nat) (xs:List α) (W:World),w.heap.size<=D->S xs->I xs W->W.heap[D]?=some (.deferred (some []))->Q .normal {a with defers:={target:=.collected D,args:=#[]} :: a.defers} W)
 (hstop:∀ (D:Nat) (c:Code) (pre:List α) (W:World),w.heap.size<=D->Sp pre->Ix c pre W->W.heap[D]?=some (.deferred (some []))->c.wpIn Fence.wide (d+3) prog Q {a with defers:={target:=.collected D,args:=#[]} :: a.defers} W) :
 (Code.rangeFunc g ps assign body).wpIn Fence.wide (d+3) prog Q a w:=by
 refine wpIn_rangeFunc fun fn hfn=>?_;obtain⟨n,hn⟩:∃ n,n=w.heap.size:=⟨_,rfl⟩
 rw [<- hn]at hKb hIp hIxp hdone hstop hbody;obtain⟨rc,hrc⟩:∃ rc:LoopState->Option Code->Loop,rc=fun st pe=>{state:=st,pending:=pe,fn,tmps:=a.tmps,params:=ps,assign,body,defers:=n}:=⟨_,rfl⟩
 obtain⟨W1,hW1⟩:∃ W1,W1=(w.alloc (.deferred (some []))).alloc (.loop (rc .ready none)):=⟨_,rfl⟩
 have hs1:W1.heap.size=n+2:=by rw [hW1,hn];simp
 have hL1:W1.heap[n+1]?=some (.loop (rc .ready none)):=by
  rw [hW1,hn];have h:=World.alloc_heap_new (w.alloc (.deferred (some []))) (.loop (rc .ready none));rwa [World.size_alloc]at h
 have hK1:W1.heap[n]?=some (.deferred (some [])):=by
  rw [hW1,hn];exact(Below.heap_alloc _ _ _ (by simp)).trans (World.alloc_heap_new w _)
 have hI1:I [] W1:=by rw [hW1];exact hI.alloc _ (hI.alloc _ h0)
 have hb1:Below w0.heap.size w0 W1:=by
  rw [hW1];exact hb0.trans ((((Below.refl _ w).alloc (Nat.le_refl _) _).alloc (by simp) _).mono hb0.size)
 have two:∀ {A B:World} {row:Option Nat} {o p:Obj},A.grownBy B row->(∀ r,row=some r->W1.heap.size<=r)->A.heap[n+1]?=some o/\A.heap[n]?=some p->B.heap[n+1]?=some o/\B.heap[n]?=some p:=fun {A B row o p} hgr hr h =>
  ⟨(hgr.block _ (Array.getElem?_eq_some_iff.1 h.1).1 (fun e=>by have:=hr _ e.symm;omega)).trans h.1,(hgr.block _ (Array.getElem?_eq_some_iff.1 h.2).1 (fun e=>by have:=hr _ e.symm;omega)).trans h.2⟩
 have up:∀ {row:Option Nat},(∀ r,row=some r->W1.heap.size<=r)->∀ r,row=some r->n<=r:=fun hr r e=>by have:=hr r e;omega
 refine⟨n+1,[{target:=.collected n,args:=#[]}],W1,{target:=.fn (.func gf) lb,args:=#[.func (.yield (n+1)) #[] #[]]},W1,gf,#[.func (.yield (n+1)) #[] #[]] ++ lb,W1,?_,?_,?_,?_,fun _=>by omega,?_⟩
 . rw [hW1,hrc,hn]
   exact run_enterLoop_outer _ _ _ _ _
 . simp only [resolve,hg]
   simp [go_sem]
 . intro f hf
   simp [Target.leads]at hf;subst hf;trivial
 . simp [invoke,go_sem,eg]
 refine(hseq (n+1)
  (fun pre W=>I pre W/\W.heap[n+1]?=some (.loop (rc .ready none))/\W.heap[n]?=some (.deferred (some [])))
  (fun pre W=>∃ c,Ix c pre W/\W.heap[n+1]?=some (.loop (rc .done (some c)))/\W.heap[n]?=some (.deferred (some [])))
  W1 hb1 (by have:=hb0.size;omega) (fun s A B hs hb=>⟨hI s A B hs.1 hb,two (grown_of_below hb) nofun hs.2⟩)
  (fun s A B ⟨c,hc,hs⟩ hb=>⟨c,hIx c s A B hc hb,two (grown_of_below hb) nofun hs⟩)
  (fun s A q o o' hs hq ho hc=>⟨hIp _ _ _ _ _ hs.1 (by omega) ho hc,(World.putObj_heap_other (by omega)).trans hs.2.1,(World.putObj_heap_other (by omega)).trans hs.2.2⟩)
  (fun s A q o o' ⟨c,hx,hs⟩ hq ho hc=>⟨c,hIxp c _ _ _ _ _ hx (by omega) ho hc,(World.putObj_heap_other (by omega)).trans hs.1,(World.putObj_heap_other (by omega)).trans hs.2⟩) ?_ ⟨hI1,hL1,hK1⟩).mono ?_
 . rintro pre x W ⟨hi,hl,hk⟩ hlen
   have hlt:n+1<W.heap.size:=(Array.getElem?_eq_some_iff.1 hl).1;obtain⟨Wb,hWb⟩:∃ Wb,Wb=W.putObj (n+1) (.loop {rc .ready none with state:=.busy}):=⟨_,rfl⟩
   have hlb:Wb.heap[n+1]?=some (.loop {rc .ready none with state:=.busy}):=by rw [hWb];exact World.putObj_heap_same hlt
   have hkb:Wb.heap[n]?=some (.deferred (some [])):=by rw [hWb];exact(World.putObj_heap_other (by omega)).trans hk
   have hib:I pre Wb:=by rw [hWb];exact hIp _ _ _ _ _ hi (by omega) hl rfl
   have hpb:Kp W Wb:=by rw [hWb];exact hKb _ _ _ hl rfl
   have hyl:=run_yield (P:=prog) (args:=encs x) hl (by rw [hrc];exact hps x);rw [hrc]at hyl;refine⟨fn,_,assign,body,hyl,roundIn_of_wpIn hfn (hassign _ x W _ ⟨_,run_beginRound hl (by rw [hrc]),?_⟩)⟩;rw [<- hWb];refine wpIn_mono (hbody _ pre x _ hib (by rw [hWb];exact hOk _ _ _ _ _ _ hlen hl rfl)) ?_;have close:∀ (jump:Option Code) (W3:World),KeepsFrom n Wb W3->∃ W4,W4=W3.putObj (n+1) (.loop (rc (if jump.isNone then .ready else .done) jump))/\(Instr.endRound (n+1) jump).run prog W3= .ok (.bool jump.isNone) W4 /\
    (∃ o:Obj,W3.heap[n+1]?=some o/\o.isCells=false)/\W4.heap[n+1]?=some (.loop (rc (if jump.isNone then .ready else .done) jump))/\W4.heap[n]?=some (.deferred (some [])):=fun jump W3 hk3=>by
    have hl3:=hk3.same _ _ (by omega) hlb rfl;have hr3:=run_endRound (P:=prog) jump hl3;rw [hrc]at hr3 ⊢;exact⟨_,rfl,hr3,⟨_,hl3,rfl⟩,World.putObj_heap_same (Array.getElem?_eq_some_iff.1 hl3).1,(World.putObj_heap_other (by omega)).trans (hk3.same _ _ (by omega) hkb rfl)⟩
   have away:∀ (c:Code) (W3:World),KeepsFrom n Wb W3->Kp Wb W3->Ix c (pre ++ [x]) W3->∃ v W4,(Instr.endRound (n+1) (some c)).run prog W3= .ok v W4/\v= .bool false/\Kp W W4/\∃ c',Ix c' (pre ++ [x]) W4/\W4.heap[n+1]?=some (.loop (rc .done (some c')))/\W4.heap[n]?=some (.deferred (some [])):=fun c W3 hk3 hp3 hi3=>by
    obtain⟨W4,e4,hr,⟨o,ho,hc⟩,h1,h2⟩:=close (some c) W3 hk3;exact⟨_,W4,hr,rfl,hKt (hKt hpb hp3) (by rw [e4];exact hKb _ _ _ ho hc),c,by rw [e4];exact hIxp c _ _ _ _ _ hi3 (by omega) ho hc,h1,h2⟩
   rintro e a3 W3 hp;cases e with
   | normal =>
     obtain⟨hk3,hp3,hi3⟩:=hp;obtain⟨W4,e4,hr,⟨o,ho,hc⟩,h1,h2⟩:=close none W3 hk3;refine⟨_,W4,hr,.inl ⟨rfl,⟨?_,h1,h2⟩,hKt (hKt hpb hp3) ?_⟩⟩
     . rw [e4];exact hIp _ _ _ _ _ hi3 (by omega) ho hc
     . rw [e4];exact hKb _ _ _ ho hc
   | ret =>
     obtain⟨v,W4,hr,hv,hkk,h⟩:=away .ret W3 hp.1 hp.2.1 hp.2.2;exact⟨v,W4,hr,.inr ⟨by rw [hv],h,hkk⟩⟩
   | exit id =>
     obtain⟨v,W4,hr,hv,hkk,h⟩:=away (.exit id) W3 hp.1 hp.2.1 hp.2.2;exact⟨v,W4,hr,.inr ⟨by rw [hv],h,hkk⟩⟩
   | goto t =>
     obtain⟨v,W4,hr,hv,hkk,h⟩:=away (.goto t) W3 hp.1 hp.2.1 hp.2.2;exact⟨v,W4,hr,.inr ⟨by rw [hv],h,hkk⟩⟩
   | panic ch=>exact hp.elim
   | outgrown=>exact hp.elim
 . rintro e W2 ⟨⟨v,rfl⟩,h⟩
   rcases h with⟨xs,hS,hi,hl,hk⟩ | ⟨pre,hSp,c,hi,hl,hk⟩
   . have hr:=run_endLoop (P:=prog) hl (by rw [hrc];simp)
     rw [hrc]at hr;exact⟨none,_,hr,hdone _ xs _ (Nat.le_refl _) hS (hIp _ _ _ _ _ hi (by omega) hl rfl) ((World.putObj_heap_other (by omega)).trans hk)⟩
   . have hr:=run_endLoop (P:=prog) hl (by rw [hrc];simp)
     rw [hrc]at hr;exact⟨some c,_,hr,hstop _ c pre _ (Nat.le_refl _) hSp (hIxp c _ _ _ _ _ hi (by omega) hl rfl) ((World.putObj_heap_other (by omega)).trans hk)⟩
section
variable {P : Program} {ops : Array Oper} {Q : Exit -> Act -> World -> Prop} {l n : Nat}
theorem operIn_round{o:Oper}{a:Act}{w:World}{K:Act->World->Prop}(hd:∀ c,o.op≠.defer c)(h:o.wpIn Fence.wide n P a w K Q):o.wpIn (Fence.wide.inRound l) n P a w K Q:=by
 refine⟨fun _ _=>trivial,?_⟩;have h2:=h.2;rw [Oper.semAt_eq _ _ _ hd]at h2 ⊢;cases hr:(execOp a.eval o).run P w with
 | ok x w' =>
   rw [hr]at h2;cases x<;>exact h2
 | halt x w' =>
   rw [hr]at h2;cases x<;>exact h2
theorem anyIn_round(hd:noDefer ops=true){md:Region.Mode}:∀ (fuel:Nat) (listed:Array Bool) (a:Act) (w:World),wpAnyIn Fence.wide n P md ops Q fuel listed a w->wpAnyIn (Fence.wide.inRound l) n P md ops Q fuel listed a w
 | 0,_,_,_,h=>h
 | fuel+1,listed,a,w,h=>by
   refine⟨h.1,fun i hi=>?_⟩;have h1:=h.2 i hi;unfold wpOpIn at h1 ⊢;cases ho:ops[i]? with
   | none=>rw [ho]at h1;exact anyIn_round hd _ _ _ _ h1
   | some o =>
     rw [ho]at h1;simp only at h1 ⊢;split
     . rename_i hw
       rw [if_pos hw]at h1;exact Oper.wpIn_mono (fun a w=>anyIn_round hd _ _ _ _) (operIn_round (noDefer_spec hd ho) h1)
     . rename_i hw
       rw [if_neg hw]at h1;exact⟨fun _ _=>trivial,anyIn_round hd _ _ _ _ h1.2⟩
theorem PI_round{id:Nat}{a:Act}{w:World}(S:World->Prop)(p m:Nat)(l0:Array Bool)(hn:ops.size=m)(hl:Array.replicate m false=l0)(hm:P.follows .mixedOrders=true)(hd:noDefer ops=true)(h:wpInP Fence.wide n P .any ops Q S p m l0 a w.drew):(Code.region id ops true).wpIn (Fence.wide.inRound l) n P Q a w:=by
 subst hl;subst hn;exact wpIn_region_any hm (anyIn_round hd _ _ _ _ (wpAnyIn_of_P _ _ _ _ h))
end
def KpL(LB:Nat)(ls:List Value)(A B:World):Prop:=Blk A LB 122 ls->Blk B LB 122 ls
def OkL(b:Int)(pre:List (Int × Int))(x:Int × Int)(_:World):Prop:=pre=(psE b).take pre.length/\pre.length<nE b/\x=((pre.length:Int),(sz b.toNat pre.length:Int))
def EaX(b:Int)(J Jx:List (Int × Int)->World->Prop)(e:Ending)(W':World):Prop:=(∃ v,e= .returned v)/\((∃ ys,ys=psE b/\J ys W')\/(∃ pre:List (Int × Int),True/\Jx pre W'))
theorem each_inX(m y:Nat)(b:Int)(LB:Nat)(x0 x1 x2 x3 x4 x5 x6:Int)(hE:EaL b x0 x1 x2 x3 x4 x5 x6)(w:World)(hw:Blk w LB 122 (ints8 [x0,x1,x2,x3,x4,x5,x6])) :
 SeqX m y 110 #[.pointer (some ⟨LB,0,none⟩)] encP (KpL LB (ints8 [x0,x1,x2,x3,x4,x5,x6])) (fun ys=>ys=psE b) (fun _=>True) (OkL b) w:=by
 intro l J Jx W hBW _ hJ hJx _ _ hY h0;have HLB:=aq (hw.below hBW);clear hw hBW;obtain⟨rfl,hs⟩:=hE;have HS:=aq hs;have hn:=nE_le b;obtain⟨⟨c0,c1,c2,c3,c4,c5,c6⟩,-⟩:=Blk.seven HLB.o;have H0:=aq h0;clear hs h0;refine CallsIn.mono (R:=EaX b J Jx) ?_ (fun e w h=>h);refine calls_depth (m:=2) m ?_;refine callsIn_of_wp func110 rfl trivial ?_ rfl;simp only [ntmps110,List.size_toArray,List.length_cons,List.length_nil,Nat.reduceAdd,Nat.reduceSub,Array.replicate_succ,Array.replicate_zero,List.push_toArray,List.append_toArray,List.nil_append,List.cons_append];refine wpIn_scope_straight rfl ?_;refine wpIn_seq_k fun K hK=>?_;refine wpIn_label ?_;refine hK _ _ ?_;clear hK K;gi_wp2_with fail;gi_loopw [6] (fun i wr=>∃ k:Nat,k<=nE b/\i= .int .i64 k/\J ((psE b).take k) wr/\Blk wr LB 122 (ints8 [x0,(nE b:Int),x2,x3,x4,x5,x6])) (fun i _=>nE b - (intOf i).toNat)
 case atStart=>exact⟨0,Nat.zero_le _,rfl,H0.o,HLB.o⟩
 case round =>
  obtain⟨k,hk,rfl,hJs,hL⟩:=hrel;have HJk:=aq hJs;have HLk:=aq hL;clear hJs;by_cases hlt:k<nE b
  . have hsz:=HS.o k hlt
    simp only [ints8,List.map_cons,List.map_nil]at hL;gi_wp2_with (refine listIn_of rfl nofun fun K hK=>wp_ldrow (cs:=[.int .i64 x0,.int .i64 (nE b:Int),.int .i64 x2,.int .i64 x3,.int .i64 x4,.int .i64 x5,.int .i64 x6]) 122 (.tmp 1) rfl rfl hL _ underlying122 rfl (by rw [info23];rfl) ?_;refine hK _ _ ?_;clear hK K);refine⟨by simp [Fence.wide],?_⟩;refine CallsIn.mono (callsIn_wide.2 (size_any x0 (nE b:Int) x2 x3 x4 x5 x6 (k:Int) _)) ?_;rintro e w4 ⟨rfl,hB4⟩;rw [<- hsz];have HJ4:=aq (hJ.call HJk.o hB4);have HL4:=aq (HLk.o.below hB4);have HPS:=aq (psE_succ b k hlt);clear hL hB4 hsz HJk HLk;have hpl:((psE b).take k).length=k:=by rw [List.length_take,psE_len];omega
    obtain⟨fn,tmps,assign,body,hy,hRD⟩:=yield_depth (m:=y) 1 0 (hY _ ((k:Int),(sz b.toNat k:Int)) _ HJ4.o ⟨by rw [hpl],by rw [hpl];exact hlt,by rw [hpl]⟩);unfold encP at hy;have HRD:Hid (RoundIn Fence.wide 1 prog l fn tmps assign body w4 fun e W'=>e= .returned (.bool true)/\J ((psE b).take k ++ [((k:Int),(sz b.toNat k:Int))]) W'/\KpL LB (ints8 [x0,(nE b:Int),x2,x3,x4,x5,x6]) w4 W'\/e= .returned (.bool false)/\Jx ((psE b).take k ++ [((k:Int),(sz b.toNat k:Int))]) W'/\KpL LB (ints8 [x0,(nE b:Int),x2,x3,x4,x5,x6]) w4 W'):=aq hRD;clear hRD;gi_wp2_with fail;refine HRD.o.mono ?_;rintro e W7 (⟨rfl,hJ7,hk7⟩ | ⟨rfl,hJx7,-⟩)
    . gi_wp2
      go_roundw
      case rel=>exact⟨k+1,by omega,by go_num,by rw [HPS.o];exact hJ7,hk7 HL4.o⟩
      case measure=>simp [intOf];omega
    . gi_wp2
      go_end0;exact⟨⟨_,rfl⟩,.inr ⟨_,trivial,hJx7⟩⟩
  . obtain rfl:k=nE b:=by omega
    clear hL;gi_wp2;go_end0;exact⟨⟨_,rfl⟩,.inl ⟨_,List.take_of_length_le (Nat.le_of_eq (psE_len b)),HJk.o⟩⟩
end Go.Proofs.YthmhogdceolkdaaGreat.Cr