/- Bundle. Conditions: none. -/
import Derived.Test.YthmhogdceolkdaaGreatBqbr
import Derived.Test.YthmhogdceolkdaaGreatBqbp
set_option linter.unusedVariables false
set_option linter.unusedSimpArgs false
namespace Go.Proofs.YthmhogdceolkdaaGreat.Cr
open Tryz
open Go.RowKit Go.Shelf
attribute [local go_sem] Oper.semAt_some
set_option maxRecDepth 100000
set_option maxHeartbeats 8000000
def psP(b:Int)(sh:List Int):List (Int × Int):=(List.range (nE b)).map fun(i:Nat)=>((sz b.toNat i:Int),gi sh i)
theorem psP_len(b:Int)(sh:List Int):(psP b sh).length=nE b:=by simp [psP]
theorem psP_succ(b:Int)(sh:List Int)(k:Nat)(h:k<nE b):(psP b sh).take (k+1)=(psP b sh).take k ++ [((sz b.toNat k:Int),gi sh k)]:=by
 rw [takeP_succ _ _ (by rw [psP_len];exact h)];simp [psP]
def OkPs(b:Int)(sh:List Int)(pre:List (Int × Int))(x:Int × Int)(_:World):Prop:=pre.length<nE b/\pre=(psP b sh).take pre.length/\x=((sz b.toNat pre.length:Int),gi sh pre.length)
structure KpP (N EB TB:Nat) (cs:List Value) (A B:World):Prop where
 z:A.heap.size<=B.heap.size
 k:∀ k o,N<=k->A.heap[k]?=some o->(∀ x y,o≠.cells x 53 y)->B.heap[k]?=some o
 e:Blk A EB 30 [.int .i64 0]->Blk B EB 30 [.int .i64 0]
 t:Blk A TB 36 cs->Blk B TB 36 cs
theorem KpP.blk{N EB TB b:Nat}{cs us:List Value}{t:TypeId}{A B:World}(h:KpP N EB TB cs A B)(hb:Blk A b t us)(hN:N<=b)(ht:t≠53):Blk B b t us:=h.k b _ hN hb (fun x y e=>ht (by cases e;rfl))
theorem KpP.from{N EB TB:Nat}{cs:List Value}{A B:World}(h:KpP N EB TB cs A B){B':Nat}(hB:N<=B'):KeepsFrom B' A B:=⟨h.z,fun k o hk ho hc=>h.k k o (Nat.le_trans hB hk) ho (fun x y e=>by subst e;cases hc)⟩
theorem Ownv.heq{e:TypeId}{w w':World}{base:Nat}{A:Option Addr}{n c:Nat}{vs:List Value}(h:Ownv e w base A n c vs)(hk:A≠none->w'.heap[blk A]?=w.heap[blk A]?):Ownv e w' base A n c vs:=by
 obtain⟨hl,h⟩:=h.ow;refine⟨⟨hl,?_⟩⟩;rcases h with hn | ⟨g,cap,cur,hv,hb,hg,hr⟩
 . exact .inl hn
 . simp only [Value.slice.injEq]at hv
   obtain⟨rfl,-,rfl⟩:=hv;exact .inr ⟨g,_,cur,rfl,hb,(hk (by simp)).trans hg,hr⟩
structure InP (N0 EB TB XB CB LB q:Nat) (A:Option Addr) (N c:Nat) (sh:List Int) (cs ls:List Value) (W:World):Prop where
 y:Blk W XB 113 [.func (.yield q) #[] #[]]
 b:Blk W CB 51 [.slice A N c]
 o:Own .i64 3 W N0 A N c sh
 e:Blk W EB 30 [.int .i64 0]
 t:Blk W TB 36 cs
 l:Blk W LB 122 ls
section
variable {N0 EB TB XB CB LB q N c : Nat} {A : Option Addr} {sh : List Int} {cs ls : List Value} {W W' : World}
theorem InP.below(h:InP N0 EB TB XB CB LB q A N c sh cs ls W)(hB:Below W.heap.size W W'):InP N0 EB TB XB CB LB q A N c sh cs ls W':=⟨h.y.below hB,h.b.below hB,Ownv.below h.o hB,h.e.below hB,h.t.below hB,h.l.below hB⟩
theorem InP.put(h:InP N0 EB TB XB CB LB q A N c sh cs ls W){l:Nat}{o:Obj}(o':Obj)(hl:W.heap[l]?=some o)(ho:o.isCells=false):InP N0 EB TB XB CB LB q A N c sh cs ls (W.putObj l o'):=⟨h.y.put o' hl ho,h.b.put o' hl ho,Ownv.put h.o o' hl ho,h.e.put o' hl ho,h.t.put o' hl ho,h.l.put o' hl ho⟩
theorem InP.kp(h:InP N0 EB TB XB CB LB q A N c sh cs ls W)(k:KpP N0 EB TB cs W W')(h1:N0<=XB)(h2:N0<=CB)(h3:N0<=LB):InP N0 EB TB XB CB LB q A N c sh cs ls W' :=
 ⟨k.blk h.y h1 (by decide),k.blk h.b h2 (by decide),Ownv.heq h.o (fun hA=>by
   obtain⟨-,g2⟩:=Ownv.cases h.o;rcases g2 with⟨rfl,-⟩ | ⟨g,cur,rfl,hb,hh,-⟩
   . exact absurd rfl hA
   . exact(k.k g _ hb hh (fun x y e=>by cases e)).trans hh.symm),k.e h.e,k.t h.t,k.blk h.l h3 (by decide)⟩
end
def PaX(b:Int)(sh:List Int)(J Jx:List (Int × Int)->World->Prop)(e:Ending)(W':World):Prop:=(∃ v,e= .returned v)/\((∃ ys,ys=psP b sh/\J ys W')\/(∃ pre:List (Int × Int),True/\Jx pre W'))
theorem eachX_any(b:Int)(w:World):Calls prog 57 #[.int .i64 b] w fun e w'=>∃ LB x0 x1 x2 x3 x4 x5 x6,e= .returned (.func (.func 110) #[] #[.pointer (some ⟨LB,0,none⟩)])/\EaL b x0 x1 x2 x3 x4 x5 x6/\Blk w' LB 122 (ints8 [x0,x1,x2,x3,x4,x5,x6])/\w.heap.size<=LB/\Below w.heap.size w w':=by
 have hmf:∀ (fn:Fn) (first cap:Array Value) (w:World),(Instr.makeFunc fn first cap).run prog w= .ok (.func fn first cap) w:=fun _ _ _ _=>rfl;go_enter func57,ntmps57;go_wp2_with fail;refine(plan_all b w).mono ?_;rintro e w1 ⟨x0,x1,x2,x3,x4,x5,x6,E,rfl,hE,hB1⟩;have HL:=aq (Blk.new w1 (ints8 [x0,x1,x2,x3,x4,x5,x6]) 122 rfl);have HB:=aq (bal hB1 (.cells (ints8 [x0,x1,x2,x3,x4,x5,x6]).toArray 122));have HZ:=aq hB1.size;have HE:=aq hE;clear hE hB1;have HL0:=HL.o;simp only [ints8,List.map_cons,List.map_nil]at HL HB;go_wp2;go_ret;exact⟨_,x0,x1,x2,x3,x4,x5,x6,rfl,HE.o,HL0,HZ.o,HB.o⟩
theorem parts_in(m' y N:Nat)(s rm m lm rv b:Int)(sh:List Int)(EB TB:Nat)(w:World)(hN:nE b=N)(hw:wrap64 (s+24)=b)
 (hSH:∀ W,Calls prog 56 #[.agg #[.int .i64 s,.int .i64 rm,.int .i64 m,.int .i64 lm,.int .i64 rv]] W fun e w'=>∃ A c,e= .returned (.tuple #[.slice A N c,.int .i64 0])/\Own .i64 3 w' W.heap.size A N c sh/\Below W.heap.size W w')
 (hE:Blk w EB 30 [.int .i64 0]) (hT:Blk w TB 36 (c5 s rm m lm rv)) :
 SeqX m' y 55 #[.pointer (some ⟨EB,0,none⟩),.pointer (some ⟨TB,0,none⟩)] encP (KpP (w.heap.size+2) EB TB [.int .i64 s,.int .i64 rm,.int .i64 m,.int .i64 lm,.int .i64 rv]) (fun ys=>ys=psP b sh) (fun _=>True) (OkPs b sh) w:=by
 intro l J Jx W hBW hsz hJ hJx hJp hJxp hY h0;have HW:=aq hBW.size;have HSZ:=aq hsz;have HE0:=aq (hE.below hBW);have HT0:=aq (hT.below hBW);have HSH:=aq hSH;have HN:=aq hN;have HY:Hid (∀ pre x W1,J pre W1->OkPs b sh pre x W1->YieldAt Fence.wide y prog l (encP x) W1 fun e W'=>(e= .returned (.bool true)/\J (pre ++ [x]) W'/\KpP (w.heap.size+2) EB TB [.int .i64 s,.int .i64 rm,.int .i64 m,.int .i64 lm,.int .i64 rv] W1 W')\/(e= .returned (.bool false)/\Jx (pre ++ [x]) W'/\KpP (w.heap.size+2) EB TB [.int .i64 s,.int .i64 rm,.int .i64 m,.int .i64 lm,.int .i64 rv] W1 W')):=aq hY;have H0:=aq h0;have HBY:=aq (bal (Below.refl W.heap.size W) (.cells #[.func (.yield l) #[] #[]] 113));have HYB:Hid (Blk (W.alloc (.cells #[.func (.yield l) #[] #[]] 113)) W.heap.size 113 [.func (.yield l) #[] #[]]):=aq (Blk.new W _ _ rfl);have HT1:=aq (HT0.o.below HBY.o);have HE1:=aq (HE0.o.below HBY.o);have HJ1:=aq (hJ _ _ _ H0.o HBY.o);have e0:=HE1.o.cell (j:=0) (v:=.int .i64 0) rfl;clear hE hT hY h0 hBW HE0 HT0 hSH hN hsz;refine CallsIn.mono (R:=PaX b sh J Jx) ?_ (fun e w h=>h);refine calls_depth (m:=3) m' ?_;refine callsIn_of_wp_marks func55 rfl trivial ?_;simp only [ntmps55,List.size_toArray,List.length_cons,List.length_nil,Nat.reduceAdd,Nat.reduceSub,Array.replicate_succ,Array.replicate_zero,List.push_toArray,List.append_toArray,List.nil_append,List.cons_append];refine wpIn_wide.2 ?_;go_wp2_with fail;refine(wpIn_wide (n:=3)).1 (wpIn_scope_straight rfl ((wpIn_wide (n:=3)).2 ?_))
 go_wp2_with (first
  | (refine ldrow (cs:=[.int .i64 s,.int .i64 rm,.int .i64 m,.int .i64 lm,.int .i64 rv]) rfl 36 (.tmp 2) rfl rfl HT1.o _ underlying36 rfl (by rw [infoT];rfl) ?_)
  | fail)
 refine(HSH.o _).mono ?_;rintro e w1 ⟨A,c,rfl,hO,hB⟩;obtain⟨XB,hXB⟩:∃ x,x=W.heap.size:=⟨_,rfl⟩
 rw [<- hXB]at HYB ⊢;have HXN:Hid (w.heap.size+2<=XB):=aq (by rw [hXB];exact HSZ.o);have HYB1:=aq (HYB.o.below hB);have HT2:=aq (HT1.o.below hB);have HE2:=aq (HE1.o.below hB);have HJ2:=aq (hJ _ _ _ HJ1.o hB);have HW1:=aq (Nat.le_trans HBY.o.size hB.size);have HZ1:Hid (w.heap.size+2<=w1.heap.size):=aq (Nat.le_trans HSZ.o (Nat.le_trans HBY.o.size hB.size));have HO:=aq (Ownv.mono hO (Nat.le_trans HSZ.o HBY.o.size));clear hXB HYB HT1 HE1 HJ1 e0 hO hB HBY;dsimp only;have HB2:=aq (bal (Below.refl w1.heap.size w1) (.cells #[.slice A N c] 51));have HC3:Hid (Blk (w1.alloc (.cells #[.slice A N c] 51)) w1.heap.size 51 [.slice A N c]):=aq (Blk.new w1 _ _ rfl);have HT3:=aq (HT2.o.below HB2.o);have c0:=HT3.o.cell (j:=0) (v:=.int .i64 s) rfl;go_wp2_with fail;refine wp_label ?_;go_wp2_with fail;refine(eachX_any b _).mono ?_;rintro e w3 ⟨LB,x0,x1,x2,x3,x4,x5,x6,rfl,hEa,hL,hLn,hB⟩;obtain⟨CB,hCB⟩:∃ x,x=w1.heap.size:=⟨_,rfl⟩
 rw [<- hCB]at HC3 ⊢;have HCN:Hid (w.heap.size+2<=CB):=aq (by rw [hCB];exact HZ1.o);have HLN:Hid (w.heap.size+2<=LB):=aq (Nat.le_trans HZ1.o (Nat.le_trans HB2.o.size hLn));have HEA:=aq hEa;have HL4:=aq hL;have HC4:=aq (HC3.o.below hB);have HT4:=aq (HT3.o.below hB);have HE4:=aq ((HE2.o.below HB2.o).below hB);have HY4:=aq ((HYB1.o.below HB2.o).below hB);have HJ4:=aq (hJ _ _ _ (hJ _ _ _ HJ2.o HB2.o) hB);have HO4:=aq (Ownv.below (Ownv.below HO.o HB2.o) hB);have HW3:=aq (Nat.le_trans HW1.o (Nat.le_trans HB2.o.size hB.size));have HZ4:Hid (w.heap.size+2<=w3.heap.size):=aq (Nat.le_trans HZ1.o (Nat.le_trans HB2.o.size hB.size));clear hCB HC3 HT3 HE2 HYB1 HJ2 HO HB2 hEa hL hLn hB c0 HT2 HZ1;dsimp only;go_wp2_with fail;obtain⟨ls,hls⟩:∃ ls,ls=(ints8 [x0,x1,x2,x3,x4,x5,x6]):=⟨_,rfl⟩
 have HLE:Hid (ls=(ints8 [x0,x1,x2,x3,x4,x5,x6])):=aq hls;have HIN:Hid (InP (w.heap.size+2) EB TB XB CB LB l A N c sh [.int .i64 s,.int .i64 rm,.int .i64 m,.int .i64 lm,.int .i64 rv] ls w3):=aq ⟨HY4.o,HC4.o,HO4.o,HE4.o,HT4.o,by rw [hls];exact HL4.o⟩;have HSEQ:Hid (SeqX (0+2) 1 110 #[.pointer (some ⟨LB,0,none⟩)] encP (KpL LB ls) (fun ys=>ys=psE b) (fun _=>True) (OkL b) w3):=aq (by rw [hls];exact each_inX (0+2) 1 b LB x0 x1 x2 x3 x4 x5 x6 HEA.o w3 HL4.o);clear hls HY4 HC4 HO4 HE4 HT4 HL4 HEA HSH;have HWZ:Hid (W.heap.size<=w3.heap.size):=aq HW3.o;refine(wpIn_wide (n:=0+3)).1 ?_;refine' rangeX (d:=0) (y:=1) (w0:=w3) (gf:=110) (lb:=#[.pointer (some ⟨LB,0,none⟩)]) rfl (enters_of func110 (by kernel_rfl) rfl) HSEQ.o
  (fun pre x W l o o' h hl ho=>h) (fun h1 h2 h=>h2 (h1 h)) (fun W o o' h1 h2 h=>Blk.put h o' h1 h2) (Below.refl _ _) (fun _=>rfl)
  (fun pre W'=>J ((psP b sh).take pre.length) W'/\InP (w.heap.size+2) EB TB XB CB LB l A N c sh [.int .i64 s,.int .i64 rm,.int .i64 m,.int .i64 lm,.int .i64 rv] ls W')
  (fun cd pre W'=>cd= .exit 0/\∃ pre',Jx pre' W')
  (fun s X Y h hb=>⟨hJ _ _ _ h.1 hb,h.2.below hb⟩) (fun cd s X Y h hb=>⟨h.1,h.2.elim fun p hp=>⟨p,hJx _ _ _ hp hb⟩⟩)
  (fun s X l o o' h hl hk ho=>⟨hJp _ _ _ _ _ h.1 (Nat.le_trans HWZ.o hl) hk ho,h.2.put o' hk ho⟩) (fun cd s X l o o' h hl hk ho=>⟨h.1,h.2.elim fun p hp=>⟨p,hJxp _ _ _ _ _ hp (Nat.le_trans HWZ.o hl) hk ho⟩⟩)
  ⟨HJ4.o,HIN.o⟩ _ ?assign ?body ?done ?stop
 case assign =>
  intro l x W K hK;unfold encP;gi_wp2;exact hK
 case stop =>
  rintro D cd pre W4 hD _ ⟨rfl,pre',hJ4⟩ hK;have HJ9:=aq (hJxp _ _ _ _ (.deferred none) hJ4 (Nat.le_trans HWZ.o hD) hK rfl);refine wpIn_wide.2 ?_;go_wp2;refine⟨by simp,.inl ⟨_,_,rfl,run_takeDeferred hK,?_⟩⟩;exact⟨_,results_none rfl _ _ _,⟨_,rfl⟩,.inr ⟨pre',trivial,HJ9.o⟩⟩
 case done =>
  rintro D xs W4 hD hxs ⟨hJ4,hI⟩ hK;subst hxs;have HJ9:=aq (hJp _ _ _ _ (.deferred none) hJ4 (Nat.le_trans HWZ.o hD) hK rfl);go_wp2;refine⟨by simp,.inl ⟨_,_,rfl,run_takeDeferred hK,?_⟩⟩;exact⟨_,results_none rfl _ _ _,⟨_,rfl⟩,.inl ⟨_,rfl,by have:=HJ9.o;rwa [psE_len,List.take_of_length_le (Nat.le_of_eq (psP_len b sh))]at this⟩⟩
 case body =>
  rintro q pre x W4 ⟨hJ4,hI⟩ ⟨hp2,hp1,hp3⟩;obtain⟨k,hk⟩:∃ k,k=pre.length:=⟨_,rfl⟩
  have hl1:∀ x:Int × Int,(pre ++ [x]).length=k+1:=fun x=>by rw [List.length_append,hk];rfl
  have HPL:=aq hl1;rw [<- hk]at hJ4 hp1 hp3;have hpt:((psP b sh).take k).length=k:=by rw [List.length_take,psP_len];omega
  have HPS:=aq (psP_succ b sh k hp1);have hNk:k<N:=by rw [<- HN.o];exact hp1
  have HJw:=aq (hJ _ _ _ hJ4 (Below.refl W4.heap.size W4).drew);have HYw:=aq (yield_depth 0 0 (HY.o _ ((sz b.toNat k:Int),gi sh k) W4.drew HJw.o ⟨by rw [hpt];exact hp1,by rw [hpt],by rw [hpt]⟩));have HIw:=aq (hI.below (Below.refl W4.heap.size W4).drew);have ix:=fun W=>Rdv.ixI HIw.o.o.rd el22 (j:=k) (by omega) .i64 (k:Int) rfl W;clear hl1 hk hJ4 hI hp2 hpt;subst hp3;obtain⟨v,hv⟩:∃ v:Int,v=(sz b.toNat k:Int):=⟨_,rfl⟩
  rw [<- hv]at HPS HYw;gi_wp2_with fail;rw [<- hv];obtain⟨u,hu⟩:∃ u:Int,u=gi sh k:=⟨_,rfl⟩
  rw [<- hu]at HPS HYw;have hcell:∀ W9,InP (w.heap.size+2) EB TB XB CB LB l A N c sh [.int .i64 s,.int .i64 rm,.int .i64 m,.int .i64 lm,.int .i64 rv] ls W9->W9.cell? (adr A k)=some (.int .i64 u):=fun W9 h9=>by rw [hu];exact Rd.cell h9.o.rd hNk
  have HCE:=aq hcell;clear hv hu hcell;refine wpIn_nopanic ?_;refine PI_round (InP (w.heap.size+2) EB TB XB CB LB l A N c sh [.int .i64 s,.int .i64 rm,.int .i64 m,.int .i64 lm,.int .i64 rv] ls) 6 8 #[false,false,false,false,false,false,false,false] (by kernel_rfl) (by kernel_rfl) (by kernel_rfl) (by kernel_rfl) ?_;refine PI_takeT 0 21 (.func (.yield l) #[] #[]) #[true,false,false,false,false,false,false,false] [] rfl rfl rfl (by kernel_rfl) (by kernel_rfl) (by kernel_rfl) (by kernel_rfl) (by kernel_rfl) (by kernel_rfl) (by kernel_rfl) (by decide) (fun _ _ _ h=>h) ⟨(.inl ⟨by rfl,fun W hS=>by have s0:=Blk.cell hS.y (j:=0) (v:=.func (.yield l) #[] #[]) rfl;go_simp⟩),fun _=>rfl⟩ HIw.o ?_;simp only [yq0,yq1,yq2];refine PI_takeW 1 22 (.int .i64 v) #[true,true,false,false,false,false,false,false] rfl rfl rfl (by kernel_rfl) (by kernel_rfl) (by kernel_rfl) (by kernel_rfl) (by decide) (fun _ _ _ h=>h) ⟨Or.inl ⟨by rfl,fun W hS=>by go_simp⟩,fun _=>rfl⟩ HIw.o ?_;simp only [yq0,yq1,yq2];refine PI_takeT 2 23 (.slice A N c) #[true,true,true,false,false,false,false,false] [5,4] rfl rfl rfl (by kernel_rfl) (by kernel_rfl) (by kernel_rfl) (by kernel_rfl) (by kernel_rfl) (by kernel_rfl) (by kernel_rfl) (by decide) (fun _ _ _ h=>h) ⟨(.inl ⟨by rfl,fun W hS=>by have s0:=Blk.cell hS.b (j:=0) (v:=.slice A N c) rfl;go_simp⟩),fun _=>rfl⟩ HIw.o ?_;simp only [yq0,yq1,yq2];refine PI_takeW 3 24 (.int .i64 (k:Int)) #[true,true,true,true,false,false,false,false] rfl rfl rfl (by kernel_rfl) (by kernel_rfl) (by kernel_rfl) (by kernel_rfl) (by decide) (fun _ _ _ h=>h) ⟨Or.inl ⟨by rfl,fun W hS=>by go_simp⟩,fun _=>rfl⟩ HIw.o ?_;simp only [yq0,yq1,yq2];refine PI_takeW 4 25 (.pointer (some (adr A k))) #[true,true,true,true,true,false,false,false] rfl rfl rfl (by kernel_rfl) (by kernel_rfl) (by kernel_rfl) (by kernel_rfl) (by decide) (fun _ _ _ h=>h) ⟨Or.inl ⟨by rfl,fun W hS=>by go_simp⟩,fun _=>rfl⟩ HIw.o ?_;simp only [yq0,yq1,yq2];refine PI_takeT 5 26 (.int .i64 u) #[true,true,true,true,true,true,false,false] [] rfl rfl rfl (by kernel_rfl) (by kernel_rfl) (by kernel_rfl) (by kernel_rfl) (by kernel_rfl) (by kernel_rfl) (by kernel_rfl) (by decide) (fun _ _ _ h=>h) ⟨(.inl ⟨by rfl,fun W hS=>by have s0:=HCE.o W hS;go_simp⟩),fun _=>rfl⟩ HIw.o ?_;simp only [yq0,yq1,yq2];refine PI_one 6 #[true,true,true,true,true,true,true,false] rfl (by kernel_rfl) (by kernel_rfl) rfl (by kernel_rfl) (fun K hK=>?_);obtain⟨fn,tmps,assign,body,hy,hRD⟩:=HYw.o;unfold encP at hy;have HRD:Hid (RoundIn Fence.wide 0 prog l fn tmps assign body W4.drew fun e W'=>e= .returned (.bool true)/\J ((psP b sh).take k ++ [(v,u)]) W'/\KpP (w.heap.size+2) EB TB [.int .i64 s,.int .i64 rm,.int .i64 m,.int .i64 lm,.int .i64 rv] W4.drew W'\/e= .returned (.bool false)/\Jx ((psP b sh).take k ++ [(v,u)]) W'/\KpP (w.heap.size+2) EB TB [.int .i64 s,.int .i64 rm,.int .i64 m,.int .i64 lm,.int .i64 rv] W4.drew W'):=aq hRD;clear hRD;have HKO:=aq ((KeepsOthers.of_grownBy (gb_below (Below.refl W4.heap.size W4).drew none) (fun j o e=>by cases e)).from w3.heap.size);have HKL:Hid (KpL LB ls W4 W4.drew):=aq (fun h=>Blk.drew h);go_simp;refine HRD.o.mono ?_;rintro e W7 (⟨rfl,hJ7,hk7⟩ | ⟨rfl,hJx7,hk7⟩)
  . refine hK _ _ ?_
    clear hK K;refine PI_one 7 #[true,true,true,true,true,true,true,true] rfl (by kernel_rfl) (by kernel_rfl) rfl (by kernel_rfl) (fun K hK=>?_);refine operIn_w nofun ?_;go_simp;refine hK _ _ ?_;clear hK K;refine PI_done (by kernel_rfl) ?_ _;refine noPanic_normal ?_;have HI7:=aq (HIw.o.kp hk7 HXN.o HCN.o HLN.o);have HK7:=aq (KpP.from hk7 HZ4.o);gi_wp2;refine⟨HKO.o.trans HK7.o,fun h=>HI7.o.l,?_,HI7.o⟩;rw [HPL.o,HPS.o];exact hJ7
  . refine hK _ _ ?_
    clear hK K;refine PI_one 7 #[true,true,true,true,true,true,true,true] rfl (by kernel_rfl) (by kernel_rfl) rfl (by kernel_rfl) (fun K hK=>?_);refine operIn_w nofun ?_;go_simp;refine hK _ _ ?_;clear hK K;refine PI_done (by kernel_rfl) ?_ _;refine noPanic_normal ?_;have HI7:=aq (HIw.o.kp hk7 HXN.o HCN.o HLN.o);have HK7:=aq (KpP.from hk7 HZ4.o);gi_wp2;exact⟨HKO.o.trans HK7.o,fun h=>HI7.o.l,rfl,_,hJx7⟩
theorem parts_any(B c k lm hv u p f b m s rv rm:Int)(nw:Bool)(w:World)(hTR:∀ W,Calls prog 13 #[.agg #[.int .i64 B,.int .i64 c,.int .i64 k,.int .i64 lm,.int .i64 hv],.agg #[.int .i64 u,.int .i64 p,.int .i64 f,.int .i64 b,.int .i64 m,.int .i64 s,.int .i64 rv,.bool nw]] W fun e w'=>e= .returned (.tuple #[.agg #[.int .i64 s,.int .i64 rm,.int .i64 m,.int .i64 lm,.int .i64 rv],.int .i64 0])/\Below W.heap.size W w') :
 Calls prog 19 #[.agg #[.int .i64 B,.int .i64 c,.int .i64 k,.int .i64 lm,.int .i64 hv],.agg #[.int .i64 u,.int .i64 p,.int .i64 f,.int .i64 b,.int .i64 m,.int .i64 s,.int .i64 rv,.bool nw]] w fun e w'=>∃ EB TB,e= .returned (.func (.func 55) #[] #[.pointer (some ⟨EB,0,none⟩),.pointer (some ⟨TB,0,none⟩)])/\Blk w' EB 30 [.int .i64 0]/\Blk w' TB 36 (c5 s rm m lm rv)/\w.heap.size<=EB/\w.heap.size<=TB/\Below w.heap.size w w':=by
 have hmf:∀ (fn:Fn) (first cap:Array Value) (w:World),(Instr.makeFunc fn first cap).run prog w= .ok (.func fn first cap) w:=fun _ _ _ _=>rfl;have HTR:=aq hTR;have HC:Hid (Blk ((w.alloc (.cells #[.int .i64 B,.int .i64 c,.int .i64 k,.int .i64 lm,.int .i64 hv] 25)).alloc (.cells #[.int .i64 u,.int .i64 p,.int .i64 f,.int .i64 b,.int .i64 m,.int .i64 s,.int .i64 rv,.bool nw] 28)) w.heap.size 25 (c5 B c k lm hv)):=aq ((Blk.new w [.int .i64 B,.int .i64 c,.int .i64 k,.int .i64 lm,.int .i64 hv] 25 rfl).alloc _);have HG:Hid (Blk ((w.alloc (.cells #[.int .i64 B,.int .i64 c,.int .i64 k,.int .i64 lm,.int .i64 hv] 25)).alloc (.cells #[.int .i64 u,.int .i64 p,.int .i64 f,.int .i64 b,.int .i64 m,.int .i64 s,.int .i64 rv,.bool nw] 28)) (w.heap.size+1) 28 (c8 u p f b m s rv nw)):=aq (Blk.new _ [.int .i64 u,.int .i64 p,.int .i64 f,.int .i64 b,.int .i64 m,.int .i64 s,.int .i64 rv,.bool nw] 28 (by simp));have HB:=aq (bal (bal (Below.refl w.heap.size w) (.cells #[.int .i64 B,.int .i64 c,.int .i64 k,.int .i64 lm,.int .i64 hv] 25)) (.cells #[.int .i64 u,.int .i64 p,.int .i64 f,.int .i64 b,.int .i64 m,.int .i64 s,.int .i64 rv,.bool nw] 28));clear hTR;go_enter func19,ntmps19
 go_wp2_with (first
  | (refine ldrow (cs:=[.int .i64 B,.int .i64 c,.int .i64 k,.int .i64 lm,.int .i64 hv]) rfl 25 (.tmp 2) rfl rfl HC.o _ underlying25 rfl (by rw [infoPC];rfl) ?_)
  | (refine ldrow (cs:=[.int .i64 u,.int .i64 p,.int .i64 f,.int .i64 b,.int .i64 m,.int .i64 s,.int .i64 rv,.bool nw]) rfl 28 (.tmp 3) rfl rfl HG.o _ underlying28 rfl (by rw [infoGT];rfl) ?_)
  | fail)
 refine(HTR.o _).mono ?_;rintro e w1 ⟨rfl,hwx⟩;have HB1:=aq (HB.o.trans (hwx.mono HB.o.size));clear hwx HTR HB HC HG;dsimp only;have HT2:Hid (Blk ((w1.alloc (.cells #[.int .i64 0,.int .i64 0,.int .i64 0,.int .i64 0,.int .i64 0] 36)).alloc (.cells #[.int .i64 0] 30)) w1.heap.size 36 (c5 0 0 0 0 0)):=aq ((Blk.new w1 [.int .i64 0,.int .i64 0,.int .i64 0,.int .i64 0,.int .i64 0] 36 rfl).alloc _);have HE2:Hid (Blk ((w1.alloc (.cells #[.int .i64 0,.int .i64 0,.int .i64 0,.int .i64 0,.int .i64 0] 36)).alloc (.cells #[.int .i64 0] 30)) (w1.heap.size+1) 30 [.int .i64 0]):=aq (Blk.new _ [.int .i64 0] 30 (by simp));have HB2:=aq (bal (bal HB1.o (.cells #[.int .i64 0,.int .i64 0,.int .i64 0,.int .i64 0,.int .i64 0] 36)) (.cells #[.int .i64 0] 30));have HZ:=aq HB1.o.size
 go_wp2_with (first
  | (refine strow rfl 36 (.tmp 5) (.tmp 11) rfl rfl rfl HT2.o rfl (by rw [infoT];rfl) (by simp [Value.oneCell']) ?_
     intro W5 h1 h2;have H1:=aq h1;have HE5:=aq (HE2.o.grown h2 (fun he=>by have:=Option.some.inj he;omega));have e5:=HE5.o.cell (j:=0) (v:=.int .i64 0) rfl;have f5:=HE5.o.frozen 0;have HB5:=aq (HB2.o.grown h2 HB2.o.size (fun q hk=>by cases hk;exact HZ.o))
     clear h1 h2)
  | fail)
 go_ret;have hz:=HZ.o;exact⟨_,_,rfl,HE5.o.set 0 (.int .i64 0),H1.o.other (by omega) 0 (.int .i64 0),by omega,HZ.o,HB5.o.setCell (p:=⟨w1.heap.size+1,0,none⟩) (by show w.heap.size<=w1.heap.size+1;omega) (.int .i64 0)⟩
end Go.Proofs.YthmhogdceolkdaaGreat.Cr
namespace Go.Proofs.YthmhogdceolkdaaGreat.Cr
open Tryz
open Go.RowKit Go.Shelf
section
variable {P : Program}
def LeavesP(P:Program)(fn:Func)(tmps:Array Value)(R:Ending->World->Prop):List Deferred->FrameMode->World->Prop
 | [],u,w=>Leaves P fn tmps R [] u w
 | d :: ds,u,w=>u≠.run /\
    ((∃ r w',d.target= .collected r/\(Instr.takeDeferred r).run P w= .ok [] w'/\LeavesP P fn tmps R ds u w') \/
     (∃ fv cap f args,d.target= .fn fv cap/\(invoke d.target d.args).run P w= .ok (.enter f args) w /\
      CallsD P f args u w fun
       | .returned _,u',w'=>LeavesP P fn tmps R ds (settle u') w'
       | .panicked chain,u',w'=>LeavesP P fn tmps R ds (raised u' chain) w'
       | .outgrown,_,w'=>R .outgrown w'))
theorem leaves_stepsP{fn:Func}{tmps:Array Value}{R:Ending->World->Prop}:∀ (ds:List Deferred) (u:FrameMode) (w:World) (fr:Frame)
 (cs:List Frame),fr.mode=u->fr.defers=ds->fr.tmps=tmps->P.funcs[fr.fn]?=some fn->fr.kind= .normal->LeavesP P fn tmps R ds u w ->
 ∃ e w' fr',R e w'/\Comes P (lone fr cs w) (lone fr' cs w') e/\fr'.fn=fr.fn/\fr'.leaving P w' e:=by
 intro ds;induction ds with
 | nil=>exact fun u w fr cs hu hd ht hf hk h=>leaves_steps [] u w fr cs hu hd ht hf hk h
 | cons d ds ih =>
   intro u w fr cs hu hd ht hf hk h;obtain⟨hrun,h⟩:=h;rcases h with⟨r,w',htar,htake,hrest⟩ | ⟨fv,cap,f,args,htar,hinv,hcall⟩
   . have h1:=step_collected (cs:=cs) (hu ▸ hrun) hd htar htake
     obtain⟨e',w'',fr',hR',hs',hfn',hl'⟩:=ih u w' {fr with defers:=[] ++ ds} cs hu rfl ht hf hk hrest;exact⟨e',w'',fr',hR',Comes.of_steps (.one h1) hs',hfn',hl'⟩
   . have h1:=step_defer (cs:=cs) (hu ▸ hrun) hd htar hinv
     obtain⟨e,u',w',frX,hR,hsteps,hkX,hgo⟩:=hcall {fr with defers:=ds} cs hu;cases e with
     | returned v =>
       have h2:=step_going_returned (c:={{fr with defers:=ds} with mode:=u'}) (cs:=cs) hkX hgo;obtain⟨e',w'',fr',hR',hs',hfn',hl'⟩:=ih (settle u') w' {{{fr with defers:=ds} with mode:=u'} with mode:=settle u'} cs rfl rfl ht hf hk hR;exact⟨e',w'',fr',hR',Comes.of_steps (.head h1 (Steps.trans hsteps (.one h2))) hs',hfn',hl'⟩
     | panicked chain =>
       have h2:=step_going_panicked (c:={{fr with defers:=ds} with mode:=u'}) (cs:=cs) hgo;obtain⟨e',w'',fr',hR',hs',hfn',hl'⟩:=ih (raised u' chain) w' {{{fr with defers:=ds} with mode:=u'} with mode:=raised u' chain} cs rfl rfl ht hf hk hR;exact⟨e',w'',fr',hR',Comes.of_steps (.head h1 (Steps.trans hsteps (.one h2))) hs',hfn',hl'⟩
     | outgrown=>exact⟨.outgrown,w',fr,hR,Outgrown.of_steps (.one h1) hsteps,rfl,trivial⟩
def bodyPostP(P:Program)(fn:Func)(R:Ending->World->Prop):Exit->Act->World->Prop
 | .normal,a,w | .ret,a,w=>LeavesP P fn a.tmps R a.defers .returning w
 | .panic chain,a,w=>LeavesP P fn a.tmps R a.defers (.panicking chain) w
 | .outgrown,_,w=>R .outgrown w
 | _,_,_=>False
theorem calls_of_wp_marksP{f:FuncId}{fn:Func}{c:Code}{args:Array Value}{w:World}{R:Ending->World->Prop}
 (hf:P.funcs[f]?=some fn) (hb:fn.body=some c)
 (h:c.wp P (bodyPostP P fn R) {tmps:=args ++ Array.replicate (fn.ntmps - args.size) undef,defers:=[]} w):Calls P f args w R:=by
 intro cs;let b:Frame:={(default:Frame) with fn:=f,kind:=.normal}
 have henter:Frame.enter P f args .normal =
  b.at {tmps:=args ++ Array.replicate (fn.ntmps - args.size) undef,defers:=[]} [.code c]:=by
  simp [Frame.enter,Frame.at,hf,hb,b]
 obtain⟨e,a',w',hq,harr⟩:=h b [] cs;rw [<- henter]at harr;cases e with
 | normal =>
   obtain⟨e',w'',fr',hR,hs,hfn,hl⟩:=leaves_stepsP a'.defers .returning w' {b.at a' [] with mode:=.returning} cs rfl rfl rfl hf rfl hq;exact⟨e',w'',fr',hR,Comes.of_steps (Steps.trans harr (.one step_end)) hs,hfn,hl⟩
 | ret =>
   obtain⟨todo,hs₀⟩:=harr;obtain⟨e',w'',fr',hR,hs,hfn,hl⟩:=leaves_stepsP a'.defers .returning w' {b.at a' todo with mode:=.returning} cs rfl rfl rfl hf rfl hq;exact⟨e',w'',fr',hR,Comes.of_steps hs₀ hs,hfn,hl⟩
 | panic chain =>
   obtain⟨todo,hs₀⟩:=harr;obtain⟨e',w'',fr',hR,hs,hfn,hl⟩:=leaves_stepsP a'.defers (.panicking chain) w' {b.at a' todo with mode:=.panicking chain} cs rfl rfl rfl hf rfl hq;exact⟨e',w'',fr',hR,Comes.of_steps hs₀ hs,hfn,hl⟩
 | exit id=>exact hq.elim
 | goto l=>exact hq.elim
 | outgrown=>exact⟨.outgrown,w',b,hq,harr.resolve_left (by simp [b]),rfl,trivial⟩
end
end Go.Proofs.YthmhogdceolkdaaGreat.Cr