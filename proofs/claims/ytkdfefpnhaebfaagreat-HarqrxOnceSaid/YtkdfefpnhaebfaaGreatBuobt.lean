/- Bundle. Conditions: none. -/
import Derived.Test.YtkdfefpnhaebfaaGreatBuobs
import Derived.Test.YtkdfefpnhaebfaaGreatBuobl
import Derived.Test.YtkdfefpnhaebfaaGreatBuobo
set_option linter.unusedVariables false
set_option linter.unusedSimpArgs false
namespace Go.Proofs.YtkdfefpnhaebfaaGreat
open Go.RowKit
attribute [local go_sem] Oper.semAt_some
set_option maxRecDepth 100000
set_option maxHeartbeats 8000000
def tE1 (sz : Int) (x : List Int) : Int := Cr.tE sz [⟨none, x.length, 0, x⟩]
def tR1 (sz : Int) (x : List Int) : List Int := Cr.tR sz [⟨none, x.length, 0, x⟩]
theorem tE1_eq (sz : Int) (x : List Int) (R : Option Addr) (rc : Nat) : Cr.tE sz [⟨R, x.length, rc, x⟩] = tE1 sz x ∧ Cr.tR sz [⟨R, x.length, rc, x⟩] = tR1 sz x := ⟨rfl, rfl⟩
def fnK (sz : Int) (b : Option (List Int)) : Int := match b with
 | none => 2
 | some x => if tE1 sz x = 0 then 1 else 2
def fnO (sz : Int) (b : Option (List Int)) : List Int := match b with
 | none => []
 | some x => if tE1 sz x = 0 then tR1 sz x else []
def fnS (st sz : Int) (b : Option (List Int)) : Int := match b with
 | none => st
 | some x => if tE1 sz x = 0 then 2 else st
def fnB (sz : Int) (b : Option (List Int)) : Option (List Int) := match b with
 | none => none
 | some x => if tE1 sz x = 0 then some x else none
section
variable {W : World} {base P : Nat} {half st sz lm : Int} {G cap D k f : Nat} {V : Option Addr} {vc : Nat} {vs : List Int} {cnt : Int} {R : Option Addr} {r rc : Nat} {rest : List Value} {b : Option (List Int)}
theorem HqP.setP (h : HqP W base P half st sz lm G cap D k f V vc vs cnt R r rc rest b) (s : Int) : HqP (W.setCell ⟨P, 1, none⟩ (.int .i64 s)) base P half s sz lm G cap D k f V vc vs cnt R r rc rest b := by
 obtain ⟨n1, n2, n3, n4, n5, n6⟩ := h.ne
 have hs := grownBy_set W P 1 (.int .i64 s)
 refine ⟨⟨⟨h.a.p.p.set 1 _, h.a.p.d⟩, h.a.g.other n2 1 _, h.a.b⟩, h.d.grown hs (Ne.symm n1) n4, ?_, h.n⟩
 have ht := h.t
 cases b with
 | none => exact ht
 | some x => exact ⟨ht.1, ht.2.1, Rdv.grown ht.2.2 hs (fun hA e => (h.n hA).2.2.2 (Option.some.inj e))⟩
theorem HqP.clearG (h : HqP W base P half st sz lm G cap D k f V vc vs cnt R r rc rest b) : HqP (W.setCell ⟨G, 2, none⟩ (.slice none 0 0)) base P half st sz lm G cap D k f V vc vs cnt none 0 0 rest none := by
 obtain ⟨n1, n2, n3, n4, n5, n6⟩ := h.ne
 have hs := grownBy_set W G 2 (.slice none 0 0)
 exact ⟨⟨⟨h.a.p.p.other (Ne.symm n2) 2 _, h.a.p.d⟩, h.a.g.set 2 _, h.a.b⟩, h.d.grown hs (Ne.symm n3) n5, ⟨rfl, rfl, rfl⟩, fun hA => absurd rfl hA⟩
end
theorem rd_other {W : World} {P : Nat} {t : TypeId} {cs : List Value} {A : Option Addr} {n c : Nat} {xs : List Int} (h : Rd .u8 W A n c xs) (hP : Blk W P t cs) (hu : ∀ v ∈ cs, ∀ z, v ≠ .int .u8 z) (j : Nat) (u : Value) : Rd .u8 (W.setCell ⟨P, j, none⟩ u) A n c xs := by
 by_cases hb : 0 < n ∧ blk A = P
 · exfalso
   obtain ⟨hn, hb⟩ := hb
   have h0 := Rd.cell h hn
   have hle := Rdv.le h
   obtain ⟨b, o, rfl, -⟩ := Rdv.ptr h (by omega)
   have hb : b = P := hb
   subst hb
   rw [adr_some, Nat.add_zero, cell_of_row W b o _ _ _ hP] at h0
   exact hu _ (List.mem_of_getElem? (by simpa using h0)) _ rfl
 · by_cases hn : 0 < n
   · exact Rdv.grown h (grownBy_set W P j u) (fun _ e => hb ⟨hn, Option.some.inj e⟩)
   · have h' : Rdv W A n c (xs.map (Value.int .u8)) := h
     refine ⟨h'.len, h'.le, h'.cm, h'.nil, h'.spot, fun hc a ha => Nat.lt_of_lt_of_le (h'.lt hc a ha) (grownBy_set W P j u).size, fun q v hj => ?_⟩
     have h1 := (List.getElem?_eq_some_iff.1 hj).1
     have h2 := h'.len
     omega
theorem elRR : El Tryz.prog 56 28 (.slice none 0 0) 24 := ⟨by kernel_rfl, by kernel_rfl, fun _ => by kernel_rfl, rfl⟩
theorem finish_any {w : World} {base P : Nat} {half st sz lm : Int} {G cap D k f : Nat} {V : Option Addr} {vc : Nat} {vs : List Int} {cnt : Int} {R : Option Addr} {r rc : Nat} {rest : List Value} {b : Option (List Int)} (hq : HqP w base P half st sz lm G cap D k f V vc vs cnt R r rc rest b) (hbs : base ≤ w.heap.size) (hr : r ≤ 100000) :
 Calls Tryz.prog 44 #[.pointer (some ⟨P, 0, none⟩)] w fun e w' => ∃ A' n' c' R' r' rc', e = .returned (.tuple #[.slice A' n' c', .int .i64 (fnK sz b)]) ∧ Rd .u8 w' A' n' c' (fnO sz b) ∧ Below base w w' ∧ (∀ q, q < w.heap.size → q ≠ P → q ≠ G → w'.heap[q]? = w.heap[q]?) ∧ HqP w' base P half (fnS st sz b) sz lm G cap D k f V vc vs cnt R' r' rc' rest (fnB sz b) := by
 have c4 := hq.a.p.p.cell (j := 4) (v := .slice (some ⟨G, 0, none⟩) 1 cap) rfl
 have HAL := Lib.hid (allK_any (cap := cap) hq.a.g)
 have HTR := Lib.hid hq.t.some_iff
 have HQ := Lib.hid hq
 have HSZ := Lib.hid hbs
 have hix := fun W => ixK G cap W
 clear hq hbs
 go_enter Tryz.func44, Tryz.ntmps44
 go_wp2_with fail
 refine HAL.out.mono ?_
 rintro e w1 ⟨rfl, hB1⟩
 rw [HTR.out]
 have HQ1 := Lib.hid (HQ.out.below hB1)
 have HB1 := Lib.hid hB1
 clear hB1 c4
 cases b with
 | none =>
   go_wp2
   go_ret2
   exact ⟨none, 0, 0, R, r, rc, rfl, Rd.nilv _ _, HB1.out.mono HSZ.out, fun q hq _ _ => HB1.out.block q hq, HQ1.out⟩
 | some x =>
   have c41 := HQ1.out.a.p.p.cell (j := 4) (v := .slice (some ⟨G, 0, none⟩) 1 cap) rfl
   have hG : Blk w1 G 103 ([.pointer (some ⟨D, 0, none⟩), .int .i64 ((k + f : Nat) : Int), .slice R r rc] ++ rest) := HQ1.out.a.g
   obtain ⟨nd, hnd⟩ : ∃ nd : Int, nd = ((k + f : Nat) : Int) := ⟨_, rfl⟩
   rw [← hnd] at hG
   have HND := Lib.hid hnd
   clear hnd
   go_wp2_with fail
   refine wp_loop_rounds 3 ?_
   rw [rounds_succ]
   have hX2 : Blk (w1.alloc (.cells #[.pointer (some ⟨D, 0, none⟩), .int .i64 nd, .slice R r rc] 103)) w1.heap.size 103 [.pointer (some ⟨D, 0, none⟩), .int .i64 nd, .slice R r rc] := Blk.new w1 _ _ rfl
   have cx := hX2.cell (j := 2) (v := .slice R r rc) rfl
   go_wp2_with (first
    | (refine ldpre (cs := [.pointer (some ⟨D, 0, none⟩), .int .i64 nd, .slice R r rc]) rfl 103 (.tmp 23) rfl rfl hG _ Tryz.underlying103 rfl (by rw [infoBk]; rfl) ?_)
    | (at_builtin
       refine list_of rfl fun K hK => wp_app1 (w := w1.alloc (.cells #[.pointer (some ⟨D, 0, none⟩), .int .i64 nd, .slice R r rc] 103)) (base := w1.heap.size) _ _ 56 rfl elRR rfl (.slice R r rc) (by rw [World.size_alloc]; rfl) rfl (Ownv.nilv _ _ _) (by omega) (by omega) (by simp) ?_
       intro A2 c2 w2 hO2 hG2
       have HO2 := Lib.hid hO2
       have hb2 := (bal (Below.refl w1.heap.size w1) (.cells #[.pointer (some ⟨D, 0, none⟩), .int .i64 nd, .slice R r rc] 103)).grown hG2 (by simp) (fun q e => by simp [Value.ownBlock] at e)
       have HQ2 := Lib.hid (HQ1.out.below hb2)
       have HB2 := Lib.hid (HB1.out.trans (hb2.mono HB1.out.size))
       clear hO2 hG2 hb2 hX2 cx hG c41
       refine hK _ _ ?_
       clear hK K))
   rw [rounds_succ]
   have c2s := HQ2.out.a.p.p.cell (j := 2) (v := .int .i64 sz) rfl
   obtain rfl : x.length = r := Rd.len HQ2.out.t.2.2
   have HJ := Lib.hid (Cr.tjoin_any sz A2 1 c2 [⟨R, x.length, rc, x⟩] w2 ⟨by simpa [Cr.Sv.v] using HO2.out.rd, fun s hs => by simp at hs; subst hs; exact HQ2.out.t.2.2⟩ (fun s hs => by simp at hs; subst hs; exact hr))
   rw [(tE1_eq sz x R rc).1, (tE1_eq sz x R rc).2] at HJ
   clear hix
   go_wp2_with fail
   refine HJ.out.mono ?_
   rintro e w3 ⟨A3, n3, c3, rfl, hR3, hB3⟩
   have HQ3 := Lib.hid (HQ2.out.below hB3)
   have HB33 := Lib.hid (HB2.out.trans (hB3.mono HB2.out.size))
   have HB3 := Lib.hid ((HB2.out.trans (hB3.mono HB2.out.size)).mono HSZ.out)
   have HR3 := Lib.hid hR3
   have HW3 : Hid (base ≤ w3.heap.size) := Lib.hid (Nat.le_trans HSZ.out (HB2.out.trans (hB3.mono HB2.out.size)).size)
   clear hB3 hR3 c2s HJ
   by_cases hE : tE1 sz x = 0
   · have HE : Hid (fnK sz (some x) = 1 ∧ fnO sz (some x) = tR1 sz x ∧ fnS st sz (some x) = 2 ∧ fnB sz (some x) = some x) := Lib.hid ⟨if_pos hE, if_pos hE, if_pos hE, if_pos hE⟩
     rw [hE]
     have hp1 := HQ3.out.a.p.p.cell (j := 1) (v := .int .i64 st) rfl
     have hf1 := HQ3.out.a.p.p.frozen 1
     clear hE
     go_wp2
     go_ret2
     rw [HE.out.1, HE.out.2.1, HE.out.2.2.1, HE.out.2.2.2]
     exact ⟨A3, n3, c3, R, _, rc, rfl, rd_other HR3.out HQ3.out.a.p.p (by simp) 1 _, HB3.out.grown (grownBy_set w3 P 1 (.int .i64 2)) HW3.out (fun q e => by cases e; exact HQ3.out.a.p.d), fun q hq hP _ => ((grownBy_set w3 P 1 (.int .i64 2)).block q (Nat.lt_of_lt_of_le hq HB33.out.size) (fun e => hP (Option.some.inj e))).trans (HB33.out.block q hq), HQ3.out.setP 2⟩
   · have q4 := bne_t hE
     have HE : Hid (fnK sz (some x) = 2 ∧ fnO sz (some x) = [] ∧ fnS st sz (some x) = st ∧ fnB sz (some x) = none) := Lib.hid ⟨if_neg hE, if_neg hE, if_neg hE, if_neg hE⟩
     have c43 := HQ3.out.a.p.p.cell (j := 4) (v := .slice (some ⟨G, 0, none⟩) 1 cap) rfl
     have hix := fun W => ixK G cap W
     have cg := HQ3.out.a.g.cell (j := 2) (v := .slice R x.length rc) rfl
     have fg := HQ3.out.a.g.frozen 2
     clear hE
     go_wp2_with fail
     refine wp_loop_rounds 3 ?_
     rw [rounds_succ]
     go_wp2_with fail
     rw [rounds_succ]
     go_wp2
     go_ret2
     rw [HE.out.1, HE.out.2.1, HE.out.2.2.1, HE.out.2.2.2]
     exact ⟨none, 0, 0, none, 0, 0, rfl, Rd.nilv _ _, HB3.out.grown (grownBy_set w3 G 2 (.slice none 0 0)) HW3.out (fun q e => by cases e; exact HQ3.out.a.b), fun q hq _ hG => ((grownBy_set w3 G 2 (.slice none 0 0)).block q (Nat.lt_of_lt_of_le hq HB33.out.size) (fun e => hG (Option.some.inj e))).trans (HB33.out.block q hq), HQ3.out.clearG⟩
end Go.Proofs.YtkdfefpnhaebfaaGreat
namespace Go.Proofs.YtkdfefpnhaebfaaGreat
open Go.RowKit
def b1 (s lm : Int) : List Int := (Cr.bufL (Cr.lo (s.toNat + 24)) (Cr.fi (s.toNat + 24))).take (Cr.szB (Cr.lo (s.toNat + 24)) lm)
def spE (s bt md lm rv : Int) (n : Nat) : Int := if Cr.VC s bt md lm rv = false ∨ (n : Int) ≠ bt then 2 else if Cr.usC (b1 s lm) = 0 ∧ 0 < n then 10 else 0
def SpQ (s bt md lm rv : Int) (n : Nat) (ys : List Int) (w : World) (e : Ending) (w' : World) : Prop :=
 Below w.heap.size w w' ∧ ∃ PA nP cP, e = .returned (.tuple #[.slice PA nP cP, .int .i64 (spE s bt md lm rv n)]) ∧ (spE s bt md lm rv n = 0 → nP = 1 ∧ w.heap.size ≤ blk PA ∧ ∃ Q qc, Rdv w' PA 1 cP [.slice Q n qc] ∧ Rd .i64 w' Q n qc ys ∧ (Q ≠ none → w.heap.size ≤ blk Q ∧ blk Q < w'.heap.size))
theorem vc_inv {s bt md lm rv : Int} (h : Cr.VC s bt md lm rv = true) : (1 ≤ s ∧ s ≤ 79536) ∧ (md = 2 ∨ md = 4 ∨ md = 6) ∧ (0 ≤ bt ∧ bt ≤ 131072) ∧ bt % md = 0 ∧ 1 ≤ lm ∧ 0 ≤ rv ∧ rv ≤ 3 := by
 unfold Cr.VC at h
 have h := of_decide_eq_true h
 exact ⟨⟨h.1, h.2.1⟩, h.2.2.1, ⟨h.2.2.2.1, h.2.2.2.2.1⟩, h.2.2.2.2.2.1, h.2.2.2.2.2.2.1, h.2.2.2.2.2.2.2⟩
theorem sz_one {b : Nat} (h1 : 1 ≤ b) (h : b ≤ 6144) : Cr.sz b 0 = Cr.lo b ∧ Cr.fl b 0 = Cr.fi b := by
 obtain ⟨e1, -⟩ := one_lay h1 h
 refine ⟨?_, rfl⟩
 unfold Cr.sz
 rw [e1]
 rfl
theorem split1 (s bt md lm rv : Int) (A : Option Addr) (n c : Nat) (ys : List Int) (w : World) (hy : Rd .i64 w A n c ys) (hs : s ≤ 6000) :
 Calls Tryz.prog 41 #[.agg #[.int .i64 s, .int .i64 bt, .int .i64 md, .int .i64 lm, .int .i64 rv], .slice A n c] w (SpQ s bt md lm rv n ys w) := by
 by_cases hv : Cr.VC s bt md lm rv = false ∨ (n : Int) ≠ bt
 · refine (Cr.tsplit_bad s bt md lm rv A n c w hv).mono ?_
   rintro e w' ⟨rfl, hB⟩
   have h1 : spE s bt md lm rv n = 2 := if_pos hv
   exact ⟨hB, none, 0, 0, by rw [h1], fun h => by rw [h1] at h; cases h⟩
 · have hV : Cr.VC s bt md lm rv = true := by
    cases h : Cr.VC s bt md lm rv with
    | true => rfl
    | false => exact absurd (.inl h) hv
   have hn : (n : Int) = bt := by
    apply Classical.byContradiction
    intro h
    exact hv (.inr h)
   obtain ⟨h1, h2, h3, h4, h5, h6⟩ := vc_inv hV
   obtain ⟨s, rfl⟩ := Int.eq_ofNat_of_zero_le (show 0 ≤ s by omega)
   obtain ⟨m, rfl⟩ := Int.eq_ofNat_of_zero_le (show 0 ≤ md by omega)
   obtain ⟨g, hg⟩ : ∃ g : Nat, n = m * g := by
    refine ⟨n / m, ?_⟩
    have h7 : n % m = 0 := by
     have : ((n % m : Nat) : Int) = 0 := by rw [Int.natCast_emod, hn]; exact h4
     omega
    have := Nat.div_add_mod n m
    omega
   have hC : (1 : Nat) = Cr.bC (s + 24) := (Cr.bC_one (by omega)).symm
   have hsplit := Cr.tsplit_ok s 1 g m lm rv A n c ys w (by omega) (by omega) hC (by omega) (by omega) h5 h6 hg hy
   rw [← hg, hn] at hsplit
   refine hsplit.mono ?_
   rintro e w' ⟨hB, h⟩
   have hsh : Cr.shN 1 g m 0 = n := by
    unfold Cr.shN
    rw [if_pos (by omega), Nat.div_one, hg, Nat.mul_comm]
   obtain ⟨z1, z2⟩ := sz_one (b := s + 24) (by omega) (by omega)
   have hbad : Cr.bad49 (s + 24) lm 1 g m 0 ↔ (Cr.usC (b1 (s : Int) lm) = 0 ∧ 0 < n) := by
    unfold Cr.bad49 Cr.uS b1
    rw [hsh, z1, z2]
    rfl
   rcases h with ⟨⟨q, hq, hb⟩, rfl⟩ | ⟨hno, A', c', L, rfl, hBI, hL⟩
   · obtain rfl : q = 0 := by omega
     have e1 : spE (s : Int) bt (m : Int) lm rv n = 10 := by unfold spE; rw [if_neg hv, if_pos (hbad.1 hb)]
     exact ⟨hB, none, 0, 0, by rw [e1], fun h => by rw [e1] at h; cases h⟩
   · have e1 : spE (s : Int) bt (m : Int) lm rv n = 0 := by unfold spE; rw [if_neg hv, if_neg (fun h => hno 0 (by omega) (hbad.2 h))]
     have hl1 : L.length = 1 := by
      have := congrArg List.length hL
      simpa [Cr.prtS] using this
     obtain ⟨sv, rfl⟩ := List.length_eq_one_iff.1 hl1
     have hys : sv.xs = ys := by
      have hyl := Rd.len hy
      simp [Cr.prtS, Cr.offS, hsh] at hL
      rw [hL, ← hyl, List.take_length]
     have hO := hBI.r sv (by simp)
     have hnn : sv.n = n := by rw [← Rd.len (Own.rd hO), hys]; exact Rd.len hy
     refine ⟨hB, A', 1, c', by rw [e1]; rfl, fun _ => ⟨rfl, (Ownv.blk_of hBI.o (by
      intro hA
      have h9 := hBI.o.rd.nil hA
      have h8 := hBI.o.rd.le
      simp at h8
      omega)).1, sv.A, sv.c, ?_, ?_, fun hA => Ownv.blk_of hO hA⟩⟩
     · have := hBI.o.rd
       simpa [Cr.Sv.v, hnn] using this
     · have := Own.rd hO
       rw [hys, hnn] at this
       exact this
attribute [local go_sem] Oper.semAt_some
def rcE (st sz lm s bt md l rv : Int) (fresh : Bool) (ys : List Int) (n : Nat) : Int :=
 if spE s bt md l rv n = 2 ∨ SoftB ys = false then 2 else if (fresh = false ∧ st ≠ 0) ∧ (s ≠ sz ∨ l ≠ lm) then 8 else spE s bt md l rv n
end Go.Proofs.YtkdfefpnhaebfaaGreat
namespace Go.Proofs.YtkdfefpnhaebfaaGreat.Cr
open Go.RowKit Go.Shelf
attribute [local go_sem] Oper.semAt_some
set_option maxRecDepth 100000
set_option maxHeartbeats 4000000
structure ClS (LB CB EB b : Nat) (lim : Int) (rv : Nat) (A : Option Addr) (n c : Nat) (xs : List Int) (Ae : Option Addr) (me ce i e : Nat) (W : World) : Prop where
 l : Blk W LB 31 (ints8 (LY b))
 c3 : W.cell? ⟨CB, 3, none⟩ = some (.int .i64 lim)
 c4 : W.cell? ⟨CB, 4, none⟩ = some (.int .i64 (rv : Int))
 e0 : W.cell? ⟨EB, 0, none⟩ = some (.slice Ae me ce)
 r : ∃ es : List Int, Rd .i64 W Ae me ce es ∧ gi es i = (e : Int)
 x : Rd .u8 W A n c xs
 hi : i < me
theorem ClS.below {LB CB EB b : Nat} {lim : Int} {rv : Nat} {A : Option Addr} {n c : Nat} {xs : List Int} {Ae : Option Addr} {me ce i e : Nat} {W W' : World} (h : ClS LB CB EB b lim rv A n c xs Ae me ce i e W) (hb : Below W.heap.size W W') : ClS LB CB EB b lim rv A n c xs Ae me ce i e W' := by
 obtain ⟨es, h1, h2⟩ := h.r
 exact ⟨h.l.below hb, cell_below h.c3 hb, cell_below h.c4 hb, cell_below h.e0 hb, ⟨es, Rdv.below h1 hb, h2⟩, Rdv.below h.x hb, h.hi⟩
theorem ClS.ce {LB CB EB b : Nat} {lim : Int} {rv : Nat} {A : Option Addr} {n c : Nat} {xs : List Int} {Ae : Option Addr} {me ce i e : Nat} {W : World} (h : ClS LB CB EB b lim rv A n c xs Ae me ce i e W) : W.cell? (adr Ae i) = some (.int .i64 (e : Int)) := by
 obtain ⟨es, h1, h2⟩ := h.r
 rw [← h2]; exact Rd.cell h1 h.hi
theorem cl28_any (LB CB EB b i e rv k : Nat) (lim : Int) (A Ae : Option Addr) (n c me ce : Nat) (xs B : List Int) (st Z : Nat) (W : World) (hS : ClS LB CB EB b lim rv A n c xs Ae me ce i e W)
 (hM : ∀ w, Rd .u8 w A n c xs → Calls Tryz.prog 32 #[.slice A n c, .int .i64 (fl b i : Int), .int .i64 lim, .int .i64 rv, .int .i64 e] w (MtPost xs B st Z e w)) :
 Calls Tryz.prog 31 #[.int .i64 i, .slice A n c, .pointer (some ⟨LB, 0, none⟩), .pointer (some ⟨CB, 0, none⟩), .pointer (some ⟨EB, 0, none⟩)] W (MtPost xs B st Z e W) := by
 have HM := Lib.hid hM
 have HS4 := Lib.hid hS
 have HSD := Lib.hid (ClS.below HS4.out ((Below.refl W.heap.size W).drew))
 clear hM hS
 go_enter Tryz.func31, Tryz.ntmps31
 go_wp2_with fail
 refine P_start (ClS LB CB EB b lim rv A n c xs Ae me ce i e) 12 17 #[false, false, false, false, false, false, false, false, false, false, false, false, false, false, false, false, false] (by kernel_rfl) (by kernel_rfl) (by kernel_rfl) ?_
 refine P_takeW 0 9 (.slice A n c) #[true, false, false, false, false, false, false, false, false, false, false, false, false, false, false, false, false] rfl rfl (by kernel_rfl) (by kernel_rfl) (by kernel_rfl) (by kernel_rfl) (by decide) (fun _ _ _ h => h) (Or.inl ⟨by rfl, fun W hS => by go_simp⟩) HSD.out ?_
 simp only [yq0, yq1, yq2]
 refine P_takeT 1 10 (.agg (ints8 (LY b)).toArray) #[true, true, false, false, false, false, false, false, false, false, false, false, false, false, false, false, false] [3] rfl rfl (by kernel_rfl) (by kernel_rfl) (by kernel_rfl) (by kernel_rfl) (by kernel_rfl) (by kernel_rfl) (by kernel_rfl) (by decide) (fun _ _ _ h => h) (yieldsIf_load_mid rfl 31 (.tmp 2) rfl LB (0) rfl (ints8 (LY b)) _ (fun W hS => fun q v hv => hS.l.cell (by rw [Nat.zero_add]; exact hv)) Tryz.underlying31 rfl (by rw [info23]; rfl)) HSD.out ?_
 simp only [yq0, yq1, yq2]
 refine P_takeW 2 11 (.int .i64 (i : Int)) #[true, true, true, false, false, false, false, false, false, false, false, false, false, false, false, false, false] rfl rfl (by kernel_rfl) (by kernel_rfl) (by kernel_rfl) (by kernel_rfl) (by decide) (fun _ _ _ h => h) (Or.inl ⟨by rfl, fun W hS => by go_simp⟩) HSD.out ?_
 simp only [yq0, yq1, yq2]
 refine P_takeW 4 13 (.pointer (some ⟨CB, 3, none⟩)) #[true, true, true, false, true, false, false, false, false, false, false, false, false, false, false, false, false] rfl rfl (by kernel_rfl) (by kernel_rfl) (by kernel_rfl) (by kernel_rfl) (by decide) (fun _ _ _ h => h) (Or.inl ⟨by rfl, fun W hS => by go_simp⟩) HSD.out ?_
 simp only [yq0, yq1, yq2]
 refine P_take 5 14 (.int .i64 lim) #[true, true, true, false, true, true, false, false, false, false, false, false, false, false, false, false, false] rfl rfl (by kernel_rfl) (by kernel_rfl) (by kernel_rfl) (by kernel_rfl) (by kernel_rfl) (by kernel_rfl) (by decide) (fun _ _ _ h => h) (Or.inl ⟨by rfl, fun W hS => by have h1 := hS.c3; go_simp⟩) HSD.out ?_
 simp only [yq0, yq1, yq2]
 refine P_takeW 6 15 (.pointer (some ⟨CB, 4, none⟩)) #[true, true, true, false, true, true, true, false, false, false, false, false, false, false, false, false, false] rfl rfl (by kernel_rfl) (by kernel_rfl) (by kernel_rfl) (by kernel_rfl) (by decide) (fun _ _ _ h => h) (Or.inl ⟨by rfl, fun W hS => by go_simp⟩) HSD.out ?_
 simp only [yq0, yq1, yq2]
 refine P_take 7 16 (.int .i64 (rv : Int)) #[true, true, true, false, true, true, true, true, false, false, false, false, false, false, false, false, false] rfl rfl (by kernel_rfl) (by kernel_rfl) (by kernel_rfl) (by kernel_rfl) (by kernel_rfl) (by kernel_rfl) (by decide) (fun _ _ _ h => h) (Or.inl ⟨by rfl, fun W hS => by have h1 := hS.c4; go_simp⟩) HSD.out ?_
 simp only [yq0, yq1, yq2]
 refine P_takeT 8 17 (.slice Ae me ce) #[true, true, true, false, true, true, true, true, true, false, false, false, false, false, false, false, false] [11, 10] rfl rfl (by kernel_rfl) (by kernel_rfl) (by kernel_rfl) (by kernel_rfl) (by kernel_rfl) (by kernel_rfl) (by kernel_rfl) (by decide) (fun _ _ _ h => h) (Or.inl ⟨by rfl, fun W hS => by have h1 := hS.e0; go_simp⟩) HSD.out ?_
 simp only [yq0, yq1, yq2]
 refine P_takeW 9 18 (.int .i64 (i : Int)) #[true, true, true, false, true, true, true, true, true, true, false, false, false, false, false, false, false] rfl rfl (by kernel_rfl) (by kernel_rfl) (by kernel_rfl) (by kernel_rfl) (by decide) (fun _ _ _ h => h) (Or.inl ⟨by rfl, fun W hS => by go_simp⟩) HSD.out ?_
 simp only [yq0, yq1, yq2]
 refine P_takeT 10 19 (.pointer (some (adr Ae i))) #[true, true, true, false, true, true, true, true, true, true, true, false, false, false, false, false, false] [11] rfl rfl (by kernel_rfl) (by kernel_rfl) (by kernel_rfl) (by kernel_rfl) (by kernel_rfl) (by kernel_rfl) (by kernel_rfl) (by decide) (fun _ _ _ h => h) (Or.inl ⟨by rfl, fun W hS => by obtain ⟨es, h2, -⟩ := hS.r; have h1 := fun W => Rdv.ix h2 el34 hS.hi .i64 W; go_simp⟩) HSD.out ?_
 simp only [yq0, yq1, yq2]
 refine P_take 11 20 (.int .i64 (e : Int)) #[true, true, true, false, true, true, true, true, true, true, true, true, false, false, false, false, false] rfl rfl (by kernel_rfl) (by kernel_rfl) (by kernel_rfl) (by kernel_rfl) (by kernel_rfl) (by kernel_rfl) (by decide) (fun _ _ _ h => h) (Or.inl ⟨by rfl, fun W hS => by have h1 := hS.ce; go_simp⟩) HSD.out ?_
 simp only [yq0, yq1, yq2]
 refine P_oneS 3 #[true, true, true, true, true, true, true, true, true, true, true, true, false, false, false, false, false] rfl (by kernel_rfl) (by kernel_rfl) rfl (fun K hK => ?_)
 go_simp
 refine (tfil_any b i _).mono ?_
 rintro en wa ⟨rfl, hBa⟩
 have HSa := Lib.hid (ClS.below HSD.out hBa)
 have HBa := Lib.hid (((Below.refl W.heap.size W).drew).trans hBa)
 clear hBa
 refine hK _ _ HSa.out ?_
 clear hK K
 refine P_one 12 #[true, true, true, true, true, true, true, true, true, true, true, true, true, false, false, false, false] rfl (by kernel_rfl) (by kernel_rfl) rfl (by kernel_rfl) (fun K hK => ?_)
 go_simp
 refine (HM.out _ HSa.out.x).mono ?_
 rintro en wb ⟨hBb, h⟩
 have HBb := Lib.hid (HBa.out.trans (hBb.mono HBa.out.size))
 clear hBb
 rcases h with ⟨hne, hu0, rfl⟩ | ⟨hor, Am, cm, T, hlen, rfl, hA, hO⟩
 · have HNE := Lib.hid hne
   have HU0 := Lib.hid hu0
   clear hne hu0
   refine hK _ _ ?_
   clear hK K
   refine P_takeX 13 22 (.slice none 0 0) #[true, true, true, true, true, true, true, true, true, true, true, true, true, true, false, false, false] rfl rfl (by kernel_rfl) (by kernel_rfl) (by kernel_rfl) (by kernel_rfl) (by decide) (fun _ _ _ h => h) (Or.inl ⟨by rfl, fun W hS => by go_simp⟩) rfl ?_
   simp only [yq0, yq1, yq2]
   refine P_takeX 14 23 (.int .i64 10) #[true, true, true, true, true, true, true, true, true, true, true, true, true, true, true, false, false] rfl rfl (by kernel_rfl) (by kernel_rfl) (by kernel_rfl) (by kernel_rfl) (by decide) (fun _ _ _ h => h) (Or.inl ⟨by rfl, fun W hS => by go_simp⟩) rfl ?_
   simp only [yq0, yq1, yq2]
   refine P_one 15 #[true, true, true, true, true, true, true, true, true, true, true, true, true, true, true, true, false] rfl (by kernel_rfl) (by kernel_rfl) rfl (by kernel_rfl) (fun K hK => ?_)
   go_simp
   refine hK _ _ ?_
   clear hK K
   refine P_one 16 #[true, true, true, true, true, true, true, true, true, true, true, true, true, true, true, true, true] rfl (by kernel_rfl) (by kernel_rfl) rfl (by kernel_rfl) (fun K hK => ?_)
   go_simp
   refine hK _ _ ?_
   clear hK K
   refine P_done (by kernel_rfl) ?_ _
   go_wp2
   go_ret2
   exact ⟨HBb.out, .inl ⟨HNE.out, HU0.out, rfl⟩⟩
 · have HOR := Lib.hid hor
   have HLN := Lib.hid hlen
   have HO := Lib.hid hO
   clear hor hlen hO
   refine hK _ _ ?_
   clear hK K
   refine P_takeX 13 22 (.slice Am e cm) #[true, true, true, true, true, true, true, true, true, true, true, true, true, true, false, false, false] rfl rfl (by kernel_rfl) (by kernel_rfl) (by kernel_rfl) (by kernel_rfl) (by decide) (fun _ _ _ h => h) (Or.inl ⟨by rfl, fun W hS => by go_simp⟩) rfl ?_
   simp only [yq0, yq1, yq2]
   refine P_takeX 14 23 (.int .i64 0) #[true, true, true, true, true, true, true, true, true, true, true, true, true, true, true, false, false] rfl rfl (by kernel_rfl) (by kernel_rfl) (by kernel_rfl) (by kernel_rfl) (by decide) (fun _ _ _ h => h) (Or.inl ⟨by rfl, fun W hS => by go_simp⟩) rfl ?_
   simp only [yq0, yq1, yq2]
   refine P_one 15 #[true, true, true, true, true, true, true, true, true, true, true, true, true, true, true, true, false] rfl (by kernel_rfl) (by kernel_rfl) rfl (by kernel_rfl) (fun K hK => ?_)
   go_simp
   refine hK _ _ ?_
   clear hK K
   refine P_one 16 #[true, true, true, true, true, true, true, true, true, true, true, true, true, true, true, true, true] rfl (by kernel_rfl) (by kernel_rfl) rfl (by kernel_rfl) (fun K hK => ?_)
   go_simp
   refine hK _ _ ?_
   clear hK K
   refine P_done (by kernel_rfl) ?_ _
   go_wp2
   go_ret2
   exact ⟨HBb.out, .inr ⟨HOR.out, Am, cm, T, HLN.out, rfl, hA, Ownv.mono HO.out HBa.out.size⟩⟩
def CePost (bad : Prop) (ys : List Int) (W : World) (en : Ending) (w' : World) : Prop :=
 Below W.heap.size W w' ∧ ((bad ∧ en = .returned (.tuple #[.slice none 0 0, .int .i64 10])) ∨ (¬ bad ∧ ∃ A' n' c', en = .returned (.tuple #[.slice A' n' c', .int .i64 0]) ∧ A' ≠ none ∧ Own .u8 5 w' W.heap.size A' n' c' ys))
def EwE (w : World) (C : Nat) (bad : Nat → Prop) (Y : Nat → List Int) (out i : Value) (wr : World) : Prop :=
 ∃ (j : Nat) (A : Option Addr) (c : Nat) (L : List Sv), j ≤ C ∧ out = .slice A L.length c ∧ i = .int .i64 (j : Int) ∧ L.length = j ∧ BL wr w.heap.size A c L ∧ L.map (·.xs) = (List.range j).map Y ∧ (∀ q, q < j → ¬ bad q) ∧ Below w.heap.size w wr
def EaPost (C : Nat) (bad : Nat → Prop) (Y : Nat → List Int) (W : World) (en : Ending) (w' : World) : Prop :=
 Below W.heap.size W w' ∧ (((∃ q, q < C ∧ bad q) ∧ en = .returned (.tuple #[.slice none 0 0, .int .i64 10])) ∨ ((∀ q, q < C → ¬ bad q) ∧ ∃ A c L, en = .returned (.tuple #[.slice A L.length c, .int .i64 0]) ∧ BL w' W.heap.size A c L ∧ L.map (·.xs) = (List.range C).map Y))
theorem each20e_any (A0 : Option Addr) (C c0 : Nat) (L0 : List Sv) (p1 p2 p3 : Value) (bad : Nat → Prop) (Y : Nat → List Int) (W : World) (hL : RL W A0 C c0 L0) (hC : C ≤ 1000)
 (hcl : ∀ (j : Nat) (s : Sv) (wr : World), L0[j]? = some s → Below W.heap.size W wr → Calls Tryz.prog 31 #[.int .i64 (j : Int), .slice s.A s.n s.c, p1, p2, p3] wr (CePost (bad j) (Y j) wr)) :
 Calls Tryz.prog 30 #[.slice A0 C c0, .func (.func 31) #[] #[p1, p2, p3]] W (EaPost C bad Y W) := by
 have hl0 := hL.len
 have HC := Lib.hid hcl
 have HL := Lib.hid hL
 clear hcl
 go_enter Tryz.func30, Tryz.ntmps30
 go_wp2
 go_loopw [6, 13] (fun out i wr => EwE W C bad Y out i wr) (fun _ i _ => C - (intOf i).toNat)
 case atStart => exact ⟨0, none, 0, [], by omega, rfl, rfl, rfl, BL.nil W _, rfl, fun q hq => by omega, Below.refl _ _⟩
 case round =>
  obtain ⟨j, A, c, L, hj, rfl, rfl, hlen, hBL, hxs, hnb, hB⟩ := hrel
  have HBL := Lib.hid hBL
  have HX := Lib.hid hxs
  have HB := Lib.hid hB
  have HNB := Lib.hid hnb
  subst hlen
  by_cases hlt : L.length < C
  · have hRL := HL.out.below hB
    obtain ⟨s, hs, hc, hR⟩ := hRL.get hlt
    have hix := fun W => Rdv.ix hRL.o el55 (j := L.length) hlt .i64 W
    have hcl := Lib.hid (HC.out L.length s wr hs hB)
    clear hBL hxs hR hRL hs hL hnb hB
    go_wp2_with fail
    refine hcl.out.mono ?_
    rintro en w1 ⟨hB', h⟩
    have HB' := Lib.hid hB'
    rcases h with ⟨hbad, rfl⟩ | ⟨hnb2, A', n', c', rfl, hA', hO'⟩
    · have HBAD := Lib.hid hbad
      have HD := Lib.hid (HB.out.trans (hB'.mono HB.out.size))
      have HLT := Lib.hid hlt
      clear hbad hB'
      go_wp2
      go_ret2
      exact ⟨HD.out, .inl ⟨⟨_, HLT.out, HBAD.out⟩, rfl⟩⟩
    · have HO' := Lib.hid hO'
      have HA' := Lib.hid hA'
      have HN2 := Lib.hid hnb2
      have HBL1 := Lib.hid (HBL.out.below hB')
      have HZ1 := Lib.hid (Nat.le_trans HB.out.size hB'.size)
      clear hO' hA' hnb2 hB' hcl
      go_wp2_with (at_builtin; refine list_of rfl fun K hK => wp_app1 (w := w1) (base := W.heap.size) _ _ 56 rfl el55 rfl (.slice A' n' c') rfl rfl HBL1.out.o (by omega) (by omega) HZ1.out ?_; intro A2 c2 w2 hO2 hg2; have HO2 := Lib.hid hO2; have HG2 := Lib.hid hg2; clear hO2 hg2; refine hK _ _ ?_; clear hK K)
      have hge := (Ownv.blk_of HO'.out HA'.out).1
      have hBL2 : BL w2 W.heap.size A2 c2 (L ++ [⟨A', n', c', Y L.length⟩]) :=
       BL.push HBL1.out (s := ⟨A', n', c', Y L.length⟩) (Ownv.mono HO'.out HB.out.size) HA'.out
        (fun t ht => by have h8 := (Ownv.blk_of (HBL.out.r t ht).1 (HBL.out.r t ht).2).2; exact Nat.ne_of_lt (Nat.lt_of_lt_of_le h8 hge)) HO2.out HG2.out
      have hob : ∀ k, (Value.slice A L.length c).ownBlock = some k → W.heap.size ≤ k := fun k hk => Ownv.ob' HBL1.out.o hk
      have hB1 := HB.out.trans (HB'.out.mono HB.out.size)
      have hB2 := hB1.grown HG2.out hB1.size hob
      go_roundw
      case rel => exact ⟨L.length + 1, A2, c2, L ++ [⟨A', n', c', Y L.length⟩], by omega, by first | (simp; done) | rfl, by first | (simp; done) | rfl | go_num, by simp, hBL2, by rw [List.map_append, HX.out, List.range_succ, List.map_append]; rfl, lt_succ_cases HNB.out HN2.out, hB2⟩
      case measure => simp [intOf]; omega
  · have he : L.length = C := by omega
    have HF : Hid (L.map (·.xs) = (List.range C).map Y) := Lib.hid (by rw [HX.out, he])
    have HNC : Hid (∀ q, q < C → ¬ bad q) := Lib.hid (by rw [← he]; exact HNB.out)
    clear hBL hxs hnb
    go_wp2
    go_ret2
    exact ⟨HB.out, .inr ⟨HNC.out, A, c, L, rfl, HBL.out, HF.out⟩⟩
end Go.Proofs.YtkdfefpnhaebfaaGreat.Cr
namespace Go.Proofs.YtkdfefpnhaebfaaGreat.Cr
open Go.RowKit
theorem s0 {α : Type} {l : List α} {i : Nat} {a : α} : l.toArray.setIfInBounds i a = (l.set i a).toArray := List.setIfInBounds_toArray _ _ _
theorem s1 {α : Type} {x a : α} {xs : List α} : (x :: xs).set 0 a = a :: xs := List.set_cons_zero
theorem s2 {α : Type} {x a : α} {xs : List α} {n : Nat} : (x :: xs).set (n + 1) a = x :: xs.set n a := List.set_cons_succ
section
variable {P : Program} {ops : Array Oper} {Q : Exit → Act → World → Prop} {md : Region.Mode} {S : World → Prop} {p n m fuel : Nat} {ts : Array Value} {ds : List Deferred} {w : World} {oi : Oper} {a : Act}
end
end Go.Proofs.YtkdfefpnhaebfaaGreat.Cr
