/- Bundle. Conditions: none. -/
import Derived.Test.YtkdfefpnhaebfaaGreatBuobq
import Derived.Test.YtkdfefpnhaebfaaGreatBuobr
set_option linter.unusedVariables false
set_option linter.unusedSimpArgs false
namespace Go.Proofs.YtkdfefpnhaebfaaGreat
open Go.RowKit
attribute [local go_sem] Oper.semAt_some
set_option maxRecDepth 100000
set_option maxHeartbeats 8000000
theorem Q_1SG {P : Program} {ops : Array Oper} {Q : Exit → Act → World → Prop} {md : Region.Mode} {S : World → Prop} {p n m fuel : Nat} {oi : Oper} {a : Act} {w : World} (i m' : Nat) (hi : ops[i]? = some oi) (h : ∀ K : Act → World → Prop, (∀ a' w', S w' → wpAnyP P md ops Q S p fuel (bz n m') a' w' → K a' w') → oi.wp P a w K Q)
 (hc : ckO md ops n m m' i = true := by kernel_rfl) (hg : Region.wanted oi (yielded ops a.tmps) = true := by rfl) : wpAnyP P md ops Q S p (fuel + 1) (bz n m) a w := by
 unfold ckO at hc
 simp only [Bool.and_eq_true, decide_eq_true_eq] at hc
 refine ⟨fun h0 => ?_, fun j hj => ?_⟩
 · rw [hc.2] at h0
   cases h0
 · rw [hc.2] at hj
   have hj' : j = i := by simpa using hj
   subst hj'
   unfold wpOp
   simp only [hi]
   rw [if_pos hg, hc.1]
   exact .inl (h _ fun _ _ h1 h2 => ⟨fun _ => h1, h2⟩)
theorem blk3 {W : World} {b : Nat} {t : TypeId} {x y z : Value} {rest : List Value} (h : Blk W b t (x :: y :: z :: rest)) : W.rangeAt b 0 [x, y, z] := fun q v hv => by
 rw [Nat.zero_add]
 refine h.cell ?_
 show ([x, y, z] ++ rest)[q]? = some v
 rw [List.getElem?_append_left (List.getElem?_eq_some_iff.1 hv).1]
 exact hv
theorem blk_ty {W : World} {b b' : Nat} {t t' : TypeId} {cs cs' : List Value} (h : Blk W b t cs) (h' : Blk W b' t' cs') (ht : t ≠ t') : b ≠ b' := by
 rintro rfl
 have := (show W.heap[b]? = _ from h).symm.trans h'
 simp only [Option.some.injEq, Obj.cells.injEq] at this
 exact ht this.2.1
def BtP (W : World) (R : Option Addr) (r rc : Nat) (b : Option (List Int)) : Prop := match b with
 | none => R = none ∧ r = 0 ∧ rc = 0
 | some x => R ≠ none ∧ r ≠ 0 ∧ Rd .u8 W R r rc x
structure HqP (W : World) (base P : Nat) (half st sz lm : Int) (G cap D k f : Nat) (V : Option Addr) (vc : Nat) (vs : List Int) (cnt : Int) (R : Option Addr) (r rc : Nat) (rest : List Value) (b : Option (List Int)) : Prop where
 a : PrB W base P half st sz lm G cap D ((k + f : Nat) : Int) R r rc rest
 d : DmS W base D k f lm V vc vs cnt
 t : BtP W R r rc b
 n : R ≠ none → blk R ≠ blk V ∧ blk R ≠ D ∧ blk R ≠ G ∧ blk R ≠ P
section
variable {W W' : World} {base P : Nat} {half st sz lm : Int} {G cap D k f : Nat} {V : Option Addr} {vc : Nat} {vs : List Int} {cnt : Int} {R : Option Addr} {r rc : Nat} {rest : List Value} {b : Option (List Int)}
theorem BtP.keep (h : BtP W R r rc b) (hk : ∀ x, Rd .u8 W R r rc x → Rd .u8 W' R r rc x) : BtP W' R r rc b := by
 cases b with
 | none => exact h
 | some x => exact ⟨h.1, h.2.1, hk x h.2.2⟩
theorem BtP.some_iff (h : BtP W R r rc b) : R.isSome = b.isSome := by
 cases b with
 | none => rw [h.1]; rfl
 | some x => cases R with
   | none => exact absurd rfl h.1
   | some a => rfl
theorem HqP.below (h : HqP W base P half st sz lm G cap D k f V vc vs cnt R r rc rest b) (hB : Below W.heap.size W W') : HqP W' base P half st sz lm G cap D k f V vc vs cnt R r rc rest b :=
 ⟨h.a.below hB, h.d.below hB, h.t.keep (fun x hx => Rdv.below hx hB), h.n⟩
theorem HqP.ne (h : HqP W base P half st sz lm G cap D k f V vc vs cnt R r rc rest b) : P ≠ D ∧ P ≠ G ∧ G ≠ D ∧ blk V ≠ P ∧ blk V ≠ G ∧ blk V ≠ D :=
 ⟨blk_ty h.a.p.p h.d.b (by decide), blk_ty h.a.p.p h.a.g (by decide), blk_ty h.a.g h.d.b (by decide), fun e => own_ne_blk h.d.v h.a.p.p (by decide) h.d.ne (by rw [e]), fun e => own_ne_blk h.d.v h.a.g (by decide) h.d.ne (by rw [e]), fun e => own_ne_blk h.d.v h.d.b (by decide) h.d.ne (by rw [e])⟩
end
noncomputable def dcB (vs : List Int) (k f : Nat) (half : Int) (b : Option (List Int)) : Option (List Int) := match b with
 | some x => some x
 | none => if Cr.knC vs (3 * (k + 4)) < k + f then none else if itE vs 1 half = 0 then some (itD vs 1 half) else none
theorem DmS.drew {W : World} {base D k f : Nat} {lim : Int} {V : Option Addr} {vc : Nat} {vs : List Int} {cnt : Int} (h : DmS W base D k f lim V vc vs cnt) : DmS W.drew base D k f lim V vc vs cnt := ⟨h.b.drew, Ownv.drew h.v, h.d⟩
theorem rd_ne {kd : IntKind} {W : World} {A : Option Addr} {n c : Nat} {xs : List Int} (h : Rd kd W A n c xs) (hn : 0 < n) : A ≠ none := fun hA => by
 have h1 := h.nil hA
 have h2 := h.le
 omega
theorem dBl {o : Ob} (h : o.ok) : o.dB.length = o.a.length := by unfold Ob.dB; rw [if_pos h]; simp
theorem it_lenK {vs : List Int} {kind most : Int} (h : itE vs kind most = 0) (hl : vs.length ≤ 1500) : (itD vs kind most).length = kOf vs ∧ 40 ≤ kOf vs := by
 by_cases hE : wrE vs kind most = 0
 · obtain ⟨a1, a2, a3, a4, a5⟩ := wrE_zero hE
   have hb := Tu.valid_bd a2
   unfold itE at h
   rw [if_pos hE] at h
   cases hf : fdN vs kind most with
   | none => rw [hf] at h; exact absurd h (by decide)
   | some j =>
     have hk : kOf vs ≤ 512 := by unfold kOf; omega
     refine ⟨?_, by unfold kOf; omega⟩
     rw [(it_of rfl hE hf).2.2]
     unfold decN
     split
     · show (obN vs (kOf vs) j).dB.length = _
       rw [dBl (obN_ok a5 (by unfold kOf at hk ⊢; omega) j)]
       show (apN vs (kOf vs) j).length = _
       rw [(apN_ok vs (kOf vs) j).1]
     · rw [pk_len, inv_len]
 · unfold itE at h
   rw [if_neg hE] at h
   exact absurd h hE
theorem elPP : El Tryz.prog 89 39 (.slice none 0 0) 24 := ⟨by kernel_rfl, by kernel_rfl, fun _ => by kernel_rfl, rfl⟩
theorem combine_any {w : World} {base P : Nat} {half st sz lm : Int} {G cap D k f : Nat} {V : Option Addr} {vc : Nat} {vs : List Int} {cnt : Int} {R : Option Addr} {r rc : Nat} {rest : List Value} {b : Option (List Int)} (hq : HqP w base P half st sz lm G cap D k f V vc vs cnt R r rc rest b) (hbs : base ≤ w.heap.size)
 (hk : 40 ≤ k ∧ k ≤ 496) (hf : f < k) (hlm : 1 ≤ lm) (rv m : Nat) (hrv : rv ≤ 3) (hm : m ≤ 131072) (hc : 0 ≤ cnt ∧ cnt ≤ 900000000) (hus : m = 0 ∨ Cr.usC ((Cr.bufL k f).take (Cr.szB k lm)) ≠ 0)
 (PA : Option Addr) (cP : Nat) (Q : Option Addr) (qc : Nat) (l : List Int) (hpa : Rdv w PA 1 cP [.slice Q m qc]) (hl : Rd .i64 w Q m qc l) (hs : SoftB l = true) (hQV : Q ≠ none → blk Q ≠ blk V) :
 Calls Tryz.prog 43 #[.pointer (some ⟨P, 0, none⟩), .int .i64 (rv : Int), .slice PA 1 cP] w fun e w' => (∃ v, e = .returned v) ∧ Below base w w' ∧ (∀ q, q < w.heap.size → q ≠ G → q ≠ D → q ≠ blk V → w'.heap[q]? = w.heap[q]?) ∧ ∃ T R' r' rc', (Cr.selL ((Cr.bufL k f).take (Cr.szB k lm)) (Cr.stS k (Cr.szB k lm) rv) (Cr.szB k lm) T).length = m ∧
  HqP w' base P half st sz lm G cap D k f V vc (cmbL (Cr.selL ((Cr.bufL k f).take (Cr.szB k lm)) (Cr.stS k (Cr.szB k lm) rv) (Cr.szB k lm) T) l vs m) (cnt + m) R' r' rc' rest (dcB (cmbL (Cr.selL ((Cr.bufL k f).take (Cr.szB k lm)) (Cr.stS k (Cr.szB k lm) rv) (Cr.szB k lm) T) l vs m) k f half b) := by
 obtain ⟨n1, n2, n3, n4, n5, n6⟩ := hq.ne
 have c4 := hq.a.p.p.cell (j := 4) (v := .slice (some ⟨G, 0, none⟩) 1 cap) rfl
 have hix := fun W => ixK G cap W
 have hpx := fun W => Rdv.ixI hpa elPP (j := 0) (by omega) .i64 0 rfl W
 have HS4 : Hid (w.drew.cell? ⟨G, 0, none⟩ = some (.pointer (some ⟨D, 0, none⟩)) ∧ w.drew.cell? (adr PA 0) = some (.slice Q m qc)) := Lib.hid ⟨hq.a.g.cell rfl, hpa.at_ 0 _ rfl⟩
 have HAD := Lib.hid (add_any rv Q m qc l w.drew hq.d.drew (Rdv.drew hl) hs hQV hbs hk.1 (by omega) hf hlm hrv hm (by omega))
 have HUS := Lib.hid hus
 have HQ := Lib.hid hq
 have HK9 := Lib.hid hk
 have HNE := Lib.hid (And.intro n1 (And.intro n2 (And.intro n3 (And.intro n4 (And.intro n5 n6)))))
 have HSZ := Lib.hid hbs
 obtain ⟨nd, hnd⟩ : ∃ nd : Nat, nd = k + f := ⟨_, rfl⟩
 have HND := Lib.hid hnd
 clear hq hpa hl hs hQV hk hf hlm hrv hm hc hus n1 n2 n3 n4 n5 n6 hbs hnd
 go_enter Tryz.func43, Tryz.ntmps43
 go_wp2_with fail
 refine wp_loop_rounds 3 ?_
 rw [rounds_succ]
 go_wp2_with fail
 refine Q_start (fun W9 => W9.cell? ⟨G, 0, none⟩ = some (.pointer (some ⟨D, 0, none⟩)) ∧ W9.cell? (adr PA 0) = some (.slice Q m qc)) 9 10 ?_
 refine Q_W 0 25 1 (.pointer (some ⟨G, 0, none⟩)) rfl HS4.out ?_
 simp only [z0, z1, z2]
 refine Q_W 1 26 3 (.pointer (some ⟨G, 0, none⟩)) rfl HS4.out ?_
 simp only [z0, z1, z2]
 refine Q_W 2 27 7 (.pointer (some ⟨G, 0, none⟩)) rfl HS4.out ?_
 simp only [z0, z1, z2]
 refine Q_T 3 28 15 (.pointer (some ⟨D, 0, none⟩)) [] rfl HS4.out (.inl ⟨by rfl, fun W hS => by obtain ⟨s0, s1⟩ := hS; go_simp⟩) ?_
 simp only [z0, z1, z2]
 refine Q_W 4 29 31 (.int .i64 (rv : Int)) rfl HS4.out ?_
 simp only [z0, z1, z2]
 refine Q_W 5 30 63 (.slice PA 1 cP) rfl HS4.out ?_
 simp only [z0, z1, z2]
 refine Q_W 6 31 127 (.int .i64 0) rfl HS4.out ?_
 simp only [z0, z1, z2]
 refine Q_W 7 32 255 (.pointer (some (adr PA 0))) rfl HS4.out ?_
 simp only [z0, z1, z2]
 refine Q_T 8 33 511 (.slice Q m qc) [] rfl HS4.out (.inl ⟨by rfl, fun W hS => by obtain ⟨s0, s1⟩ := hS; go_simp⟩) ?_
 simp only [z0, z1, z2]
 refine Q_1 9 1023 rfl (fun K hK => ?_)
 go_simp
 refine HAD.out.mono ?_
 rintro e w4 ⟨hB, hKp, hX⟩
 have hX2 : ∃ T vs2 v, e = .returned v ∧ (Cr.selL ((Cr.bufL k f).take (Cr.szB k lm)) (Cr.stS k (Cr.szB k lm) rv) (Cr.szB k lm) T).length = m ∧ vs2 = cmbL (Cr.selL ((Cr.bufL k f).take (Cr.szB k lm)) (Cr.stS k (Cr.szB k lm) rv) (Cr.szB k lm) T) l vs m ∧ DmS w4 base D k f lm V vc vs2 (cnt + m) := by
  rcases hX with ⟨h1, h2, -⟩ | ⟨-, T, hl2, he, hD6⟩
  · have h3 := HUS.out
    omega
  · exact ⟨T, _, _, he, hl2, rfl, hD6⟩
 obtain ⟨T, vs2, v, rfl, hT, hvs, hD4⟩ := hX2
 have HT := Lib.hid (And.intro hT hvs)
 have HD4 := Lib.hid hD4
 have HKP := Lib.hid hKp
 have HB4 : Hid (Below base w w4) := Lib.hid ((Below.refl base w).drew.trans hB)
 clear hB hKp hX hT hvs hD4
 refine hK _ _ ?_
 clear hK K
 refine Q_end ?_
 obtain ⟨m1, m2, m3, m4, m5, m6⟩ := HNE.out
 have hsz4 : w.heap.size ≤ w4.heap.size := HB4.out.size
 have hP4 : PrP w4 base P half st sz lm (some ⟨G, 0, none⟩) 1 cap := ⟨(HKP.out P HQ.out.a.p.p.lt m1 (fun e => m4 e.symm)).trans HQ.out.a.p.p, HQ.out.a.p.d⟩
 have hG4 : Blk w4 G 103 (.pointer (some ⟨D, 0, none⟩) :: .int .i64 (nd : Int) :: .slice R r rc :: rest) := (HKP.out G HQ.out.a.g.lt m3 (fun e => m5 e.symm)).trans (by rw [HND.out]; exact HQ.out.a.g)
 have ht4 : BtP w4 R r rc b := by
  have h0 := HQ.out.t
  cases b with
  | none => exact h0
  | some x => exact ⟨h0.1, h0.2.1, Cr.rd_heq h0.2.2 hsz4 (fun h => HKP.out _ h (HQ.out.n h0.1).2.1 (HQ.out.n h0.1).1)⟩
 have HQ4 : Hid (HqP w4 base P half st sz lm G cap D k f V vc vs2 (cnt + m) R r rc rest b) := Lib.hid ⟨⟨hP4, by rw [← HND.out]; exact hG4, HQ.out.a.b⟩, HD4.out, ht4, HQ.out.n⟩
 have HS5 := Lib.hid hG4.drew
 have HG4 := Lib.hid hG4
 have HP4 := Lib.hid hP4
 have HD5 := Lib.hid (fun W (h : Below w4.heap.size w4 W) => HD4.out.below h)
 have HW4 : Hid (base ≤ w4.heap.size) := Lib.hid (Nat.le_trans HSZ.out hsz4)
 have HTR := Lib.hid ht4.some_iff
 have HZ4 := Lib.hid hsz4
 clear m1 m2 m3 m4 m5 m6 hsz4 hP4 hG4 ht4 c4 hix hpx HAD HQ HS4 HNE
 cases b with
 | some x =>
   have HRS : Hid (R.isSome = true) := Lib.hid HTR.out
   go_wp2_with fail
   refine Q_start (fun W9 => Blk W9 G 103 (.pointer (some ⟨D, 0, none⟩) :: .int .i64 (nd : Int) :: .slice R r rc :: rest)) 15 16 ?_
   refine Q_W 0 35 1 (.pointer (some ⟨G, 0, none⟩)) rfl HS5.out ?_
   simp only [z0, z1, z2]
   refine Q_W 1 36 3 (.pointer (some ⟨G, 0, none⟩)) rfl HS5.out ?_
   simp only [z0, z1, z2]
   refine Q_T 2 37 7 (.agg #[.pointer (some ⟨D, 0, none⟩), .int .i64 (nd : Int), .slice R r rc]) [4, 3] rfl HS5.out (yieldsIf_load_mid rfl 103 (.tmp 36) rfl G (0) rfl [.pointer (some ⟨D, 0, none⟩), .int .i64 (nd : Int), .slice R r rc] _ (fun W hS => blk3 hS) Tryz.underlying103 rfl (by rw [infoBk]; rfl)) ?_
   simp only [z0, z1, z2]
   refine Q_1S 3 15 rfl (fun K hK => ?_)
   go_simp
   refine (decoded_any (.pointer (some ⟨D, 0, none⟩)) (nd : Int) R r rc _).mono ?_
   rintro e w5 ⟨rfl, hB⟩
   have HS6 := Lib.hid (HS5.out.below hB)
   have HB5 := Lib.hid ((Below.refl _ w4).drew.trans hB)
   clear hB
   refine hK _ _ HS6.out ?_
   clear hK K
   rw [HRS.out]
   refine Q_W 4 39 31 (.bool true) rfl HS6.out ?_
   simp only [z0, z1, z2]
   refine Q_W 5 40 63 (undef) rfl HS6.out ?_ (hy := .inr ⟨by rfl, rfl⟩)
   simp only [z0, z1, z2]
   refine Q_W 6 41 127 (undef) rfl HS6.out ?_ (hy := .inr ⟨by rfl, rfl⟩)
   simp only [z0, z1, z2]
   refine Q_W 7 42 255 (undef) rfl HS6.out ?_ (hy := .inr ⟨by rfl, rfl⟩)
   simp only [z0, z1, z2]
   refine Q_W 8 43 511 (undef) rfl HS6.out ?_ (hy := .inr ⟨by rfl, rfl⟩)
   simp only [z0, z1, z2]
   refine Q_W 9 44 1023 (undef) rfl HS6.out ?_ (hy := .inr ⟨by rfl, rfl⟩)
   simp only [z0, z1, z2]
   refine Q_W 10 45 2047 (undef) rfl HS6.out ?_ (hy := .inr ⟨by rfl, rfl⟩)
   simp only [z0, z1, z2]
   refine Q_W 11 46 4095 (undef) rfl HS6.out ?_ (hy := .inr ⟨by rfl, rfl⟩)
   simp only [z0, z1, z2]
   refine Q_W 12 47 8191 (undef) rfl HS6.out ?_ (hy := .inr ⟨by rfl, rfl⟩)
   simp only [z0, z1, z2]
   refine Q_W 13 48 16383 (undef) rfl HS6.out ?_ (hy := .inr ⟨by rfl, rfl⟩)
   simp only [z0, z1, z2]
   refine Q_W 14 49 32767 (undef) rfl HS6.out ?_ (hy := .inr ⟨by rfl, rfl⟩)
   simp only [z0, z1, z2]
   refine Q_1 15 65535 rfl (fun K hK => ?_)
   go_simp
   refine hK _ _ ?_
   clear hK K
   refine Q_end ?_
   go_wp2_with fail
   rw [rounds_succ]
   go_wp2
   go_end0
   exact ⟨⟨_, rfl⟩, HB4.out.trans (HB5.out.mono HW4.out), fun q hq _ hD hV => (HB5.out.block q (Nat.lt_of_lt_of_le hq HZ4.out)).trans (HKP.out q hq hD hV), T, R, r, rc, HT.out.1, by rw [← HT.out.2]; exact HQ4.out.below HB5.out⟩
 | none =>
   have HRS : Hid (R.isSome = false) := Lib.hid HTR.out
   obtain ⟨kn, hkn⟩ : ∃ kn, Cr.knC vs2 (3 * (k + 4)) = kn := ⟨_, rfl⟩
   have HKN := Lib.hid hkn
   clear hkn
   by_cases hlt : kn < nd
   · have q1 : decide ((kn : Int) < (nd : Int)) = true := by rw [decide_eq_true_iff]; omega
     have HDC : Hid (dcB vs2 k f half none = none) := Lib.hid (by unfold dcB; dsimp only; rw [HKN.out, if_pos (by rw [← HND.out]; exact hlt)])
     have q2 : decide (kn < nd) = true := decide_eq_true hlt
     go_wp2_with fail
     refine Q_start (fun W9 => Blk W9 G 103 (.pointer (some ⟨D, 0, none⟩) :: .int .i64 (nd : Int) :: .slice R r rc :: rest)) 15 16 ?_
     refine Q_W 0 35 1 (.pointer (some ⟨G, 0, none⟩)) rfl HS5.out ?_
     simp only [z0, z1, z2]
     refine Q_W 1 36 3 (.pointer (some ⟨G, 0, none⟩)) rfl HS5.out ?_
     simp only [z0, z1, z2]
     refine Q_T 2 37 7 (.agg #[.pointer (some ⟨D, 0, none⟩), .int .i64 (nd : Int), .slice R r rc]) [4, 3] rfl HS5.out (yieldsIf_load_mid rfl 103 (.tmp 36) rfl G (0) rfl [.pointer (some ⟨D, 0, none⟩), .int .i64 (nd : Int), .slice R r rc] _ (fun W hS => blk3 hS) Tryz.underlying103 rfl (by rw [infoBk]; rfl)) ?_
     simp only [z0, z1, z2]
     refine Q_1S 3 15 rfl (fun K hK => ?_)
     go_simp
     refine (decoded_any (.pointer (some ⟨D, 0, none⟩)) (nd : Int) R r rc _).mono ?_
     rintro e w5 ⟨rfl, hB⟩
     have HS6 := Lib.hid (HS5.out.below hB)
     have HB5 := Lib.hid ((Below.refl _ w4).drew.trans hB)
     clear hB
     refine hK _ _ HS6.out ?_
     clear hK K
     rw [HRS.out]
     refine Q_W 4 39 31 (.bool false) rfl HS6.out ?_
     simp only [z0, z1, z2]
     refine Q_W 5 40 63 (.pointer (some ⟨G, 0, none⟩)) rfl HS6.out ?_
     simp only [z0, z1, z2]
     refine Q_W 6 41 127 (.pointer (some ⟨G, 0, none⟩)) rfl HS6.out ?_
     simp only [z0, z1, z2]
     refine Q_W 7 42 255 (.pointer (some ⟨G, 0, none⟩)) rfl HS6.out ?_
     simp only [z0, z1, z2]
     refine Q_T 8 43 511 (.pointer (some ⟨D, 0, none⟩)) [14, 9] rfl HS6.out (.inl ⟨by rfl, fun W hS => by have s0 := Blk.cell hS (j := 0) (v := .pointer (some ⟨D, 0, none⟩)) rfl; go_simp⟩) ?_
     simp only [z0, z1, z2]
     refine Q_W 10 45 1535 (.pointer (some ⟨G, 0, none⟩)) rfl HS6.out ?_
     simp only [z0, z1, z2]
     refine Q_W 11 46 3583 (.pointer (some ⟨G, 0, none⟩)) rfl HS6.out ?_
     simp only [z0, z1, z2]
     refine Q_W 12 47 7679 (.pointer (some ⟨G, 1, none⟩)) rfl HS6.out ?_
     simp only [z0, z1, z2]
     refine Q_T 13 48 15871 (.int .i64 (nd : Int)) [14] rfl HS6.out (.inl ⟨by rfl, fun W hS => by have s0 := Blk.cell hS (j := 1) (v := .int .i64 (nd : Int)) rfl; go_simp⟩) ?_
     simp only [z0, z1, z2]
     refine Q_1SG 9 16383 rfl (fun K hK => ?_)
     go_simp
     refine (Cr.known_any (HD5.out w5 HB5.out) (by have := HK9.out; omega)).mono ?_
     rintro e w7 ⟨rfl, hB⟩
     rw [HKN.out]
     have HS7 := Lib.hid (HS6.out.below hB)
     have HB7 := Lib.hid (HB5.out.trans (hB.mono HB5.out.size))
     clear hB
     refine hK _ _ HS7.out ?_
     clear hK K
     refine Q_W 14 49 32767 (.bool (decide ((kn : Int) < (nd : Int)))) rfl HS7.out ?_
     simp only [z0, z1, z2]
     refine Q_1 15 65535 rfl (fun K hK => ?_)
     go_simp
     refine hK _ _ ?_
     clear hK K
     refine Q_end ?_
     go_wp2_with fail
     rw [rounds_succ]
     go_wp2
     go_end0
     exact ⟨⟨_, rfl⟩, HB4.out.trans (HB7.out.mono HW4.out), fun q hq _ hD hV => (HB7.out.block q (Nat.lt_of_lt_of_le hq HZ4.out)).trans (HKP.out q hq hD hV), T, R, r, rc, HT.out.1, by rw [← HT.out.2, HDC.out]; exact HQ4.out.below HB7.out⟩
   · have q1 : decide ((kn : Int) < (nd : Int)) = false := by rw [decide_eq_false_iff_not]; omega
     have HDC : Hid (dcB vs2 k f half none = if itE vs2 1 half = 0 then some (itD vs2 1 half) else none) := Lib.hid (by unfold dcB; dsimp only; rw [HKN.out, if_neg (by rw [← HND.out]; exact hlt)])
     have q2 : decide (kn < nd) = false := decide_eq_false hlt
     have q3 : nd ≤ kn := by omega
     clear hlt
     go_wp2_with fail
     refine Q_start (fun W9 => Blk W9 G 103 (.pointer (some ⟨D, 0, none⟩) :: .int .i64 (nd : Int) :: .slice R r rc :: rest)) 15 16 ?_
     refine Q_W 0 35 1 (.pointer (some ⟨G, 0, none⟩)) rfl HS5.out ?_
     simp only [z0, z1, z2]
     refine Q_W 1 36 3 (.pointer (some ⟨G, 0, none⟩)) rfl HS5.out ?_
     simp only [z0, z1, z2]
     refine Q_T 2 37 7 (.agg #[.pointer (some ⟨D, 0, none⟩), .int .i64 (nd : Int), .slice R r rc]) [4, 3] rfl HS5.out (yieldsIf_load_mid rfl 103 (.tmp 36) rfl G (0) rfl [.pointer (some ⟨D, 0, none⟩), .int .i64 (nd : Int), .slice R r rc] _ (fun W hS => blk3 hS) Tryz.underlying103 rfl (by rw [infoBk]; rfl)) ?_
     simp only [z0, z1, z2]
     refine Q_1S 3 15 rfl (fun K hK => ?_)
     go_simp
     refine (decoded_any (.pointer (some ⟨D, 0, none⟩)) (nd : Int) R r rc _).mono ?_
     rintro e w5 ⟨rfl, hB⟩
     have HS6 := Lib.hid (HS5.out.below hB)
     have HB5 := Lib.hid ((Below.refl _ w4).drew.trans hB)
     clear hB
     refine hK _ _ HS6.out ?_
     clear hK K
     rw [HRS.out]
     refine Q_W 4 39 31 (.bool false) rfl HS6.out ?_
     simp only [z0, z1, z2]
     refine Q_W 5 40 63 (.pointer (some ⟨G, 0, none⟩)) rfl HS6.out ?_
     simp only [z0, z1, z2]
     refine Q_W 6 41 127 (.pointer (some ⟨G, 0, none⟩)) rfl HS6.out ?_
     simp only [z0, z1, z2]
     refine Q_W 7 42 255 (.pointer (some ⟨G, 0, none⟩)) rfl HS6.out ?_
     simp only [z0, z1, z2]
     refine Q_T 8 43 511 (.pointer (some ⟨D, 0, none⟩)) [14, 9] rfl HS6.out (.inl ⟨by rfl, fun W hS => by have s0 := Blk.cell hS (j := 0) (v := .pointer (some ⟨D, 0, none⟩)) rfl; go_simp⟩) ?_
     simp only [z0, z1, z2]
     refine Q_W 10 45 1535 (.pointer (some ⟨G, 0, none⟩)) rfl HS6.out ?_
     simp only [z0, z1, z2]
     refine Q_W 11 46 3583 (.pointer (some ⟨G, 0, none⟩)) rfl HS6.out ?_
     simp only [z0, z1, z2]
     refine Q_W 12 47 7679 (.pointer (some ⟨G, 1, none⟩)) rfl HS6.out ?_
     simp only [z0, z1, z2]
     refine Q_T 13 48 15871 (.int .i64 (nd : Int)) [14] rfl HS6.out (.inl ⟨by rfl, fun W hS => by have s0 := Blk.cell hS (j := 1) (v := .int .i64 (nd : Int)) rfl; go_simp⟩) ?_
     simp only [z0, z1, z2]
     refine Q_1SG 9 16383 rfl (fun K hK => ?_)
     go_simp
     refine (Cr.known_any (HD5.out w5 HB5.out) (by have := HK9.out; omega)).mono ?_
     rintro e w7 ⟨rfl, hB⟩
     rw [HKN.out]
     have HS7 := Lib.hid (HS6.out.below hB)
     have HB7 := Lib.hid (HB5.out.trans (hB.mono HB5.out.size))
     clear hB
     refine hK _ _ HS7.out ?_
     clear hK K
     refine Q_W 14 49 32767 (.bool (decide ((kn : Int) < (nd : Int)))) rfl HS7.out ?_
     simp only [z0, z1, z2]
     refine Q_1 15 65535 rfl (fun K hK => ?_)
     go_simp
     refine hK _ _ ?_
     clear hK K
     refine Q_end ?_
     have HQ7 := Lib.hid (HQ4.out.below HB7.out)
     have HD7 := Lib.hid HQ7.out.d
     have HP7 := Lib.hid HQ7.out.a.p
     have HG7 := Lib.hid HQ7.out.a.g
     have HS8 := Lib.hid (And.intro (HG7.out.drew.cell (j := 0) (v := .pointer (some ⟨D, 0, none⟩)) rfl) (HP7.out.p.drew.cell (j := 0) (v := .int .i64 half) rfl))
     go_wp2_with fail
     refine Q_start (fun W9 => W9.cell? ⟨G, 0, none⟩ = some (.pointer (some ⟨D, 0, none⟩)) ∧ W9.cell? ⟨P, 0, none⟩ = some (.int .i64 half)) 11 19 ?_
     refine Q_W 0 52 1 (.pointer (some ⟨G, 0, none⟩)) rfl HS8.out ?_
     simp only [z0, z1, z2]
     refine Q_W 1 53 3 (.pointer (some ⟨G, 0, none⟩)) rfl HS8.out ?_
     simp only [z0, z1, z2]
     refine Q_W 2 54 7 (.pointer (some ⟨G, 0, none⟩)) rfl HS8.out ?_
     simp only [z0, z1, z2]
     refine Q_T 3 55 15 (.pointer (some ⟨D, 0, none⟩)) [4] rfl HS8.out (.inl ⟨by rfl, fun W hS => by obtain ⟨s0, s1⟩ := hS; go_simp⟩) ?_
     simp only [z0, z1, z2]
     refine Q_W 5 57 47 (.pointer (some ⟨P, 0, none⟩)) rfl HS8.out ?_
     simp only [z0, z1, z2]
     refine Q_W 7 59 175 (.pointer (some ⟨P, 0, none⟩)) rfl HS8.out ?_
     simp only [z0, z1, z2]
     refine Q_W 8 60 431 (.pointer (some ⟨P, 0, none⟩)) rfl HS8.out ?_
     simp only [z0, z1, z2]
     refine Q_W 9 61 943 (.pointer (some ⟨P, 0, none⟩)) rfl HS8.out ?_
     simp only [z0, z1, z2]
     refine Q_T 10 62 1967 (.int .i64 half) [] rfl HS8.out (.inl ⟨by rfl, fun W hS => by obtain ⟨s0, s1⟩ := hS; go_simp⟩) ?_
     simp only [z0, z1, z2]
     refine Q_1S 4 1983 rfl (fun K hK => ?_)
     go_simp
     refine (values_any HD7.out.drew (by have := HK9.out; omega)).mono ?_
     rintro e w8 ⟨A8, c8, rfl, hO, hB⟩
     have HB8 := Lib.hid ((Below.refl _ w7).drew.trans hB)
     have HP8 := Lib.hid (HP7.out.below HB8.out)
     have HG8 := Lib.hid (HG7.out.below HB8.out)
     have HO8 := Lib.hid hO
     have HS9 := Lib.hid (And.intro (HG8.out.cell (j := 0) (v := .pointer (some ⟨D, 0, none⟩)) rfl) (HP8.out.p.cell (j := 0) (v := .int .i64 half) rfl))
     clear hO hB
     refine hK _ _ HS9.out ?_
     clear hK K
     refine Q_1S 6 2047 rfl (fun K hK => ?_)
     go_simp
     refine (pkind_any HP8.out).mono ?_
     rintro e w9 ⟨rfl, rfl⟩
     refine hK _ _ HS9.out ?_
     clear hK K
     refine Q_1 11 4095 rfl (fun K hK => ?_)
     go_simp
     refine (dec_any A8 (3 * (k + 4)) c8 vs2 1 half w8 (Own.rd HO8.out) (by have := HK9.out; omega)).mono ?_
     rintro e w9 ⟨R2, n2, rc2, rfl, hR2, hF2, hB⟩
     have HB9 := Lib.hid (HB8.out.trans (hB.mono HB8.out.size))
     have HR2 := Lib.hid hR2
     have HF2 := Lib.hid (fun hA => Nat.le_trans HB8.out.size (hF2 hA))
     clear hR2 hF2 hB
     refine hK _ _ ?_
     clear hK K
     refine Q_X 12 51 8191 (.tuple #[.slice R2 n2 rc2, .int .i64 (itH vs2 1 half), .int .i64 (itE vs2 1 half)]) rfl ?_
     simp only [z0, z1, z2]
     refine Q_X 13 64 16383 (.slice R2 n2 rc2) rfl ?_
     simp only [z0, z1, z2]
     refine Q_X 14 65 32767 (.int .i64 (itH vs2 1 half)) rfl ?_
     simp only [z0, z1, z2]
     refine Q_X 15 66 65535 (.int .i64 (itE vs2 1 half)) rfl ?_
     simp only [z0, z1, z2]
     refine Q_1 16 131071 rfl (fun K hK => ?_)
     go_simp
     refine hK _ _ ?_
     clear hK K
     refine Q_1 17 262143 rfl (fun K hK => ?_)
     go_simp
     refine hK _ _ ?_
     clear hK K
     refine Q_1 18 524287 rfl (fun K hK => ?_)
     go_simp
     refine hK _ _ ?_
     clear hK K
     refine Q_end ?_
     have hl2 := Rd.len (Own.rd HD7.out.v)
     have hG9 := HG7.out.below HB9.out
     have cg := hG9.cell (j := 2) (v := .slice R r rc) rfl
     have fg := hG9.frozen 2
     have HQ9 := Lib.hid (HQ7.out.below HB9.out)
     by_cases hE : itE vs2 1 half = 0
     · have HE := Lib.hid (it_lenK hE (by have := HK9.out; omega))
       rw [hE, if_pos rfl] at HDC
       rw [hE]
       clear hE hG9 hl2
       go_wp2_with fail
       rw [rounds_succ]
       go_wp2
       go_end0
       have hs := grownBy_set w9 G 2 (.slice R2 n2 rc2)
       obtain ⟨m1, m2, m3, m4, m5, m6⟩ := HQ9.out.ne
       have hn2 := Rd.len HR2.out
       have hE := HE.out
       have hR2 : R2 ≠ none := rd_ne HR2.out (by omega)
       have hge := HF2.out hR2
       have l1 := (Ownv.blk_of HQ7.out.d.v HQ7.out.d.ne).2
       have l2 := HQ7.out.d.b.lt
       have l3 := HQ7.out.a.g.lt
       have l4 := HQ7.out.a.p.p.lt
       have hB97 := HB7.out.trans (HB9.out.mono HB7.out.size)
       have hB9 := HB4.out.trans ((HB7.out.trans (HB9.out.mono HB7.out.size)).mono HW4.out)
       refine ⟨⟨_, rfl⟩, hB9.grown hs (Nat.le_trans HSZ.out hB9.size) (fun q e => by cases e; exact HQ9.out.a.b), fun q hq hG hD hV => ((hs.block q (Nat.lt_of_lt_of_le hq hB9.size) (fun e => hG (Option.some.inj e))).trans (hB97.block q (Nat.lt_of_lt_of_le hq HZ4.out))).trans (HKP.out q hq hD hV), T, R2, n2, rc2, HT.out.1, ?_⟩
       rw [← HT.out.2, HDC.out]
       exact ⟨⟨⟨HQ9.out.a.p.p.other (Ne.symm m2) 2 _, HQ9.out.a.p.d⟩, HQ9.out.a.g.set 2 _, HQ9.out.a.b⟩, HQ9.out.d.grown hs (Ne.symm m3) m5, ⟨hR2, by omega, Rdv.grown HR2.out hs (fun _ e => by have := Option.some.inj e; omega)⟩, fun _ => ⟨by omega, by omega, by omega, by omega⟩⟩
     · have q4 := beq_f hE
       rw [if_neg hE] at HDC
       clear hG9 hl2
       go_wp2_with fail
       rw [rounds_succ]
       go_wp2
       go_end0
       have hB97 := HB7.out.trans (HB9.out.mono HB7.out.size)
       have hB9 := HB4.out.trans ((HB7.out.trans (HB9.out.mono HB7.out.size)).mono HW4.out)
       refine ⟨⟨_, rfl⟩, hB9, fun q hq hG hD hV => (hB97.block q (Nat.lt_of_lt_of_le hq HZ4.out)).trans (HKP.out q hq hD hV), T, R, r, rc, HT.out.1, ?_⟩
       rw [← HT.out.2, HDC.out]
       exact HQ9.out
end Go.Proofs.YtkdfefpnhaebfaaGreat
