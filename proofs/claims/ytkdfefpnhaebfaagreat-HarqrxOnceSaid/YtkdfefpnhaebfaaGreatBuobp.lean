/- Bundle. Conditions: none. -/
import Derived.Test.YtkdfefpnhaebfaaGreatBuobo
set_option linter.unusedVariables false
set_option linter.unusedSimpArgs false
namespace Go.Proofs.YtkdfefpnhaebfaaGreat
open Go.RowKit
attribute [local go_sem] Oper.semAt_some
set_option maxRecDepth 100000
set_option maxHeartbeats 2000000
theorem DmS.below {W W' : World} {base D k f : Nat} {lim : Int} {V : Option Addr} {vc : Nat} {vs : List Int} {cnt : Int} (h : DmS W base D k f lim V vc vs cnt) (hB : Below W.heap.size W W') : DmS W' base D k f lim V vc vs cnt := ⟨h.b.below hB, Ownv.below h.v hB, h.d⟩
theorem sel_pos (k f : Nat) (lim : Int) (st : Nat) (hl : 1 ≤ lim) (T j : Nat) (hj : j < (Cr.selL ((Cr.bufL k f).take (Cr.szB k lim)) st (Cr.szB k lim) T).length) : ∃ p : Nat, gi (Cr.selL ((Cr.bufL k f).take (Cr.szB k lim)) st (Cr.szB k lim) T) j = (p : Int) ∧ p < 3 * (k + 4) := by
 have hzb := Cr.szB_bd k hl
 have hlen : Cr.szB k lim ≤ ((Cr.bufL k f).take (Cr.szB k lim)).length := by
  rw [List.length_take, show (Cr.bufL k f).length = 3 * Cr.nB k from by unfold Cr.bufL; exact Cr.bufT_len _ _ _]
  omega
 have hm := gi_mem _ j hj
 obtain ⟨h0, h1⟩ := Cr.selL_mem hzb.1 hlen T _ hm
 have h2 := Cr.bufL_bd k f (Cr.szB k lim) _ h1
 exact ⟨(gi (Cr.selL ((Cr.bufL k f).take (Cr.szB k lim)) st (Cr.szB k lim) T) j).toNat, by omega, by omega⟩
def AdP (base D k f : Nat) (lim : Int) (rv m : Nat) (V : Option Addr) (vc : Nat) (vs l : List Int) (cnt : Int) (W : World) (e : Ending) (w' : World) : Prop :=
 Below base W w' ∧ (∀ q, q < W.heap.size → q ≠ D → q ≠ blk V → w'.heap[q]? = W.heap[q]?) ∧ ((m ≠ 0 ∧ Cr.usC ((Cr.bufL k f).take (Cr.szB k lim)) = 0 ∧ e = .returned (.int .i64 10) ∧ DmS w' base D k f lim V vc vs cnt) ∨
  ((m = 0 ∨ Cr.usC ((Cr.bufL k f).take (Cr.szB k lim)) ≠ 0) ∧ ∃ T, (Cr.selL ((Cr.bufL k f).take (Cr.szB k lim)) (Cr.stS k (Cr.szB k lim) rv) (Cr.szB k lim) T).length = m ∧ e = .returned (.int .i64 0) ∧
    DmS w' base D k f lim V vc (cmbL (Cr.selL ((Cr.bufL k f).take (Cr.szB k lim)) (Cr.stS k (Cr.szB k lim) rv) (Cr.szB k lim) T) l vs m) (cnt + m)))
theorem add_any {base D k f : Nat} {lim : Int} {V : Option Addr} {vc : Nat} {vs : List Int} {cnt : Int} (rv : Nat) (A : Option Addr) (m c : Nat) (l : List Int) (W : World) (h : DmS W base D k f lim V vc vs cnt) (hl : Rd .i64 W A m c l) (hs : SoftB l = true) (hA : A ≠ none → blk A ≠ blk V) (hbs : base ≤ W.heap.size)
 (h1 : 40 ≤ k) (h2 : k ≤ 6144) (hf : f < k) (hlm : 1 ≤ lim) (hrv : rv ≤ 3) (hm : m ≤ 131072) (hc : 0 ≤ cnt ∧ cnt ≤ 1000000000) :
 Calls Tryz.prog 71 #[.pointer (some ⟨D, 0, none⟩), .int .i64 (rv : Int), .slice A m c] W (AdP base D k f lim rv m V vc vs l cnt W) := by
 have HPO := Lib.hid (fun W => Cr.positions_any k f rv m lim W h1 h2 hf hlm hrv hm)
 have HNO := Lib.hid (dnone_any h)
 have HSV := Lib.hid (svalid_any A m c l W hl)
 rw [hs] at HSV
 have HD := Lib.hid h
 have HL := Lib.hid hl
 have HAV := Lib.hid hA
 have hm2 : decide ((m : Int) > 131072) = false := by simp; omega
 have hm3 : ¬ (131072 : Int) < (m : Int) := by omega
 have HBS := Lib.hid hbs
 have HPB := Lib.hid (fun T j (hj : j < (Cr.selL ((Cr.bufL k f).take (Cr.szB k lim)) (Cr.stS k (Cr.szB k lim) rv) (Cr.szB k lim) T).length) => sel_pos k f lim (Cr.stS k (Cr.szB k lim) rv) hlm T j hj)
 clear h hl hs hA hbs
 go_enter Tryz.func71, Tryz.ntmps71
 by_cases hx : m ≠ 0 ∧ Cr.usC ((Cr.bufL k f).take (Cr.szB k lim)) = 0
 · have HX := Lib.hid hx
   clear hx
   go_wp2_with fail
   refine wp_scope_fwd 0 rfl ?_
   go_wp2_with fail
   refine HNO.out.mono ?_
   rintro e w1 ⟨rfl, rfl⟩
   go_wp2_with fail
   refine HSV.out.mono ?_
   rintro e W2 ⟨rfl, hB⟩
   have HB2 := Lib.hid hB
   have HD2 := Lib.hid (HD.out.below hB)
   have HS : Hid (W2.drew.cell? ⟨D, 0, none⟩ = some (.int .i64 (k : Int)) ∧ W2.drew.cell? ⟨D, 1, none⟩ = some (.int .i64 (f : Int)) ∧ W2.drew.cell? ⟨D, 2, none⟩ = some (.int .i64 lim)) := Lib.hid ⟨HD2.out.b.cell rfl, HD2.out.b.cell rfl, HD2.out.b.cell rfl⟩
   clear hB
   go_wp2_with fail
   refine Q_start (fun W9 => W9.cell? ⟨D, 0, none⟩ = some (.int .i64 (k : Int)) ∧ W9.cell? ⟨D, 1, none⟩ = some (.int .i64 (f : Int)) ∧ W9.cell? ⟨D, 2, none⟩ = some (.int .i64 lim)) 18 24 ?_
   refine Q_W 0 19 1 (.pointer (some ⟨D, 0, none⟩)) rfl HS.out ?_
   simp only [z0, z1, z2]
   refine Q_W 1 20 3 (.pointer (some ⟨D, 0, none⟩)) rfl HS.out ?_
   simp only [z0, z1, z2]
   refine Q_W 2 21 7 (.pointer (some ⟨D, 0, none⟩)) rfl HS.out ?_
   simp only [z0, z1, z2]
   refine Q_W 3 22 15 (.pointer (some ⟨D, 0, none⟩)) rfl HS.out ?_
   simp only [z0, z1, z2]
   refine Q_T 4 23 31 (.int .i64 (k : Int)) [] rfl HS.out (.inl ⟨by rfl, fun W hS => by obtain ⟨s0, s1, s2⟩ := hS; go_simp⟩) ?_
   simp only [z0, z1, z2]
   refine Q_W 5 24 63 (.pointer (some ⟨D, 0, none⟩)) rfl HS.out ?_
   simp only [z0, z1, z2]
   refine Q_W 6 25 127 (.pointer (some ⟨D, 0, none⟩)) rfl HS.out ?_
   simp only [z0, z1, z2]
   refine Q_W 7 26 255 (.pointer (some ⟨D, 0, none⟩)) rfl HS.out ?_
   simp only [z0, z1, z2]
   refine Q_W 8 27 511 (.pointer (some ⟨D, 1, none⟩)) rfl HS.out ?_
   simp only [z0, z1, z2]
   refine Q_T 9 28 1023 (.int .i64 (f : Int)) [] rfl HS.out (.inl ⟨by rfl, fun W hS => by obtain ⟨s0, s1, s2⟩ := hS; go_simp⟩) ?_
   simp only [z0, z1, z2]
   refine Q_W 10 29 2047 (.pointer (some ⟨D, 0, none⟩)) rfl HS.out ?_
   simp only [z0, z1, z2]
   refine Q_W 11 30 4095 (.pointer (some ⟨D, 0, none⟩)) rfl HS.out ?_
   simp only [z0, z1, z2]
   refine Q_W 12 31 8191 (.pointer (some ⟨D, 0, none⟩)) rfl HS.out ?_
   simp only [z0, z1, z2]
   refine Q_W 13 32 16383 (.pointer (some ⟨D, 2, none⟩)) rfl HS.out ?_
   simp only [z0, z1, z2]
   refine Q_T 14 33 32767 (.int .i64 lim) [] rfl HS.out (.inl ⟨by rfl, fun W hS => by obtain ⟨s0, s1, s2⟩ := hS; go_simp⟩) ?_
   simp only [z0, z1, z2]
   refine Q_W 15 34 65535 (.int .i64 (rv : Int)) rfl HS.out ?_
   simp only [z0, z1, z2]
   refine Q_W 16 35 131071 (.slice A m c) rfl HS.out ?_
   simp only [z0, z1, z2]
   refine Q_W 17 36 262143 (.int .i64 (m : Int)) rfl HS.out ?_
   simp only [z0, z1, z2]
   refine Q_1 18 524287 rfl (fun K hK => ?_)
   go_simp
   refine (HPO.out W2.drew).mono ?_
   rintro e w3 ⟨hB, hp⟩
   have HB3 : Hid (Below W2.heap.size W2 w3) := Lib.hid ((Below.refl _ W2).drew.trans hB)
   have HP3 := Lib.hid hp
   clear hB hp
   rcases HP3.out with ⟨g1, g2, rfl⟩ | ⟨g1, -⟩
   · refine hK _ _ ?_
     clear hK K g1 g2 HP3
     refine Q_1 19 1048575 rfl (fun K hK => ?_)
     go_simp
     refine hK _ _ ?_
     clear hK K
     refine Q_X 20 38 2097151 (.slice none 0 0) rfl ?_
     simp only [z0, z1, z2]
     refine Q_X 21 39 4194303 (.int .i64 10) rfl ?_
     simp only [z0, z1, z2]
     refine Q_1 22 8388607 rfl (fun K hK => ?_)
     go_simp
     refine hK _ _ ?_
     clear hK K
     refine Q_1 23 16777215 rfl (fun K hK => ?_)
     go_simp
     refine hK _ _ ?_
     clear hK K
     refine Q_end ?_
     go_wp2_with fail
     go_step3
     refine ⟨rfl, ?_⟩
     go_wp2
     simp only [Exit.jump]
     go_ret
     have hB9 := HB2.out.trans (HB3.out.mono HB2.out.size)
     exact ⟨hB9.mono HBS.out, fun q hq _ _ => hB9.block q hq, .inl ⟨HX.out.1, HX.out.2, rfl, HD2.out.below HB3.out⟩⟩
   · exact absurd HX.out (by omega)
 · have HX := Lib.hid hx
   clear hx
   go_wp2_with fail
   go_step3
   go_wp2_with fail
   refine HNO.out.mono ?_
   rintro e w1 ⟨rfl, rfl⟩
   go_wp2_with fail
   refine HSV.out.mono ?_
   rintro e W2 ⟨rfl, hB⟩
   have HB2 := Lib.hid hB
   have HD2 := Lib.hid (HD.out.below hB)
   have HL2 := Lib.hid (Rdv.below HL.out hB)
   have HS : Hid (W2.drew.cell? ⟨D, 0, none⟩ = some (.int .i64 (k : Int)) ∧ W2.drew.cell? ⟨D, 1, none⟩ = some (.int .i64 (f : Int)) ∧ W2.drew.cell? ⟨D, 2, none⟩ = some (.int .i64 lim)) := Lib.hid ⟨HD2.out.b.cell rfl, HD2.out.b.cell rfl, HD2.out.b.cell rfl⟩
   clear hB
   go_wp2_with fail
   refine Q_start (fun W9 => W9.cell? ⟨D, 0, none⟩ = some (.int .i64 (k : Int)) ∧ W9.cell? ⟨D, 1, none⟩ = some (.int .i64 (f : Int)) ∧ W9.cell? ⟨D, 2, none⟩ = some (.int .i64 lim)) 18 24 ?_
   refine Q_W 0 19 1 (.pointer (some ⟨D, 0, none⟩)) rfl HS.out ?_
   simp only [z0, z1, z2]
   refine Q_W 1 20 3 (.pointer (some ⟨D, 0, none⟩)) rfl HS.out ?_
   simp only [z0, z1, z2]
   refine Q_W 2 21 7 (.pointer (some ⟨D, 0, none⟩)) rfl HS.out ?_
   simp only [z0, z1, z2]
   refine Q_W 3 22 15 (.pointer (some ⟨D, 0, none⟩)) rfl HS.out ?_
   simp only [z0, z1, z2]
   refine Q_T 4 23 31 (.int .i64 (k : Int)) [] rfl HS.out (.inl ⟨by rfl, fun W hS => by obtain ⟨s0, s1, s2⟩ := hS; go_simp⟩) ?_
   simp only [z0, z1, z2]
   refine Q_W 5 24 63 (.pointer (some ⟨D, 0, none⟩)) rfl HS.out ?_
   simp only [z0, z1, z2]
   refine Q_W 6 25 127 (.pointer (some ⟨D, 0, none⟩)) rfl HS.out ?_
   simp only [z0, z1, z2]
   refine Q_W 7 26 255 (.pointer (some ⟨D, 0, none⟩)) rfl HS.out ?_
   simp only [z0, z1, z2]
   refine Q_W 8 27 511 (.pointer (some ⟨D, 1, none⟩)) rfl HS.out ?_
   simp only [z0, z1, z2]
   refine Q_T 9 28 1023 (.int .i64 (f : Int)) [] rfl HS.out (.inl ⟨by rfl, fun W hS => by obtain ⟨s0, s1, s2⟩ := hS; go_simp⟩) ?_
   simp only [z0, z1, z2]
   refine Q_W 10 29 2047 (.pointer (some ⟨D, 0, none⟩)) rfl HS.out ?_
   simp only [z0, z1, z2]
   refine Q_W 11 30 4095 (.pointer (some ⟨D, 0, none⟩)) rfl HS.out ?_
   simp only [z0, z1, z2]
   refine Q_W 12 31 8191 (.pointer (some ⟨D, 0, none⟩)) rfl HS.out ?_
   simp only [z0, z1, z2]
   refine Q_W 13 32 16383 (.pointer (some ⟨D, 2, none⟩)) rfl HS.out ?_
   simp only [z0, z1, z2]
   refine Q_T 14 33 32767 (.int .i64 lim) [] rfl HS.out (.inl ⟨by rfl, fun W hS => by obtain ⟨s0, s1, s2⟩ := hS; go_simp⟩) ?_
   simp only [z0, z1, z2]
   refine Q_W 15 34 65535 (.int .i64 (rv : Int)) rfl HS.out ?_
   simp only [z0, z1, z2]
   refine Q_W 16 35 131071 (.slice A m c) rfl HS.out ?_
   simp only [z0, z1, z2]
   refine Q_W 17 36 262143 (.int .i64 (m : Int)) rfl HS.out ?_
   simp only [z0, z1, z2]
   refine Q_1 18 524287 rfl (fun K hK => ?_)
   go_simp
   refine (HPO.out W2.drew).mono ?_
   rintro e w3 ⟨hB, hp⟩
   have HB3 : Hid (Below W2.heap.size W2 w3) := Lib.hid ((Below.refl _ W2).drew.trans hB)
   have HP3 := Lib.hid hp
   clear hB hp
   rcases HP3.out with ⟨g1, g2, rfl⟩ | ⟨g1, Ap, cp, T, hlen, rfl, hO⟩
   · exact absurd ⟨g1, g2⟩ HX.out
   · have HO3 := Lib.hid hO
     have HLE := Lib.hid hlen
     have HOR := Lib.hid g1
     refine hK _ _ ?_
     clear hK K g1 HP3 hO hlen
     refine Q_1 19 1048575 rfl (fun K hK => ?_)
     go_simp
     refine hK _ _ ?_
     clear hK K
     refine Q_X 20 38 2097151 (.slice Ap m cp) rfl ?_
     simp only [z0, z1, z2]
     refine Q_X 21 39 4194303 (.int .i64 0) rfl ?_
     simp only [z0, z1, z2]
     refine Q_1 22 8388607 rfl (fun K hK => ?_)
     go_simp
     refine hK _ _ ?_
     clear hK K
     refine Q_1 23 16777215 rfl (fun K hK => ?_)
     go_simp
     refine hK _ _ ?_
     clear hK K
     refine Q_end ?_
     have hD3 := HD2.out.below HB3.out
     have hV := hD3.ne
     have hgeV := Ownv.blk_of HD2.out.v HD2.out.ne
     have hDV : some (blk V) ≠ some D := own_ne_blk hD3.v hD3.b (by decide) hV
     have HCB := Lib.hid (combined_any V (3 * (k + 4)) vc base vs Ap m cp _ A c l w3 hD3.v (Own.rd HO3.out) (Rdv.below HL2.out HB3.out) (fun hA e => by
      have h9 := (Ownv.blk_of HO3.out hA).1
      have h8 : W2.heap.size ≤ blk Ap := h9
      omega) HAV.out (fun j hj => HPB.out T j (by have := HLE.out; omega)) (by omega))
     have c43 := hD3.b.cell (j := 3) (v := .slice V (3 * (k + 4)) vc) rfl
     have HD3 := Lib.hid hD3
     have HDV := Lib.hid hDV
     have HGV := Lib.hid (And.intro (Ownv.blk_of HD2.out.v HD2.out.ne).1 hV)
     clear hD3 hV hgeV hDV
     go_wp2_with fail
     refine HCB.out.mono ?_
     rintro e w4 ⟨⟨v, rfl⟩, hO4, hG4⟩
     have hb4 := HD3.out.b.grown hG4 (fun e => HDV.out (by rw [e]))
     have c44 := hb4.cell (j := 4) (v := .int .i64 cnt) rfl
     have f44 := hb4.frozen 4
     have HB4 := Lib.hid hb4
     have HO4 := Lib.hid hO4
     have HG4 := Lib.hid hG4
     have q9 : IntKind.i64.wrap (cnt + (m : Int)) = cnt + (m : Int) := IntWalk.i64_in _ (by omega)
     clear c43 hb4 hO4 hG4
     go_wp2
     rw [Exit.noGoto_ret]
     go_ret
     have hs := grownBy_set w4 D 4 (.int .i64 (cnt + (m : Int)))
     have hB9 := (HB2.out.trans (HB3.out.mono HB2.out.size)).mono HBS.out
     have hB8 := (hB9.grown HG4.out (Nat.le_trans HBS.out (Nat.le_trans HB2.out.size HB3.out.size)) (fun r e => by cases e; exact HGV.out.1))
     have hB7 := HB2.out.trans (HB3.out.mono HB2.out.size)
     exact ⟨hB8.grown hs (Nat.le_trans HBS.out (Nat.le_trans HB2.out.size (Nat.le_trans HB3.out.size HG4.out.size))) (fun r e => by cases e; exact HD3.out.d), fun q hq hD hV => ((hs.block q (Nat.lt_of_lt_of_le hq (Nat.le_trans hB7.size HG4.out.size)) (fun e => hD (Option.some.inj e))).trans (HG4.out.block q (Nat.lt_of_lt_of_le hq hB7.size) (fun e => hV (Option.some.inj e)))).trans (hB7.block q hq), .inr ⟨HOR.out, T, HLE.out, rfl, HB4.out.set 4 _, Ownv.grown HO4.out hs (fun hA => HDV.out), HD3.out.d⟩⟩
def idL (m : Int) (bits : List Int) : List Int := bits.map (idI m)
theorem ideal_ok (A : Option Addr) (n c : Nat) (bits : List Int) (m : Int) (w : World) (hr : Rd .u8 w A n c bits) (hv : Cr.ValidB bits = true) (h0 : ∀ x ∈ bits, 0 ≤ x) (hm : 0 ≤ m ∧ m ≤ 127) (hn : n ≤ 200000) :
 Calls Tryz.prog 14 #[.slice A n c, .int .i64 m] w fun e w' => ∃ R, e = .returned (.tuple #[.slice R n n, .int .i64 0]) ∧ Rd .i64 w' R n n (idL m bits) ∧ (R ≠ none → w.heap.size ≤ blk R) ∧ Below w.heap.size w w' := by
 obtain ⟨W0, hW0⟩ : ∃ W0, W0 = (w.alloc (.cells #[.slice A n c] 28)).alloc (.cells #[.int .i64 m] 3) := ⟨_, rfl⟩
 have hb0 : Below w.heap.size w W0 := by rw [hW0]; exact ((Below.refl _ w).alloc (Nat.le_refl _) _).alloc (by simp) _
 have xB : Blk W0 w.heap.size 28 [.slice A n c] := by rw [hW0]; exact (Blk.new w [.slice A n c] _ rfl).alloc _
 have xM : Blk W0 (w.heap.size + 1) 3 [.int .i64 m] := by rw [hW0]; exact Blk.new (w.alloc _) [.int .i64 m] 3 (by simp)
 have HR0 := Lib.hid (Rdv.below hr hb0)
 have HW0 := Lib.hid hW0
 have HXB := Lib.hid xB
 have HXM := Lib.hid xM
 have HB0 := Lib.hid hb0
 have HV := Lib.hid hv
 have HBT := Lib.hid (fun i (hi : i < n) => show gi bits i = 0 ∨ gi bits i = 1 from by
  have hl := Rd.len hr
  have hmem := gi_mem bits i (by omega)
  have ha := h0 _ hmem
  have hb := (List.all_eq_true.1 hv) _ hmem
  simp at hb
  omega)
 have HLN := Lib.hid (Rd.len hr)
 have d0 : decide (m ≥ 0) = true := by simp; omega
 have d1 : decide (m ≤ 127) = true := by simp; omega
 have HM := Lib.hid hm
 clear hb0 xB xM hr hv h0 hm
 go_enter Tryz.func14, Tryz.ntmps14
 go_wp2_with fail
 rw [← HW0.out]
 obtain ⟨BB, hBB⟩ : ∃ BB, BB = w.heap.size := ⟨_, rfl⟩
 obtain ⟨MB, hMB⟩ : ∃ MB, MB = w.heap.size + 1 := ⟨_, rfl⟩
 rw [← hMB] at HXM ⊢
 rw [← hBB] at HXB ⊢
 have HBB := Lib.hid hBB
 clear hBB hMB HW0 hW0
 have HS : Hid (W0.drew.cell? ⟨MB, 0, none⟩ = some (.int .i64 m) ∧ W0.drew.cell? ⟨BB, 0, none⟩ = some (.slice A n c)) := Lib.hid ⟨HXM.out.cell (j := 0) rfl, HXB.out.cell (j := 0) rfl⟩
 have HBI := Lib.hid (Cr.sbinary_any A n c bits W0.drew (Rdv.drew HR0.out))
 rw [if_pos HV.out] at HBI
 have HF1 := Lib.hid (first2_any (some ⟨W0.heap.size, 0, none⟩) 2 0 0 (W0.drew.alloc (.cells #[.int .i64 0, .int .i64 0] 24)) ((Ownv.lit (base := 0) W0.drew #[.int .i64 0, .int .i64 0] 24 rfl (Nat.zero_le _) (by show 2 ≤ maxLen; unfold maxLen; omega)).rd))
 rw [if_pos rfl] at HF1
 refine Q_start (fun W9 => W9.cell? ⟨MB, 0, none⟩ = some (.int .i64 m) ∧ W9.cell? ⟨BB, 0, none⟩ = some (.slice A n c)) 8 12 ?_
 refine Q_T 0 7 1 (.int .i64 m) [6, 5, 2, 1] rfl HS.out (.inl ⟨by rfl, fun W hS => by obtain ⟨s0, s1⟩ := hS; go_simp⟩) ?_
 simp only [z0, z1, z2]
 refine Q_W 1 8 3 (.bool true) rfl HS.out ?_
 simp only [z0, z1, z2]
 refine Q_W 2 9 7 (.bool true) rfl HS.out ?_
 simp only [z0, z1, z2]
 refine Q_T 3 10 15 (.int .i64 m) [6, 5, 4] rfl HS.out (.inl ⟨by rfl, fun W hS => by obtain ⟨s0, s1⟩ := hS; go_simp⟩) ?_
 simp only [z0, z1, z2]
 refine Q_W 4 11 31 (.bool true) rfl HS.out ?_
 simp only [z0, z1, z2]
 refine Q_W 5 12 63 (.bool true) rfl HS.out ?_
 simp only [z0, z1, z2]
 refine Q_T 7 14 191 (.slice A n c) [] rfl HS.out (.inl ⟨by rfl, fun W hS => by obtain ⟨s0, s1⟩ := hS; go_simp⟩) ?_
 simp only [z0, z1, z2]
 refine Q_1S 6 255 rfl (fun K hK => ?_)
 go_simp
 refine (sarg_any true _).mono ?_
 rintro e w1 ⟨rfl, rfl⟩
 refine hK _ _ HS.out ?_
 clear hK K
 refine Q_1 8 511 rfl (fun K hK => ?_)
 go_simp
 refine HBI.out.mono ?_
 rintro e w1 ⟨rfl, rfl⟩
 refine hK _ _ ?_
 clear hK K
 refine Q_1 9 1023 rfl (fun K hK => ?_)
 go_simp
 refine hK _ _ ?_
 clear hK K
 refine Q_1 10 2047 rfl (fun K hK => ?_)
 go_simp
 refine HF1.out.mono ?_
 rintro e w1 ⟨rfl, rfl⟩
 refine hK _ _ ?_
 clear hK K
 refine Q_1 11 4095 rfl (fun K hK => ?_)
 go_simp
 refine hK _ _ ?_
 clear hK K
 refine Q_end ?_
 have HB1 : Hid (Below W0.heap.size W0 (W0.alloc (.cells #[.int .i64 0, .int .i64 0] 24)).drew) := Lib.hid ((Below.refl _ W0).alloc (Nat.le_refl _) _).drew
 generalize (W0.alloc (.cells #[.int .i64 0, .int .i64 0] 24)).drew = W1 at *
 have HXB1 := Lib.hid (HXB.out.below HB1.out)
 have HXM1 := Lib.hid (HXM.out.below HB1.out)
 have HR1 := Lib.hid (Rdv.below HR0.out HB1.out)
 have cB := HXB1.out.cell (j := 0) (v := .slice A n c) rfl
 have HMP := Lib.hid (mapped_ok (.pointer (some ⟨MB, 0, none⟩)) (.pointer (some ⟨BB, 0, none⟩)) (fun j => idI m (gi bits j)) n W1 (by omega) (fun j hj wr hB => ideal1_any MB BB A n c bits m j wr (HXM1.out.below hB) (HXB1.out.below hB) (Rdv.below HR1.out hB) hj (HBT.out j hj) HM.out))
 have hmf : ∀ (fn : Fn) (first cap : Array Value) (w : World), (Instr.makeFunc fn first cap).run Tryz.prog w = .ok (.func fn first cap) w := fun _ _ _ _ => rfl
 clear d0 d1
 go_wp2_with fail
 refine HMP.out.mono ?_
 rintro e w3 ⟨R, rfl, hR, hRn, hB⟩
 have HR := Lib.hid hR
 have HRn := Lib.hid hRn
 have HB3 := Lib.hid hB
 clear hR hRn hB
 go_wp2
 go_ret2
 have hB9 := HB0.out.trans ((HB1.out.trans (HB3.out.mono HB1.out.size)).mono HB0.out.size)
 have hE : idL m bits = (List.range n).map (fun j => idI m (gi bits j)) := by
  rw [← HLN.out]
  refine ext_gi (by simp [idL]) fun i hi => ?_
  have hi2 : i < bits.length := by simpa [idL] using hi
  rw [gi_range _ hi2]
  unfold idL
  rw [gi_eq _ _ (by simpa using hi2), List.getElem_map, ← gi_eq _ _ hi2]
 exact ⟨R, rfl, by rw [hE]; exact HR.out, fun hA => Nat.le_trans HB0.out.size (Nat.le_trans HB1.out.size (HRn.out hA)), hB9⟩
end Go.Proofs.YtkdfefpnhaebfaaGreat
