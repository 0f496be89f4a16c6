/-
  Bundle of the texts Xi Xj Xk Xl Xm Xn. Conditions: none.
-/
import Derived.Test.YtpdalbckmfadbaaGreatBucbb
import Derived.Test.YtpdalbckmfadbaaGreatBucat
namespace Go.Proofs.YtpdalbckmfadbaaGreat
open Go.RowKit
set_option linter.unusedVariables false
attribute [local go_sem] Oper.semAt_some
theorem DmS.below {W W' : World} {base D k f : Nat} {lim : Int} {V : Option Addr} {vc : Nat} {vs : List Int} {cnt : Int} (h : DmS W base D k f lim V vc vs cnt) (hB : Below W.heap.size W W') : DmS W' base D k f lim V vc vs cnt := ⟨h.b.below hB, Ownv.below h.v hB, h.d⟩
theorem sel_pos (k f : Nat) (lim : Int) (st : Nat) (hl : 1 ≤ lim) (T j : Nat) (hj : j < (Cr.selL ((Cr.bufL k f).take (Cr.szB k lim)) st (Cr.szB k lim) T).length) : ∃ p : Nat, gi (Cr.selL ((Cr.bufL k f).take (Cr.szB k lim)) st (Cr.szB k lim) T) j = (p : Int) ∧ p < 3 * (k + 4) := by
  have hzb := Cr.szB_bd k hl
  have hlen : Cr.szB k lim ≤ ((Cr.bufL k f).take (Cr.szB k lim)).length := by
    rw [List.length_take, show (Cr.bufL k f).length = 3 * Cr.nB k from by unfold Cr.bufL; exact Cr.bufT_len _ _ _]
    omega
  have hm := gi_mem _ j hj
  obtain ⟨h0, h1⟩ := Cr.selL_mem hzb.1 hlen T _ hm
  have h2 := Cr.bufL_bd k f (Cr.szB k lim) _ h1
  exact ⟨(gi (Cr.selL ((Cr.bufL k f).take (Cr.szB k lim)) st (Cr.szB k lim) T) j).toNat, by omega, by omega⟩
/-- what Add gives -/
def AdP (base D k f : Nat) (lim : Int) (rv m : Nat) (V : Option Addr) (vc : Nat) (vs l : List Int) (cnt : Int) (W : World) (e : Ending) (w' : World) : Prop :=
  Below base W w' ∧ ((m ≠ 0 ∧ Cr.usC ((Cr.bufL k f).take (Cr.szB k lim)) = 0 ∧ e = .returned (.int .i64 10) ∧ DmS w' base D k f lim V vc vs cnt) ∨
    ((m = 0 ∨ Cr.usC ((Cr.bufL k f).take (Cr.szB k lim)) ≠ 0) ∧ ∃ T, (Cr.selL ((Cr.bufL k f).take (Cr.szB k lim)) (Cr.stS k (Cr.szB k lim) rv) (Cr.szB k lim) T).length = m ∧ e = .returned (.int .i64 0) ∧
      DmS w' base D k f lim V vc (cmbL (Cr.selL ((Cr.bufL k f).take (Cr.szB k lim)) (Cr.stS k (Cr.szB k lim) rv) (Cr.szB k lim) T) l vs m) (cnt + m)))
set_option maxRecDepth 100000 in
set_option maxHeartbeats 2000000 in
theorem add_any {base D k f : Nat} {lim : Int} {V : Option Addr} {vc : Nat} {vs : List Int} {cnt : Int} (rv : Nat) (A : Option Addr) (m c : Nat) (l : List Int) (W : World) (h : DmS W base D k f lim V vc vs cnt) (hl : Rd .i64 W A m c l) (hs : SoftB l = true) (hA : A ≠ none → blk A ≠ blk V) (hbs : base ≤ W.heap.size)
    (h1 : 40 ≤ k) (h2 : k ≤ 6144) (hf : f < k) (hlm : 1 ≤ lim) (hrv : rv ≤ 3) (hm : m ≤ 131072) (hc : 0 ≤ cnt ∧ cnt ≤ 1000000000) :
    Calls Tryz.prog 12 #[.pointer (some ⟨D, 0, none⟩), .int .i64 (rv : Int), .slice A m c] W (AdP base D k f lim rv m V vc vs l cnt W) := by
  have HPO := Lib.hid (fun W => Cr.positions_any k f rv m lim W h1 h2 hf hlm hrv hm)
  have HNO := Lib.hid (dnone_any h)
  have HSV := Lib.hid (svalid_any A m c l W hl)
  rw [hs] at HSV
  have HD := Lib.hid h
  have HL := Lib.hid hl
  have HAV := Lib.hid hA
  have hm2 : decide ((m : Int) > 131072) = false := by simp; omega
  have hm3 : ¬ (131072 : Int) < (m : Int) := by omega
  have HBS := Lib.hid hbs
  have HPB := Lib.hid (fun T j (hj : j < (Cr.selL ((Cr.bufL k f).take (Cr.szB k lim)) (Cr.stS k (Cr.szB k lim) rv) (Cr.szB k lim) T).length) => sel_pos k f lim (Cr.stS k (Cr.szB k lim) rv) hlm T j hj)
  clear h hl hs hA hbs
  go_enter Tryz.func12, Tryz.ntmps12
  by_cases hx : m ≠ 0 ∧ Cr.usC ((Cr.bufL k f).take (Cr.szB k lim)) = 0
  · have HX := Lib.hid hx
    clear hx
    go_wp2_with fail
    refine wp_scope_fwd 0 rfl ?_
    go_wp2_with fail
    refine HNO.out.mono ?_
    rintro e w1 ⟨rfl, rfl⟩
    go_wp2_with fail
    refine HSV.out.mono ?_
    rintro e W2 ⟨rfl, hB⟩
    have HB2 := Lib.hid hB
    have HD2 := Lib.hid (HD.out.below hB)
    have HS : Hid (W2.drew.cell? ⟨D, 0, none⟩ = some (.int .i64 (k : Int)) ∧ W2.drew.cell? ⟨D, 1, none⟩ = some (.int .i64 (f : Int)) ∧ W2.drew.cell? ⟨D, 2, none⟩ = some (.int .i64 lim)) := Lib.hid ⟨HD2.out.b.cell rfl, HD2.out.b.cell rfl, HD2.out.b.cell rfl⟩
    clear hB
    go_wp2_with fail
    refine Q_start (fun W9 => W9.cell? ⟨D, 0, none⟩ = some (.int .i64 (k : Int)) ∧ W9.cell? ⟨D, 1, none⟩ = some (.int .i64 (f : Int)) ∧ W9.cell? ⟨D, 2, none⟩ = some (.int .i64 lim)) 18 24 ?_
    refine Q_W 0 19 1 (.pointer (some ⟨D, 0, none⟩)) rfl HS.out ?_
    simp only [z0, z1, z2]
    refine Q_W 1 20 3 (.pointer (some ⟨D, 0, none⟩)) rfl HS.out ?_
    simp only [z0, z1, z2]
    refine Q_W 2 21 7 (.pointer (some ⟨D, 0, none⟩)) rfl HS.out ?_
    simp only [z0, z1, z2]
    refine Q_W 3 22 15 (.pointer (some ⟨D, 0, none⟩)) rfl HS.out ?_
    simp only [z0, z1, z2]
    refine Q_T 4 23 31 (.int .i64 (k : Int)) [] rfl HS.out (.inl ⟨by rfl, fun W hS => by obtain ⟨s0, s1, s2⟩ := hS; go_simp⟩) ?_
    simp only [z0, z1, z2]
    refine Q_W 5 24 63 (.pointer (some ⟨D, 0, none⟩)) rfl HS.out ?_
    simp only [z0, z1, z2]
    refine Q_W 6 25 127 (.pointer (some ⟨D, 0, none⟩)) rfl HS.out ?_
    simp only [z0, z1, z2]
    refine Q_W 7 26 255 (.pointer (some ⟨D, 0, none⟩)) rfl HS.out ?_
    simp only [z0, z1, z2]
    refine Q_W 8 27 511 (.pointer (some ⟨D, 1, none⟩)) rfl HS.out ?_
    simp only [z0, z1, z2]
    refine Q_T 9 28 1023 (.int .i64 (f : Int)) [] rfl HS.out (.inl ⟨by rfl, fun W hS => by obtain ⟨s0, s1, s2⟩ := hS; go_simp⟩) ?_
    simp only [z0, z1, z2]
    refine Q_W 10 29 2047 (.pointer (some ⟨D, 0, none⟩)) rfl HS.out ?_
    simp only [z0, z1, z2]
    refine Q_W 11 30 4095 (.pointer (some ⟨D, 0, none⟩)) rfl HS.out ?_
    simp only [z0, z1, z2]
    refine Q_W 12 31 8191 (.pointer (some ⟨D, 0, none⟩)) rfl HS.out ?_
    simp only [z0, z1, z2]
    refine Q_W 13 32 16383 (.pointer (some ⟨D, 2, none⟩)) rfl HS.out ?_
    simp only [z0, z1, z2]
    refine Q_T 14 33 32767 (.int .i64 lim) [] rfl HS.out (.inl ⟨by rfl, fun W hS => by obtain ⟨s0, s1, s2⟩ := hS; go_simp⟩) ?_
    simp only [z0, z1, z2]
    refine Q_W 15 34 65535 (.int .i64 (rv : Int)) rfl HS.out ?_
    simp only [z0, z1, z2]
    refine Q_W 16 35 131071 (.slice A m c) rfl HS.out ?_
    simp only [z0, z1, z2]
    refine Q_W 17 36 262143 (.int .i64 (m : Int)) rfl HS.out ?_
    simp only [z0, z1, z2]
    refine Q_1 18 524287 rfl (fun K hK => ?_)
    go_simp
    refine (HPO.out W2.drew).mono ?_
    rintro e w3 ⟨hB, hp⟩
    have HB3 : Hid (Below W2.heap.size W2 w3) := Lib.hid ((Below.refl _ W2).drew.trans hB)
    have HP3 := Lib.hid hp
    clear hB hp
    rcases HP3.out with ⟨g1, g2, rfl⟩ | ⟨g1, -⟩
    · refine hK _ _ ?_
      clear hK K g1 g2 HP3
      refine Q_1 19 1048575 rfl (fun K hK => ?_)
      go_simp
      refine hK _ _ ?_
      clear hK K
      refine Q_X 20 38 2097151 (.slice none 0 0) rfl ?_
      simp only [z0, z1, z2]
      refine Q_X 21 39 4194303 (.int .i64 10) rfl ?_
      simp only [z0, z1, z2]
      refine Q_1 22 8388607 rfl (fun K hK => ?_)
      go_simp
      refine hK _ _ ?_
      clear hK K
      refine Q_1 23 16777215 rfl (fun K hK => ?_)
      go_simp
      refine hK _ _ ?_
      clear hK K
      refine Q_end ?_
      go_wp2_with fail
      go_step3
      refine ⟨rfl, ?_⟩
      go_wp2
      simp only [Exit.jump]
      go_ret
      have hB9 := HB2.out.trans (HB3.out.mono HB2.out.size)
      exact ⟨hB9.mono HBS.out, .inl ⟨HX.out.1, HX.out.2, rfl, HD2.out.below HB3.out⟩⟩
    · exact absurd HX.out (by omega)
  · have HX := Lib.hid hx
    clear hx
    go_wp2_with fail
    go_step3
    go_wp2_with fail
    refine HNO.out.mono ?_
    rintro e w1 ⟨rfl, rfl⟩
    go_wp2_with fail
    refine HSV.out.mono ?_
    rintro e W2 ⟨rfl, hB⟩
    have HB2 := Lib.hid hB
    have HD2 := Lib.hid (HD.out.below hB)
    have HL2 := Lib.hid (Rdv.below HL.out hB)
    have HS : Hid (W2.drew.cell? ⟨D, 0, none⟩ = some (.int .i64 (k : Int)) ∧ W2.drew.cell? ⟨D, 1, none⟩ = some (.int .i64 (f : Int)) ∧ W2.drew.cell? ⟨D, 2, none⟩ = some (.int .i64 lim)) := Lib.hid ⟨HD2.out.b.cell rfl, HD2.out.b.cell rfl, HD2.out.b.cell rfl⟩
    clear hB
    go_wp2_with fail
    refine Q_start (fun W9 => W9.cell? ⟨D, 0, none⟩ = some (.int .i64 (k : Int)) ∧ W9.cell? ⟨D, 1, none⟩ = some (.int .i64 (f : Int)) ∧ W9.cell? ⟨D, 2, none⟩ = some (.int .i64 lim)) 18 24 ?_
    refine Q_W 0 19 1 (.pointer (some ⟨D, 0, none⟩)) rfl HS.out ?_
    simp only [z0, z1, z2]
    refine Q_W 1 20 3 (.pointer (some ⟨D, 0, none⟩)) rfl HS.out ?_
    simp only [z0, z1, z2]
    refine Q_W 2 21 7 (.pointer (some ⟨D, 0, none⟩)) rfl HS.out ?_
    simp only [z0, z1, z2]
    refine Q_W 3 22 15 (.pointer (some ⟨D, 0, none⟩)) rfl HS.out ?_
    simp only [z0, z1, z2]
    refine Q_T 4 23 31 (.int .i64 (k : Int)) [] rfl HS.out (.inl ⟨by rfl, fun W hS => by obtain ⟨s0, s1, s2⟩ := hS; go_simp⟩) ?_
    simp only [z0, z1, z2]
    refine Q_W 5 24 63 (.pointer (some ⟨D, 0, none⟩)) rfl HS.out ?_
    simp only [z0, z1, z2]
    refine Q_W 6 25 127 (.pointer (some ⟨D, 0, none⟩)) rfl HS.out ?_
    simp only [z0, z1, z2]
    refine Q_W 7 26 255 (.pointer (some ⟨D, 0, none⟩)) rfl HS.out ?_
    simp only [z0, z1, z2]
    refine Q_W 8 27 511 (.pointer (some ⟨D, 1, none⟩)) rfl HS.out ?_
    simp only [z0, z1, z2]
    refine Q_T 9 28 1023 (.int .i64 (f : Int)) [] rfl HS.out (.inl ⟨by rfl, fun W hS => by obtain ⟨s0, s1, s2⟩ := hS; go_simp⟩) ?_
    simp only [z0, z1, z2]
    refine Q_W 10 29 2047 (.pointer (some ⟨D, 0, none⟩)) rfl HS.out ?_
    simp only [z0, z1, z2]
    refine Q_W 11 30 4095 (.pointer (some ⟨D, 0, none⟩)) rfl HS.out ?_
    simp only [z0, z1, z2]
    refine Q_W 12 31 8191 (.pointer (some ⟨D, 0, none⟩)) rfl HS.out ?_
    simp only [z0, z1, z2]
    refine Q_W 13 32 16383 (.pointer (some ⟨D, 2, none⟩)) rfl HS.out ?_
    simp only [z0, z1, z2]
    refine Q_T 14 33 32767 (.int .i64 lim) [] rfl HS.out (.inl ⟨by rfl, fun W hS => by obtain ⟨s0, s1, s2⟩ := hS; go_simp⟩) ?_
    simp only [z0, z1, z2]
    refine Q_W 15 34 65535 (.int .i64 (rv : Int)) rfl HS.out ?_
    simp only [z0, z1, z2]
    refine Q_W 16 35 131071 (.slice A m c) rfl HS.out ?_
    simp only [z0, z1, z2]
    refine Q_W 17 36 262143 (.int .i64 (m : Int)) rfl HS.out ?_
    simp only [z0, z1, z2]
    refine Q_1 18 524287 rfl (fun K hK => ?_)
    go_simp
    refine (HPO.out W2.drew).mono ?_
    rintro e w3 ⟨hB, hp⟩
    have HB3 : Hid (Below W2.heap.size W2 w3) := Lib.hid ((Below.refl _ W2).drew.trans hB)
    have HP3 := Lib.hid hp
    clear hB hp
    rcases HP3.out with ⟨g1, g2, rfl⟩ | ⟨g1, Ap, cp, T, hlen, rfl, hO⟩
    · exact absurd ⟨g1, g2⟩ HX.out
    · have HO3 := Lib.hid hO
      have HLE := Lib.hid hlen
      have HOR := Lib.hid g1
      refine hK _ _ ?_
      clear hK K g1 HP3 hO hlen
      refine Q_1 19 1048575 rfl (fun K hK => ?_)
      go_simp
      refine hK _ _ ?_
      clear hK K
      refine Q_X 20 38 2097151 (.slice Ap m cp) rfl ?_
      simp only [z0, z1, z2]
      refine Q_X 21 39 4194303 (.int .i64 0) rfl ?_
      simp only [z0, z1, z2]
      refine Q_1 22 8388607 rfl (fun K hK => ?_)
      go_simp
      refine hK _ _ ?_
      clear hK K
      refine Q_1 23 16777215 rfl (fun K hK => ?_)
      go_simp
      refine hK _ _ ?_
      clear hK K
      refine Q_end ?_
      have hD3 := HD2.out.below HB3.out
      have hV := hD3.ne
      have hgeV := Ownv.blk_of HD2.out.v HD2.out.ne
      have hDV : some (blk V) ≠ some D := own_ne_blk hD3.v hD3.b (by decide) hV
      have HCB := Lib.hid (combined_any V (3 * (k + 4)) vc base vs Ap m cp _ A c l w3 hD3.v (Own.rd HO3.out) (Rdv.below HL2.out HB3.out) (fun hA e => by
          have h9 := (Ownv.blk_of HO3.out hA).1
          have h8 : W2.heap.size ≤ blk Ap := h9
          omega) HAV.out (fun j hj => HPB.out T j (by have := HLE.out; omega)) (by omega))
      have c43 := hD3.b.cell (j := 3) (v := .slice V (3 * (k + 4)) vc) rfl
      have HD3 := Lib.hid hD3
      have HDV := Lib.hid hDV
      have HGV := Lib.hid (And.intro (Ownv.blk_of HD2.out.v HD2.out.ne).1 hV)
      clear hD3 hV hgeV hDV
      go_wp2_with fail
      refine HCB.out.mono ?_
      rintro e w4 ⟨⟨v, rfl⟩, hO4, hG4⟩
      have hb4 := HD3.out.b.grown hG4 (fun e => HDV.out (by rw [e]))
      have c44 := hb4.cell (j := 4) (v := .int .i64 cnt) rfl
      have f44 := hb4.frozen 4
      have HB4 := Lib.hid hb4
      have HO4 := Lib.hid hO4
      have HG4 := Lib.hid hG4
      have q9 : IntKind.i64.wrap (cnt + (m : Int)) = cnt + (m : Int) := IntWalk.i64_in _ (by omega)
      clear c43 hb4 hO4 hG4
      go_wp2
      rw [Exit.noGoto_ret]
      go_ret
      have hs := grownBy_set w4 D 4 (.int .i64 (cnt + (m : Int)))
      have hB9 := (HB2.out.trans (HB3.out.mono HB2.out.size)).mono HBS.out
      have hB8 := (hB9.grown HG4.out (Nat.le_trans HBS.out (Nat.le_trans HB2.out.size HB3.out.size)) (fun r e => by cases e; exact HGV.out.1))
      exact ⟨hB8.grown hs (Nat.le_trans HBS.out (Nat.le_trans HB2.out.size (Nat.le_trans HB3.out.size HG4.out.size))) (fun r e => by cases e; exact HD3.out.d), .inr ⟨HOR.out, T, HLE.out, rfl, HB4.out.set 4 _, Ownv.grown HO4.out hs (fun hA => HDV.out), HD3.out.d⟩⟩
end Go.Proofs.YtpdalbckmfadbaaGreat

namespace Go.Proofs.YtpdalbckmfadbaaGreat
open Go.RowKit
set_option linter.unusedVariables false
attribute [local go_sem] Oper.semAt_some
def idL (m : Int) (bits : List Int) : List Int := bits.map (idI m)
set_option maxRecDepth 100000 in
set_option maxHeartbeats 1000000 in
theorem ideal_ok (A : Option Addr) (n c : Nat) (bits : List Int) (m : Int) (w : World) (hr : Rd .u8 w A n c bits) (hv : Cr.ValidB bits = true) (h0 : ∀ x ∈ bits, 0 ≤ x) (hm : 0 ≤ m ∧ m ≤ 127) (hn : n ≤ 200000) :
    Calls Tryz.prog 11 #[.slice A n c, .int .i64 m] w fun e w' => ∃ R, e = .returned (.tuple #[.slice R n n, .int .i64 0]) ∧ Rd .i64 w' R n n (idL m bits) ∧ (R ≠ none → w.heap.size ≤ blk R) ∧ Below w.heap.size w w' := by
  obtain ⟨W0, hW0⟩ : ∃ W0, W0 = (w.alloc (.cells #[.slice A n c] 22)).alloc (.cells #[.int .i64 m] 3) := ⟨_, rfl⟩
  have hb0 : Below w.heap.size w W0 := by rw [hW0]; exact ((Below.refl _ w).alloc (Nat.le_refl _) _).alloc (by simp) _
  have xB : Blk W0 w.heap.size 22 [.slice A n c] := by rw [hW0]; exact (Blk.new w [.slice A n c] _ rfl).alloc _
  have xM : Blk W0 (w.heap.size + 1) 3 [.int .i64 m] := by rw [hW0]; exact Blk.new (w.alloc _) [.int .i64 m] 3 (by simp)
  have HR0 := Lib.hid (Rdv.below hr hb0)
  have HW0 := Lib.hid hW0
  have HXB := Lib.hid xB
  have HXM := Lib.hid xM
  have HB0 := Lib.hid hb0
  have HV := Lib.hid hv
  have HBT := Lib.hid (fun i (hi : i < n) => show gi bits i = 0 ∨ gi bits i = 1 from by
    have hl := Rd.len hr
    have hmem := gi_mem bits i (by omega)
    have ha := h0 _ hmem
    have hb := (List.all_eq_true.1 hv) _ hmem
    simp at hb
    omega)
  have HLN := Lib.hid (Rd.len hr)
  have d0 : decide (m ≥ 0) = true := by simp; omega
  have d1 : decide (m ≤ 127) = true := by simp; omega
  have HM := Lib.hid hm
  clear hb0 xB xM hr hv h0 hm
  go_enter Tryz.func11, Tryz.ntmps11
  go_wp2_with fail
  rw [← HW0.out]
  obtain ⟨BB, hBB⟩ : ∃ BB, BB = w.heap.size := ⟨_, rfl⟩
  obtain ⟨MB, hMB⟩ : ∃ MB, MB = w.heap.size + 1 := ⟨_, rfl⟩
  rw [← hMB] at HXM ⊢
  rw [← hBB] at HXB ⊢
  have HBB := Lib.hid hBB
  clear hBB hMB HW0 hW0
  have HS : Hid (W0.drew.cell? ⟨MB, 0, none⟩ = some (.int .i64 m) ∧ W0.drew.cell? ⟨BB, 0, none⟩ = some (.slice A n c)) := Lib.hid ⟨HXM.out.cell (j := 0) rfl, HXB.out.cell (j := 0) rfl⟩
  have HBI := Lib.hid (Cr.sbinary_any A n c bits W0.drew (Rdv.drew HR0.out))
  rw [if_pos HV.out] at HBI
  have HF1 := Lib.hid (first2_any (some ⟨W0.heap.size, 0, none⟩) 2 0 0 (W0.drew.alloc (.cells #[.int .i64 0, .int .i64 0] 27)) ((Ownv.lit (base := 0) W0.drew #[.int .i64 0, .int .i64 0] 27 rfl (Nat.zero_le _) (by show 2 ≤ maxLen; unfold maxLen; omega)).rd))
  rw [if_pos rfl] at HF1
  refine Q_start (fun W9 => W9.cell? ⟨MB, 0, none⟩ = some (.int .i64 m) ∧ W9.cell? ⟨BB, 0, none⟩ = some (.slice A n c)) 8 12 ?_
  refine Q_T 0 7 1 (.int .i64 m) [6, 5, 2, 1] rfl HS.out (.inl ⟨by rfl, fun W hS => by obtain ⟨s0, s1⟩ := hS; go_simp⟩) ?_
  simp only [z0, z1, z2]
  refine Q_W 1 8 3 (.bool true) rfl HS.out ?_
  simp only [z0, z1, z2]
  refine Q_W 2 9 7 (.bool true) rfl HS.out ?_
  simp only [z0, z1, z2]
  refine Q_T 3 10 15 (.int .i64 m) [6, 5, 4] rfl HS.out (.inl ⟨by rfl, fun W hS => by obtain ⟨s0, s1⟩ := hS; go_simp⟩) ?_
  simp only [z0, z1, z2]
  refine Q_W 4 11 31 (.bool true) rfl HS.out ?_
  simp only [z0, z1, z2]
  refine Q_W 5 12 63 (.bool true) rfl HS.out ?_
  simp only [z0, z1, z2]
  refine Q_T 7 14 191 (.slice A n c) [] rfl HS.out (.inl ⟨by rfl, fun W hS => by obtain ⟨s0, s1⟩ := hS; go_simp⟩) ?_
  simp only [z0, z1, z2]
  refine Q_1S 6 255 rfl (fun K hK => ?_)
  go_simp
  refine (sarg_any true _).mono ?_
  rintro e w1 ⟨rfl, rfl⟩
  refine hK _ _ HS.out ?_
  clear hK K
  refine Q_1 8 511 rfl (fun K hK => ?_)
  go_simp
  refine HBI.out.mono ?_
  rintro e w1 ⟨rfl, rfl⟩
  refine hK _ _ ?_
  clear hK K
  refine Q_1 9 1023 rfl (fun K hK => ?_)
  go_simp
  refine hK _ _ ?_
  clear hK K
  refine Q_1 10 2047 rfl (fun K hK => ?_)
  go_simp
  refine HF1.out.mono ?_
  rintro e w1 ⟨rfl, rfl⟩
  refine hK _ _ ?_
  clear hK K
  refine Q_1 11 4095 rfl (fun K hK => ?_)
  go_simp
  refine hK _ _ ?_
  clear hK K
  refine Q_end ?_
  have HB1 : Hid (Below W0.heap.size W0 (W0.alloc (.cells #[.int .i64 0, .int .i64 0] 27)).drew) := Lib.hid ((Below.refl _ W0).alloc (Nat.le_refl _) _).drew
  generalize (W0.alloc (.cells #[.int .i64 0, .int .i64 0] 27)).drew = W1 at *
  have HXB1 := Lib.hid (HXB.out.below HB1.out)
  have HXM1 := Lib.hid (HXM.out.below HB1.out)
  have HR1 := Lib.hid (Rdv.below HR0.out HB1.out)
  have cB := HXB1.out.cell (j := 0) (v := .slice A n c) rfl
  have HMP := Lib.hid (mapped_ok (.pointer (some ⟨MB, 0, none⟩)) (.pointer (some ⟨BB, 0, none⟩)) (fun j => idI m (gi bits j)) n W1 (by omega) (fun j hj wr hB => ideal1_any MB BB A n c bits m j wr (HXM1.out.below hB) (HXB1.out.below hB) (Rdv.below HR1.out hB) hj (HBT.out j hj) HM.out))
  have hmf : ∀ (fn : Fn) (first cap : Array Value) (w : World), (Instr.makeFunc fn first cap).run Tryz.prog w = .ok (.func fn first cap) w := fun _ _ _ _ => rfl
  clear d0 d1
  go_wp2_with fail
  refine HMP.out.mono ?_
  rintro e w3 ⟨R, rfl, hR, hRn, hB⟩
  have HR := Lib.hid hR
  have HRn := Lib.hid hRn
  have HB3 := Lib.hid hB
  clear hR hRn hB
  go_wp2
  go_ret2
  have hB9 := HB0.out.trans ((HB1.out.trans (HB3.out.mono HB1.out.size)).mono HB0.out.size)
  have hE : idL m bits = (List.range n).map (fun j => idI m (gi bits j)) := by
    rw [← HLN.out]
    refine ext_gi (by simp [idL]) fun i hi => ?_
    have hi2 : i < bits.length := by simpa [idL] using hi
    rw [gi_range _ hi2]
    unfold idL
    rw [gi_eq _ _ (by simpa using hi2), List.getElem_map, ← gi_eq _ _ hi2]
  exact ⟨R, rfl, by rw [hE]; exact HR.out, fun hA => Nat.le_trans HB0.out.size (Nat.le_trans HB1.out.size (HRn.out hA)), hB9⟩
end Go.Proofs.YtpdalbckmfadbaaGreat

namespace Go.Proofs.YtpdalbckmfadbaaGreat
open Go.RowKit
set_option linter.unusedVariables false
attribute [local go_sem] Oper.semAt_some
/-- the sign of a value -/
def sgI (v : Int) : Int := if v < 0 then 1 else 0
/-- how many signs are wrong, how many values are unknown, of the first j -/
def wrC (l bits : List Int) : Nat → Nat
  | 0 => 0
  | j + 1 => wrC l bits j + (if gi l j ≠ 0 ∧ sgI (gi l j) ≠ gi bits j then 1 else 0)
def unC (l : List Int) : Nat → Nat
  | 0 => 0
  | j + 1 => unC l j + (if gi l j = 0 then 1 else 0)
theorem wrC_le (l bits : List Int) : ∀ j, wrC l bits j ≤ j
  | 0 => Nat.le_refl _
  | j + 1 => by have := wrC_le l bits j; simp only [wrC]; split <;> omega
theorem unC_le (l : List Int) : ∀ j, unC l j ≤ j
  | 0 => Nat.le_refl _
  | j + 1 => by have := unC_le l j; simp only [unC]; split <;> omega
def CmI (w : World) (n : Nat) (l bits : List Int) (a b i : Value) (wr : World) : Prop := ∃ j : Nat, j ≤ n ∧ i = .int .i64 (j : Int) ∧ a = .int .i64 (wrC l bits j : Int) ∧ b = .int .i64 (unC l j : Int) ∧ Below w.heap.size w wr
set_option maxRecDepth 100000 in
set_option maxHeartbeats 1000000 in
theorem compare_ok (A : Option Addr) (n c : Nat) (l : List Int) (B : Option Addr) (d : Nat) (bits : List Int) (w : World) (hl : Rd .i64 w A n c l) (hb : Rd .u8 w B n d bits) (hs : SoftB l = true) (hv : Cr.ValidB bits = true) (hn : n ≤ 200000) :
    Calls Tryz.prog 13 #[.slice A n c, .slice B n d] w fun e w' => e = .returned (.tuple #[.int .i64 (wrC l bits n : Int), .int .i64 (unC l n : Int), .int .i64 0]) ∧ Below w.heap.size w w' := by
  have HSV := Lib.hid (svalid_any A n c l w hl)
  rw [hs] at HSV
  have HL := Lib.hid hl
  have HB := Lib.hid hb
  have HV := Lib.hid hv
  have qn : ((n : Int) == (n : Int)) = true := by simp
  clear hl hb hs hv
  go_enter Tryz.func13, Tryz.ntmps13
  go_wp2_with fail
  refine HSV.out.mono ?_
  rintro e w1 ⟨rfl, hB⟩
  have HB1 := Lib.hid hB
  have HBI := Lib.hid (Cr.sbinary_any B n d bits w1 (Rdv.below HB.out hB))
  rw [if_pos HV.out] at HBI
  have HF1 := Lib.hid (first2_any (some ⟨w1.heap.size, 0, none⟩) 2 0 0 (w1.alloc (.cells #[.int .i64 0, .int .i64 0] 27)) ((Ownv.lit (base := 0) w1 #[.int .i64 0, .int .i64 0] 27 rfl (Nat.zero_le _) (by show 2 ≤ maxLen; unfold maxLen; omega)).rd))
  rw [if_pos rfl] at HF1
  have hq := (Below.refl w1.heap.size w1).alloc (Nat.le_refl _) (.cells #[.int .i64 0, .int .i64 0] 27)
  have HB2 := Lib.hid (HB1.out.trans (hq.mono HB1.out.size))
  clear hB hq
  go_wp2_with (first
    | (go_at_call 38; refine (sarg_any true _).mono ?_; rintro e wx ⟨rfl, rfl⟩)
    | (go_at_call 39; refine HBI.out.mono ?_; rintro e wx ⟨rfl, rfl⟩)
    | (go_at_call 37; refine HF1.out.mono ?_; rintro e wx ⟨rfl, rfl⟩))
  generalize w1.alloc (.cells #[.int .i64 0, .int .i64 0] 27) = w2 at *
  clear qn HF1 HBI HSV
  go_loopw [4, 5, 28] (fun a b i wr => CmI w n l bits a b i wr) (fun _ _ i _ => n - (intOf i).toNat)
  case atStart => exact ⟨0, Nat.zero_le _, rfl, rfl, rfl, HB2.out⟩
  case round =>
    obtain ⟨j, hj, rfl, rfl, rfl, hB⟩ := hrel
    have HBr := Lib.hid hB
    have hw1 := wrC_le l bits j
    have hu1 := unC_le l j
    by_cases hlt : j < n
    · have hrl := Rdv.below HL.out hB
      have hrb := Rdv.below HB.out hB
      have cl := Rd.cell hrl hlt
      have il := fun W => Rdv.ix hrl el22 hlt .i64 W
      have cb := Rd.cell hrb hlt
      have ib := fun W => Rdv.ix hrb el26 hlt .i64 W
      have HW := Lib.hid (show wrC l bits (j + 1) = wrC l bits j + (if gi l j ≠ 0 ∧ sgI (gi l j) ≠ gi bits j then 1 else 0) from rfl)
      have HU := Lib.hid (show unC l (j + 1) = unC l j + (if gi l j = 0 then 1 else 0) from rfl)
      generalize gi l j = v at *
      generalize gi bits j = x at *
      generalize wrC l bits j = a at *
      generalize unC l j = b at *
      clear hB hrl hrb
      by_cases hv0 : v = 0
      · have q0 : (v == 0) = true := by simp [hv0]
        have e1 : (if v ≠ 0 ∧ sgI v ≠ x then 1 else 0 : Nat) = 0 := by rw [if_neg (fun h => h.1 hv0)]
        have e2 : (if v = 0 then 1 else 0 : Nat) = 1 := by rw [if_pos hv0]
        rw [e1] at HW
        rw [e2] at HU
        clear e1 e2 hv0
        go_wp2
        go_roundw
        case rel => exact ⟨j + 1, by omega, by go_num, by rw [HW.out]; rfl, by rw [HU.out]; push_cast; rfl, HBr.out⟩
        case measure => simp [intOf]; omega
      · have q0 : (v == 0) = false := by simp [hv0]
        have e2 : (if v = 0 then 1 else 0 : Nat) = 0 := by rw [if_neg hv0]
        rw [e2] at HU
        have HSG := Lib.hid (fun W => ssign_any v W)
        rw [show (if v < 0 then 1 else 0 : Int) = sgI v from rfl] at HSG
        by_cases hx : sgI v = x
        · have e1 : (if v ≠ 0 ∧ sgI v ≠ x then 1 else 0 : Nat) = 0 := by rw [if_neg (fun h => h.2 hx)]
          rw [e1] at HW
          have q1 : (sgI v != x) = false := bne_f hx
          clear e1 e2 hv0 hx
          generalize sgI v = y at *
          go_wp2_with fail
          go_quiet (first | (go_at_call 47; refine (HSG.out _).mono ?_; rintro e wx ⟨rfl, rfl⟩; exact ⟨rfl, _, rfl⟩))
          go_wp2
          go_roundw
          case rel => exact ⟨j + 1, by omega, by go_num, by rw [HW.out]; rfl, by rw [HU.out]; rfl, HBr.out.trans (Qt.below ⟨_, rfl⟩ _)⟩
          case measure => simp [intOf]; omega
        · have e1 : (if v ≠ 0 ∧ sgI v ≠ x then 1 else 0 : Nat) = 1 := by rw [if_pos ⟨hv0, hx⟩]
          rw [e1] at HW
          have q1 : (sgI v != x) = true := bne_t hx
          clear e1 e2 hv0 hx
          generalize sgI v = y at *
          go_wp2_with fail
          go_quiet (first | (go_at_call 47; refine (HSG.out _).mono ?_; rintro e wx ⟨rfl, rfl⟩; exact ⟨rfl, _, rfl⟩))
          go_wp2
          go_roundw
          case rel => exact ⟨j + 1, by omega, by go_num, by rw [HW.out]; push_cast; rfl, by rw [HU.out]; rfl, HBr.out.trans (Qt.below ⟨_, rfl⟩ _)⟩
          case measure => simp [intOf]; omega
    · obtain rfl : j = n := by omega
      clear hB
      go_wp2
      go_ret3
      exact ⟨rfl, HBr.out⟩
end Go.Proofs.YtpdalbckmfadbaaGreat

namespace Go.Proofs.YtpdalbckmfadbaaGreat
open Go.RowKit
set_option linter.unusedVariables false
theorem gi_ibs (l : List Bool) (q : Nat) (h : q < l.length) : gi (l.map ib) q = (bq (Tu.gB l q) : Int) := by
  unfold gi Tu.gB
  rw [List.getD_eq_getElem?_getD, List.getD_eq_getElem?_getD, List.getElem?_map, List.getElem?_eq_getElem h]
  show ib l[q] = (bq l[q] : Int)
  cases l[q] <;> rfl
theorem wr_ok {ys : List Int} {K most : Int} {k r : Nat} (hk : k = Tu.szK r) (hl : ys.length = 3 * (k + 4)) (hs : ∀ q, q < 3 * (k + 4) → -127 ≤ gi ys q ∧ gi ys q ≤ 127) (hK : 0 ≤ K ∧ K ≤ 4) (hm : 1 ≤ most ∧ most ≤ 64) : wrE ys K most = 0 ∧ kOf ys = k := by
  have hko : kOf ys = k := by unfold kOf; omega
  refine ⟨?_, hko⟩
  have hsb : SoftB ys = true := all_gi.2 fun j hj => by simpa using hs j (by omega)
  have hv : Tu.validK ((ys.length : Int) / 3 - 4) = true := by
    rw [show (ys.length : Int) / 3 - 4 = ((k : Nat) : Int) by omega, hk]; exact Tu.szK_valid r
  unfold wrE
  rw [if_neg ?_, if_pos hsb]
  rintro (q | q | q | q | q | q)
  · omega
  · rw [hv] at q; cases q
  all_goals omega
/-- right signs, or unknown -/
def RtS (vs W : List Int) (N : Nat) : Prop := ∀ q, q < N → (gi W q = 0 ∨ gi W q = 1) ∧ 0 ≤ gi vs q * (1 - 2 * gi W q) ∧ -127 ≤ gi vs q ∧ gi vs q ≤ 127
theorem add_rt {a m b : Int} (hb : b = 0 ∨ b = 1) (ha : 0 ≤ a * (1 - 2 * b) ∧ -127 ≤ a ∧ a ≤ 127) (hm : 1 ≤ m ∧ m ≤ 127) : 0 ≤ addI a (idI m b) * (1 - 2 * b) ∧ -127 ≤ addI a (idI m b) ∧ addI a (idI m b) ≤ 127 := by
  refine ⟨?_, clI_bd _⟩
  unfold addI
  rcases hb with rfl | rfl
  · rw [show idI m 0 = m by unfold idI; omega, clI_in ha.2, clI_in (show -127 ≤ m ∧ m ≤ 127 by omega)]
    unfold clI
    split <;> (try split) <;> omega
  · rw [show idI m 1 = -m by unfold idI; omega, clI_in ha.2, clI_in (show -127 ≤ -m ∧ -m ≤ 127 by omega)]
    unfold clI
    split <;> (try split) <;> omega
theorem cmb_rt {ps l vs W : List Int} {N m : Nat} {mg : Int} (hl : vs.length = N) (hv : RtS vs W N) (hm : 1 ≤ mg ∧ mg ≤ 127) (hp : ∀ j, j < m → ∃ p : Nat, gi ps j = (p : Int) ∧ p < N) (hx : ∀ j, j < m → gi l j = idI mg (gi W (gi ps j).toNat)) : ∀ j, j ≤ m → RtS (cmbL ps l vs j) W N
  | 0, _ => hv
  | j + 1, h => by
    have ih := cmb_rt hl hv hm hp hx j (by omega)
    obtain ⟨p, e, hpn⟩ := hp j (by omega)
    have h2 := hx j (by omega)
    rw [e, Int.toNat_natCast] at h2
    intro q hq
    have hE : gi (cmbL ps l vs (j + 1)) q = if p = q then addI (gi (cmbL ps l vs j) p) (idI mg (gi W p)) else gi (cmbL ps l vs j) q := by
      show gi (List.set _ _ _) q = _
      rw [e, Int.toNat_natCast, h2, gi_set' _ _ _ _ (by rw [cmbL_len, hl]; exact hq)]
    rw [hE]
    split
    · rename_i hpq
      subst hpq
      exact ⟨(ih p hpn).1, add_rt (ih p hpn).1 (ih p hpn).2 hm⟩
    · exact ih q hq
theorem wrC_zero {vs W : List Int} {N : Nat} (h : RtS vs W N) : ∀ j, j ≤ N → wrC vs W j = 0
  | 0, _ => rfl
  | j + 1, hj => by
    simp only [wrC]
    rw [wrC_zero h j (by omega), if_neg]
    rintro ⟨h1, h2⟩
    obtain ⟨a, b, -⟩ := h j (by omega)
    apply h2
    unfold sgI
    rcases a with a | a <;> rw [a] at b ⊢
    · rw [if_neg (by omega)]
    · rw [if_pos (by omega)]
theorem unC_zero {vs : List Int} : ∀ {N : Nat}, unC vs N = 0 → ∀ q, q < N → gi vs q ≠ 0
  | 0, _, q, hq => by omega
  | N + 1, h, q, hq => by
    simp only [unC] at h
    by_cases h0 : gi vs N = 0
    · rw [if_pos h0] at h; omega
    · by_cases e : q = N
      · rw [e]; exact h0
      · exact unC_zero (N := N) (by omega) q (by omega)
theorem sgn_of {vs : List Int} {x : List Bool} {k : Nat} (hx : x.length = k) (hv : RtS vs ((Tu.wrd x).map ib) (3 * (k + 4))) (hu : unC vs (3 * (k + 4)) = 0) : Sgn vs k x (fun q => gi vs q * (1 - 2 * (bq (Tu.gB (Tu.wrd x) q) : Int))) := fun q hq => by
  obtain ⟨h1, h2, h3⟩ := hv q hq
  have h4 := unC_zero hu q hq
  rw [gi_ibs _ _ (by rw [Tu.wrd_len, hx]; exact hq)] at h1 h2
  dsimp only
  generalize (bq (Tu.gB (Tu.wrd x) q) : Int) = b at *
  rcases h1 with rfl | rfl
  · refine ⟨by omega, by omega, by omega⟩
  · refine ⟨by omega, by omega, by omega⟩
theorem comb_it {vs : List Int} {x : List Bool} {k r : Nat} {K : Int} (hk : k = Tu.szK r) (hx : x.length = k) (hl : vs.length = 3 * (k + 4)) (hv : RtS vs ((Tu.wrd x).map ib) (3 * (k + 4))) (hu : unC vs (3 * (k + 4)) = 0) (hK : 1 ≤ K ∧ K ≤ 4) (hc : Cr.chkErr K (x.map ib) = 0) : itE vs K 4 = 0 ∧ itD vs K 4 = x.map ib := by
  have hS := sgn_of hx hv hu
  obtain ⟨hE, hko⟩ := wr_ok (K := K) (most := 4) hk hl (fun q hq => (hv q hq).2.2) (by omega) (by omega)
  obtain ⟨d0, -⟩ := clean_two hk hx hS
  have hf : fdN vs K ((4 : Nat) : Int) = some 0 := fd_of hko (by omega) (by unfold okN; rw [if_neg (by omega), d0, hc]; rfl) (fun q hq => by omega)
  obtain ⟨i1, i2, i3⟩ := it_of hko hE hf
  exact ⟨i1, i3.trans d0⟩
/-- one transmission -/
theorem send_rt {ps vs W : List Int} {N m : Nat} {mg : Int} (hl : vs.length = N) (hv : RtS vs W N) (hm : 1 ≤ mg ∧ mg ≤ 127) (hp : ∀ j, j < m → ∃ p : Nat, gi ps j = (p : Int) ∧ p < N) (hpl : ps.length = m) : RtS (cmbL ps (idL mg (ps.map fun p => gi W p.toNat)) vs m) W N :=
  cmb_rt hl hv hm hp (fun j hj => by
    have h1 : j < ps.length := by omega
    rw [gi_eq (idL mg _) j (by simp [idL]; omega), gi_eq ps j h1]
    simp [idL]) m (Nat.le_refl m)
theorem rts_soft {vs W : List Int} {N : Nat} (h : RtS vs W N) (hl : vs.length = N) : SoftB vs = true := all_gi.2 fun j hj => by simpa using (h j (by omega)).2.2
theorem rts_fresh {W : List Int} {k : Nat} (hw : ∀ x ∈ W, x = 0 ∨ x = 1) (hl : W.length = 3 * (k + 4)) : RtS (frL k 0) W (3 * (k + 4)) := fun q hq => by
  have h0 : gi (frL k 0) q = 0 := by
    unfold frL
    rw [gi_range _ hq]
    unfold frI
    rw [if_neg (by omega)]
  rw [h0]
  exact ⟨hw _ (by rw [gi_eq W q (by omega)]; exact List.getElem_mem _), by omega⟩
theorem idL_soft {mg : Int} {W : List Int} (hm : 1 ≤ mg ∧ mg ≤ 127) (hw : ∀ x ∈ W, x = 0 ∨ x = 1) : SoftB (idL mg W) = true := all_gi.2 fun j hj => by
  have hj2 : j < W.length := by simpa [idL] using hj
  have h1 : gi (idL mg W) j = idI mg (gi W j) := by rw [gi_eq _ _ hj, gi_eq _ _ hj2]; simp [idL]
  rw [h1]
  have h2 := hw _ (List.getElem_mem hj2)
  rw [← gi_eq _ _ hj2] at h2
  unfold idI
  rcases h2 with h2 | h2 <;> rw [h2] <;> simp <;> omega
end Go.Proofs.YtpdalbckmfadbaaGreat

namespace Go.Proofs.YtpdalbckmfadbaaGreat
open Go.RowKit
set_option linter.unusedVariables false
attribute [local go_sem] Oper.semAt_some
theorem bit_nn {xs : List Int} (h : Cr.Bit xs) : ∀ x ∈ xs, 0 ≤ x := fun x hx => by rcases h x hx with h | h <;> omega
theorem bit_vb {xs : List Int} (h : Cr.Bit xs) : ValidB xs = true := by
  unfold ValidB
  rw [List.all_eq_true]
  intro x hx
  rcases h x hx with h | h <;> rw [h] <;> rfl
theorem Tu_toB_len (xs : List Int) : (Tu.toB xs).length = xs.length := by unfold Tu.toB; rw [List.length_map]
theorem bit_ib {xs : List Int} (h : Cr.Bit xs) : (Tu.toB xs).map ib = xs := Tu.toB_ib xs (bit_nn h) (bit_vb h)
theorem toB_of (x : List Bool) : Tu.toB (x.map ib) = x := by
  unfold Tu.toB
  rw [List.map_map]
  have h : ∀ b : Bool, ((fun v => decide (v = 1)) ∘ ib) b = id b := fun b => by cases b <;> rfl
  rw [funext h, List.map_id]
theorem word_enc {xs : List Int} {k r : Nat} (hk : k = Tu.szK r) (h : Cr.Bit xs) (hl : xs.length = k) : Tu.encE xs = 0 ∧ Tu.encW xs = Tu.wordI (Tu.toB xs) := by
  have hv : Tu.validK (xs.length : Int) = true := by rw [hl, hk]; exact Tu.szK_valid r
  have hb := bit_vb h
  unfold Tu.encE Tu.encW
  rw [if_pos hv, if_pos hv]
  exact ⟨if_pos hb, if_pos hb⟩
theorem u8_one_all : ∀ n : Fin 256, bits .and .u8 ((n.1 : Nat) : Int) 1 = ((n.1 : Nat) : Int) % 2 := by decide +kernel
theorem u8_one {y : Int} (h : 0 ≤ y ∧ y < 256) : bits .and .u8 y 1 = y % 2 := by
  obtain ⟨n, rfl⟩ := Int.eq_ofNat_of_zero_le h.1
  exact u8_one_all ⟨n, by omega⟩
def BkI (w : World) (s : Nat) (Am : Option Addr) (i : Value) (wr : World) : Prop := ∃ (j : Nat) (cur : List Int), j ≤ s ∧ i = .int .i64 (j : Int) ∧ Own .u8 5 wr w.heap.size Am s s cur ∧ Cr.Bit cur ∧ Below w.heap.size w wr
/-- what block gives -/
def BkP (k : Nat) (kind : Int) (w : World) (e : Ending) (w' : World) : Prop :=
  ∃ (x : List Bool) (R : Option Addr) (rc : Nat), e = .returned (.tuple #[.slice R k rc, .bool true]) ∧ x.length = k ∧ Rd .u8 w' R k rc (x.map ib) ∧ Cr.chkErr kind (x.map ib) = 0 ∧ Below w.heap.size w w'
set_option maxRecDepth 100000 in
set_option maxHeartbeats 1000000 in
theorem block_any (A : Option Addr) (n c : Nat) (bs : List Int) (u kind : Int) (w : World) (hx : Rd .u8 w A n c bs) (hm : ∀ x ∈ bs, 0 ≤ x ∧ x < 256) (hn : n ≤ 100000) (hu : 0 ≤ u ∧ u < 256) (hkd : 1 ≤ kind ∧ kind ≤ 4) (r : Nat) (hr : u % 12 = (r : Int)) (k : Nat) (hk : k = 40 + 8 * r) :
    Calls Tryz.prog 7 #[.slice A n c, .int .u8 u, .int .i64 kind] w (BkP k kind w) := by
  have hlx := Rd.len hx
  have HX := Lib.hid hx
  have HMS := Lib.hid (fun j (hj : j < n) => hm (gi bs j) (by rw [gi_eq bs j (by omega)]; exact List.getElem_mem _))
  have hr12 : r < 12 := by omega
  have hkb : 40 ≤ k ∧ k ≤ 128 := by omega
  have a1 : u.tmod 12 = (r : Int) := by rw [Int.tmod_eq_emod_of_nonneg (by omega), hr]
  have a2 : 40 + 8 * (r : Int) = (k : Int) := by omega
  have a4 : IntKind.i64.wrap (r : Int) = (r : Int) := IntWalk.i64_in _ (by omega)
  have a5 : IntKind.i64.wrap (k : Int) = (k : Int) := IntWalk.i64_in _ (by omega)
  have a7 : IntKind.i64.wrap u = u := IntWalk.i64_in _ (by omega)
  have a8 : IntKind.i64.wrap (8 * (r : Int)) = 8 * (r : Int) := IntWalk.i64_in _ (by omega)
  clear hx hm hlx hk hu
  have hsl := Cr.sLen_cases kind
  have hsn : Cr.sLen kind ≠ 0 := by unfold Cr.sLen; repeat (split <;> try omega)
  obtain ⟨l, hl⟩ : ∃ l, l = Cr.sLen kind := ⟨_, rfl⟩
  have HLN := Lib.hid (Cr.len_any kind w)
  rw [← hl] at HLN hsl hsn
  obtain ⟨s, hs⟩ : ∃ s, s = k - l := ⟨_, rfl⟩
  have HS0 : Hid (Cr.sLen kind ≠ 0) := Lib.hid (by rw [← hl]; exact hsn)
  have HKS : Hid (s + Cr.sLen kind = k) := Lib.hid (by rw [← hl]; omega)
  have b1 : (k : Int) - (l : Int) = (s : Int) := by omega
  have hsb : s ≤ 128 := by omega
  have hsb1 : 1 ≤ s := by omega
  have b2 : IntKind.i64.wrap (s : Int) = (s : Int) := IntWalk.i64_in _ (by omega)
  clear hl hs hsl hsn hkd
  go_enter Tryz.func7, Tryz.ntmps7
  go_wp2_with fail
  refine HLN.out.mono ?_
  rintro e w2 ⟨rfl, hB0⟩
  go_wp2_with (at_make; refine list_of rfl fun K hK => wp_mk (n := s) _ _ 22 rfl el26 rfl rfl (by omega) (by unfold maxLen; omega) ?_
               intro Am w3 hO3 hB3 hA
               have HO3 := Lib.hid (Ownv.mono hO3 hB0.size)
               have HB3 := Lib.hid (hB0.trans (hB3.mono hB0.size))
               clear hO3 hB3 hA hB0
               refine hK _ _ ?_
               clear hK K)
  go_loopw [10] (fun i wr => BkI w s Am i wr) (fun i _ => s - (intOf i).toNat)
  case atStart => exact ⟨0, List.replicate s 0, Nat.zero_le _, rfl, by have := HO3.out; unfold Own; simpa using this, fun x hx => .inl (List.eq_of_mem_replicate hx), HB3.out⟩
  case round =>
    obtain ⟨j, cur, hj, rfl, hO, hbit, hB⟩ := hrel
    have HB := Lib.hid hB
    have HC := Lib.hid hbit
    by_cases hgo : j < s ∧ 0 < n
    · obtain ⟨hlt, hn0⟩ := hgo
      have hcu := Rd.cell (Own.rd hO) hlt
      have hfu := Ownv.frozen hO (by omega) j
      have hiu := fun W => Rdv.ix (Own.rd hO) el26 hlt .i64 W
      have hxr := Rdv.below HX.out (hB)
      have HST := Lib.hid (fun V => Own.set_ hO hlt V)
      have hbA := (Ownv.blk_ge hO (by omega)).1
      have HB2 := Lib.hid (fun V => hB.grown (Own.set_ hO hlt V).2 hB.size (fun k e => by cases e; exact hbA))
      obtain ⟨p, hp⟩ : ∃ p, p = j % n := ⟨_, rfl⟩
      have hpm : p < n := by rw [hp]; exact Nat.mod_lt _ (by omega)
      have hcy := Rd.cell hxr hpm
      have hiy := fun W => Rdv.ix hxr el26 hpm .i64 W
      have hyb := HMS.out p hpm
      obtain ⟨y, hye⟩ : ∃ y, y = gi bs p := ⟨_, rfl⟩
      rw [← hye] at hcy hyb
      have hrm : (j : Int).tmod (n : Int) = (p : Int) := by rw [Int.tmod_eq_emod_of_nonneg (by omega), hp]; rfl
      have hre : (j : Int) % (n : Int) = (p : Int) := by rw [hp]; rfl
      obtain ⟨b, hb⟩ : ∃ b, b = y % 2 := ⟨_, rfl⟩
      have hb01 : b = 0 ∨ b = 1 := by omega
      have ht1 : bits .and .u8 y 1 = b := by rw [u8_one hyb, hb]
      have hw2 : IntKind.u8.wrap b = b := by rcases hb01 with h | h <;> rw [h] <;> rfl
      have hw4 : IntKind.i64.wrap (p : Int) = (p : Int) := IntWalk.i64_in _ (by omega)
      have hz0 : ¬ n = 0 := by omega
      have HBI := Lib.hid hb01
      clear hO hB hbit hxr hye hbA hp hb hb01
      go_wp2
      go_roundw
      case rel => exact ⟨j + 1, cur.set j _, by omega, by go_num, (HST.out _).1, fun x hx => by
        rcases List.mem_or_eq_of_mem_set hx with h | h
        · exact HC.out x h
        · rw [h]; exact HBI.out, HB2.out _⟩
      case measure => simp [intOf]; omega
    · have hcl := Rd.len (Own.rd hO)
      have hs0 : Cr.sLen kind ≠ 0 := HS0.out
      have hvb : Cr.ValidB cur = true := Cr.bit_valid HC.out
      have CA := Lib.hid (Cr.attach_any kind Am s s cur wr (Own.rd hO) (by omega))
      rw [show Cr.cErr kind cur = 0 by unfold Cr.cErr; rw [if_neg hs0, if_pos hvb], show Cr.aRes kind cur = cur ++ Cr.crcSum kind cur by unfold Cr.aRes; rw [if_neg hs0, if_pos hvb]] at CA
      have HY := Lib.hid (Cr.bit_app HC.out (Cr.bit_sum hs0 HC.out))
      have HL : Hid ((cur ++ Cr.crcSum kind cur).length = k) := Lib.hid (by rw [List.length_append, Cr.crcSum_len, hcl]; exact HKS.out)
      have HCK := Lib.hid (Cr.back hs0 HC.out).1
      generalize cur ++ Cr.crcSum kind cur = ys at *
      clear hO hcl hvb hs0 hB hbit
      have hgo2 : s ≤ j ∨ (j < s ∧ n = 0) := by omega
      clear hgo
      rcases hgo2 with hge | ⟨hlt, hz⟩
      case' inl => clear hj
      case' inr => subst hz
      all_goals
        go_wp2_with fail
        refine CA.out.mono ?_
        rintro e w5 ⟨A5, n5, c5, rfl, hO5, hB5⟩
        obtain rfl : n5 = k := by rw [← Rd.len (Own.rd hO5), HL.out]
        have HR := Lib.hid (Own.rd hO5)
        have HB5 := Lib.hid (HB.out.trans (hB5.mono HB.out.size))
        clear hO5 hB5
        go_wp2
        go_ret2
        exact ⟨Tu.toB ys, A5, c5, rfl, (Tu_toB_len _).trans HL.out, by rw [bit_ib HY.out]; exact HR.out, by rw [bit_ib HY.out]; exact HCK.out, HB5.out⟩
end Go.Proofs.YtpdalbckmfadbaaGreat

namespace Go.Proofs.YtpdalbckmfadbaaGreat
open Go.RowKit
set_option linter.unusedVariables false
attribute [local go_sem] Oper.semAt_some
theorem infoW : (Tryz.prog.info? 112).map (·.size) = some 4 := by kernel_rfl
set_option maxRecDepth 100000 in
theorem start0 (w : World) : Calls Tryz.prog 23 #[.int .i64 40, .int .i64 192, .int .i64 1] w fun e w' => e = .returned (.tuple #[.int .i64 52, .int .i64 0]) ∧ Below w.heap.size w w' := by
  have HOF := Lib.hid (fun W => Cr.rof_ok 40 0 192 W (by omega) (by omega) (by omega) (by omega))
  have HST := Lib.hid (fun W => Cr.start_any 40 0 192 1 W (by omega) (by omega) (by omega) (by omega))
  rw [show Cr.stS 40 192 1 = 52 by decide +kernel] at HST
  rw [show Cr.szB 40 192 = 192 by decide +kernel] at HOF
  generalize Cr.rwS (40 + 4) = R at *
  go_enter Tryz.func23, Tryz.ntmps23
  go_wp2_with fail
  refine (HOF.out _).mono ?_
  rintro en w1 ⟨rfl, hB1⟩
  have HW1 := Lib.hid (Blk.new w1 [.int .i64 (40 : Nat), .int .i64 (0 : Nat), .int .i64 R, .int .i64 (192 : Nat)] 112 rfl)
  have HB1 := Lib.hid (bal hB1 (.cells #[.int .i64 (40 : Nat), .int .i64 (0 : Nat), .int .i64 R, .int .i64 (192 : Nat)] 112))
  have hW1 := HW1.out
  clear hB1
  go_wp2_with (refine ldrow (cs := [.int .i64 (40 : Nat), .int .i64 (0 : Nat), .int .i64 R, .int .i64 (192 : Nat)]) rfl 112 (.tmp 8) rfl rfl hW1 _ Tryz.underlying112 rfl (by rw [infoW]; rfl) ?_)
  refine (HST.out _).mono ?_
  rintro en w2 ⟨rfl, hB2⟩
  have HB2 := Lib.hid (HB1.out.trans (hB2.mono HB1.out.size))
  clear hB2 hW1
  go_wp2
  go_ret2
  exact ⟨rfl, HB2.out⟩
theorem chk_ex : Cr.chkErr 4 [1, 1, 0, 0, 1, 1, 0, 1, 1] = 0 ∧ Cr.chkRes 4 [1, 1, 0, 0, 1, 1, 0, 1, 1] = [1] := by decide +kernel
set_option maxRecDepth 100000 in
theorem alive_any (w : World) : Calls Tryz.prog 6 #[] w fun e w' => e = .returned (.bool true) ∧ Below w.heap.size w w' := by
  go_enter Tryz.func6, Tryz.ntmps6
  go_wp2_with fail
  refine (start0 w).mono ?_
  rintro e w1 ⟨rfl, hB⟩
  have HR : Hid (Rd .u8 (w1.alloc (.cells #[.int .u8 1, .int .u8 1, .int .u8 0, .int .u8 0, .int .u8 1, .int .u8 1, .int .u8 0, .int .u8 1, .int .u8 1] 5)) (some ⟨w1.heap.size, 0, none⟩) 9 9 [1, 1, 0, 0, 1, 1, 0, 1, 1]) := Lib.hid (Ownv.lit (base := 0) w1 #[.int .u8 1, .int .u8 1, .int .u8 0, .int .u8 0, .int .u8 1, .int .u8 1, .int .u8 0, .int .u8 1, .int .u8 1] 5 rfl (Nat.zero_le _) (by show 9 ≤ maxLen; unfold maxLen; omega)).rd
  have HB1 := Lib.hid (bal hB (.cells #[.int .u8 1, .int .u8 1, .int .u8 0, .int .u8 0, .int .u8 1, .int .u8 1, .int .u8 0, .int .u8 1, .int .u8 1] 5))
  have HC := Lib.hid (Cr.check_any 4 _ 9 9 _ _ HR.out (by omega))
  rw [chk_ex.1, chk_ex.2] at HC
  clear hB
  go_wp2_with fail
  refine HC.out.mono ?_
  rintro e w2 ⟨A', n', c', rfl, hO, hB⟩
  obtain rfl : n' = 1 := by rw [← Rd.len (Own.rd hO)]; rfl
  have c0 := Rd.cell (Own.rd hO) (show 0 < 1 by omega)
  have i0 := fun W => Rdv.ixI (Own.rd hO) el26 (j := 0) (by omega) .i64 0 rfl W
  have HB2 := Lib.hid (HB1.out.trans (hB.mono HB1.out.size))
  rw [show gi [1] 0 = 1 from rfl] at c0
  clear hO hB
  go_wp2
  go_ret
  exact ⟨rfl, HB2.out⟩
end Go.Proofs.YtpdalbckmfadbaaGreat

