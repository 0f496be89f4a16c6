/-
  Bundle of the texts Re Rf. Conditions: none.
-/
import Derived.Test.YtpdalbckmfadbaaGreatBunaz
namespace Go.Proofs.YtpdalbckmfadbaaGreat
open Go.RowKit
set_option linter.unusedVariables false
attribute [local go_sem] Oper.semAt_some
set_option maxRecDepth 100000 in
set_option maxHeartbeats 1000000 in
theorem rdec_any (S : Option Addr) (n cs : Nat) (vs : List Int) (kind most : Int) (w : World) (h : Rd .i64 w S n cs vs) (hn : n ≤ 600) :
    Calls Tryz.prog 17 #[.slice S n cs, .int .i64 kind, .int .i64 most] w (DcA vs kind most w) := by
  have hl := Rd.len h
  have HW := Lib.hid (rwrong_any S n cs vs kind most w h hn)
  by_cases hE : wrE vs kind most = 0
  · obtain ⟨h3, hv, hk, hm, hs⟩ := wrE_zero hE
    have hkb := Tu.valid_bd hv
    have hkn : ((vs.length : Int) / 3 - 4) = ((kOf vs : Nat) : Int) := by unfold kOf; omega
    rw [hkn] at hv hkb
    have hn3 : n = 3 * (kOf vs + 4) := by omega
    obtain ⟨u, hu⟩ := valid_szK hv (by unfold kOf; omega)
    obtain ⟨m, rfl⟩ := Int.eq_ofNat_of_zero_le (show 0 ≤ most by omega)
    have HRH := Lib.hid (fun W (hW : Rd .i64 W S n cs vs) => by
      rw [hn3] at hW
      exact rhalves_any S (kOf vs) u cs vs kind m W hW hu (by omega) hs)
    rw [← hn3] at HRH
    rw [hE] at HW
    have HX := Lib.hid h
    have HH := Lib.hid hE
    have HM := Lib.hid hm
    clear h hE hl h3 hv hk hm hs hkb hkn hn3 hu
    go_enter Tryz.func17, Tryz.ntmps17
    go_wp2_with fail
    refine HW.out.mono ?_
    rintro e w1 ⟨rfl, hB⟩
    have HX1 := Lib.hid (Rdv.below HX.out hB)
    have HB1 := Lib.hid hB
    clear hB
    go_wp2_with fail
    refine (HRH.out w1 HX1.out).mono ?_
    rintro e w2 ⟨O, oc, L, b, rfl, hBL, hrows, hB, hr⟩
    have HBL := Lib.hid hBL
    have HRW := Lib.hid hrows
    have HB2 := Lib.hid (HB1.out.trans (hB.mono HB1.out.size))
    have HSZ := Lib.hid HB1.out.size
    clear hBL hrows hB
    rcases hr with ⟨rfl, j, h1, h2, h3, h4⟩ | ⟨rfl, h1, h2⟩
    · have hf : fdN vs kind (m : Int) = some j := by
        unfold fdN
        rw [Int.toNat_natCast, List.find?_range_eq_some]
        exact ⟨h3, List.mem_range.2 h2, fun q hq => by rw [h4 q hq]; rfl⟩
      obtain ⟨s, hs⟩ : ∃ s, L[j]? = some s := ⟨_, List.getElem?_eq_getElem (by omega)⟩
      have hm9 : m ≤ 64 := by have := HM.out.2; omega
      have hc32 : w2.cell? (adr O j) = some (.slice s.A s.n s.c) := HBL.out.o.rd.at_ j s.v (by rw [List.getElem?_map, hs]; rfl)
      have e31 : IntKind.i64.wrap ((L.length : Int) - 1) = (j : Int) := by rw [IntWalk.i64_in _ (by omega)]; omega
      have hi32 := fun W => Rdv.ix HBL.out.o.rd el100 (j := j) (by omega) .i64 W
      have hsr := HRW.out j s hs
      have hbr := HBL.out.r s (List.mem_of_getElem? hs)
      have hH : itH vs kind (m : Int) = (L.length : Int) := by unfold itH; rw [if_pos HH.out, hf, h1]
      have hEE : itE vs kind (m : Int) = 0 := by unfold itE; rw [if_pos HH.out, hf]
      have hD : itD vs kind (m : Int) = s.xs := by unfold itD; rw [if_pos HH.out, hf]; exact hsr.2.symm
      have H1 := Lib.hid hH
      have H2 := Lib.hid hEE
      have H3 := Lib.hid hD
      have HRR := Lib.hid hbr
      have h1' := Lib.hid h1
      clear hf hs hsr hbr hH hEE hD h1 h2 h3 h4
      go_wp2
      go_ret3
      exact ⟨s.A, s.n, s.c, by rw [H1.out, H2.out]; rfl, by rw [H3.out]; exact Own.rd HRR.out.1, fun hA => Nat.le_trans HSZ.out (Ownv.blk_of HRR.out.1 hA).1, HB2.out⟩
    · have hf : fdN vs kind (m : Int) = none := by
        unfold fdN
        rw [Int.toNat_natCast, List.find?_eq_none]
        intro q hq
        rw [h2 q (List.mem_range.1 hq)]; decide
      have hH : itH vs kind (m : Int) = 0 := by unfold itH; rw [if_pos HH.out, hf]
      have hEE : itE vs kind (m : Int) = 11 := by unfold itE; rw [if_pos HH.out, hf]
      have hD : itD vs kind (m : Int) = [] := by unfold itD; rw [if_pos HH.out, hf]
      have H1 := Lib.hid hH
      have H2 := Lib.hid hEE
      have H3 := Lib.hid hD
      clear hf hH hEE hD h1 h2
      go_wp2
      go_ret3
      exact ⟨none, 0, 0, by rw [H1.out, H2.out]; rfl, by rw [H3.out]; exact Rd.nilv .u8 _, fun h => absurd rfl h, HB2.out⟩
  · have e1 : itH vs kind most = 0 := by unfold itH; rw [if_neg hE]
    have e2 : itE vs kind most = wrE vs kind most := by unfold itE; rw [if_neg hE]
    have e3 : itD vs kind most = [] := by unfold itD; rw [if_neg hE]
    unfold DcA
    rw [e1, e2, e3]
    clear e1 e2 e3
    have q := bne_t hE
    generalize wrE vs kind most = E at *
    clear hE h hl
    go_enter Tryz.func17, Tryz.ntmps17
    go_wp2_with fail
    refine HW.out.mono ?_
    rintro e w1 ⟨rfl, hB⟩
    go_wp2
    go_ret3
    exact ⟨none, 0, 0, rfl, Rd.nilv .u8 _, fun h => absurd rfl h, hB⟩
end Go.Proofs.YtpdalbckmfadbaaGreat

namespace Go.Proofs.YtpdalbckmfadbaaGreat
open Go.RowKit
set_option linter.unusedVariables false
attribute [local go_sem] Oper.semAt_some
theorem same_self (A B : Option Addr) (n c m d : Nat) (xs : List Int) (w : World) (hx : Rd .u8 w A n c xs) (hy : Rd .u8 w B m d xs) :
    Calls Tryz.prog 18 #[.slice A n c, .slice B m d] w fun e w' => e = .returned (.bool true) ∧ w = w' := by
  have c1 := conv_rd hx
  have c2 := conv_rd hy
  clear hx hy
  generalize strOfNums xs = s at *
  have hs : decide (s = s) = true := decide_eq_true rfl
  rw [← hs]
  clear hs
  go_enter Tryz.func18, Tryz.ntmps18
  go_wp2
  go_ret
  first | exact ⟨rfl, rfl⟩ | (refine ⟨?_, rfl⟩; simp)
set_option maxRecDepth 100000 in
set_option maxHeartbeats 1000000 in
theorem idec_any (A : Option Addr) (n c : Nat) (xs : List Int) (kind most : Int) (w : World) (hx : Rd .i64 w A n c xs) :
    Calls Tryz.prog 4 #[.slice A n c, .int .i64 kind, .int .i64 most] w fun e w' => e = .returned (.bool true) ∧ Below w.heap.size w w' := by
  have hbd := hx.bd.1
  by_cases h1 : 600 < n
  · clear hx
    go_enter Tryz.func4, Tryz.ntmps4
    go_wp2_with (go_at_call 16; refine (works_any _).mono ?_; rintro e w9 ⟨rfl, hB9⟩)
    go_ret
    exact ⟨rfl, hB9⟩
  rcases (by omega : (8 < most ∧ most ≤ 64) ∨ most ≤ 8 ∨ (8 < most ∧ 64 < most)) with ⟨h2, h3⟩ | h2 | ⟨h2, h3⟩
  · clear hx
    go_enter Tryz.func4, Tryz.ntmps4
    go_wp2_with (go_at_call 16; refine (works_any _).mono ?_; rintro e w9 ⟨rfl, hB9⟩)
    go_ret
    exact ⟨rfl, hB9⟩
  · have HX := Lib.hid hx
    have C1 := Lib.hid (fun S1 cs1 W (hW : Rd .i64 W S1 n cs1 xs) => dec_any S1 n cs1 xs kind most W hW (by omega))
    have C2 := Lib.hid (fun W (hW : Rd .i64 W A n c xs) => rdec_any A n c xs kind most W hW (by omega))
    unfold DcA at C1 C2
    generalize itH xs kind most = H at *
    generalize itD xs kind most = D at *
    generalize itE xs kind most = E at *
    have qH : (H == H) = true := by simp
    have qE : (E == E) = true := by simp
    clear hx
    go_enter Tryz.func4, Tryz.ntmps4
    go_wp2_with (at_builtin
                 refine list_of rfl fun K hK => wp_appB (w0 := w) (vs := []) (.tmp 27) (.tmp 28) 34 rfl el22 rfl rfl (bal (Below.refl _ w) _) ?_ (Rdv.below HX.out (bal (Below.refl _ w) _)) (oneCell_ints .i64 _) (by omega) (by unfold maxLen; omega) ?_
                 · exact Ownv.of_heap (cs := #[]) (heap_new' rfl) (Nat.le_refl _) (by show 0 ≤ maxLen; omega)
                 intro A1 c1 w1 h1 h2 _
                 rw [Nat.zero_add] at h1 ⊢
                 refine hK _ _ ?_
                 clear hK K
                 have HO1 : Hid (Rd .i64 w1 A1 n c1 xs) := Lib.hid (by have h3 := Ownv.rd h1; unfold Rd; simpa using h3)
                 have HB1 := Lib.hid h2
                 clear h1 h2)
    refine (C1.out A1 c1 w1 HO1.out).mono ?_
    rintro e w2 ⟨R, nr, rc, rfl, hR, -, hB⟩
    have HR := Lib.hid hR
    have HO2 := Lib.hid (Rdv.below HO1.out hB)
    have HB2 := Lib.hid (HB1.out.trans (hB.mono HB1.out.size))
    have HX2 := Lib.hid (Rdv.below HX.out HB2.out)
    clear hR hB
    go_wp2_with fail
    refine (C2.out w2 HX2.out).mono ?_
    rintro e w3 ⟨R2, nr2, rc2, rfl, hR, -, hB⟩
    have HR2 := Lib.hid hR
    have HR1 := Lib.hid (Rdv.below HR.out hB)
    have HO3 := Lib.hid (Rdv.below HO2.out hB)
    have HX3 := Lib.hid (Rdv.below HX2.out hB)
    have HB3 := Lib.hid (HB2.out.trans (hB.mono HB2.out.size))
    clear hR hB
    go_wp2_with fail
    go_loopw [14] (fun i wr => ∃ j : Nat, j ≤ n ∧ i = .int .i64 (j : Int) ∧ Qt w3 wr) (fun i _ => n - (intOf i).toNat)
    case atStart => exact ⟨0, Nat.zero_le _, rfl, 0, rfl⟩
    case round =>
      obtain ⟨j, hj, rfl, qn, rfl⟩ := hrel
      by_cases hlt : j < n
      · have ho := Rdv.drewN HO3.out qn
        have hy := Rdv.drewN HX3.out qn
        have hc1 := Rd.cell ho hlt
        have hi1 := fun W => Rdv.ix ho el22 hlt .i64 W
        have hc2 := Rd.cell hy hlt
        have hi2 := fun W => Rdv.ix hy el22 hlt .i64 W
        generalize gi xs j = v at *
        have qv : (v != v) = false := by simp
        clear ho hy
        generalize hwd : w3.drewN qn = wd at *
        have HWD := Lib.hid hwd
        clear hwd
        go_wp2_with fail
        go_quiet (fail)
        go_wp2
        go_roundw
        case rel => exact ⟨j + 1, by omega, by go_num, qn + nq, by rw [← HWD.out, World.drewN_drewN]⟩
        case measure => simp [intOf]; omega
      · clear hj
        have HS := Lib.hid (same_self R R2 nr rc nr2 rc2 D (w3.drewN qn) (Rdv.drewN HR1.out qn) (Rdv.drewN HR2.out qn))
        have HB4 : Hid (Below w.heap.size w (w3.drewN qn)) := Lib.hid (HB3.out.trans (Qt.below ⟨qn, rfl⟩ _))
        generalize w3.drewN qn = wd at *
        go_wp2_with (first
          | (go_at_call 19; refine (num_any _ _).mono ?_; rintro e wx ⟨rfl, rfl⟩)
          | (go_at_call 18; refine HS.out.mono ?_; rintro e wx ⟨rfl, rfl⟩)
          | (go_at_call 16; refine (works_any _).mono ?_; rintro e w9 ⟨rfl, hB9⟩))
        go_ret
        exact ⟨rfl, HB4.out.trans (hB9.mono HB4.out.size)⟩
  · have HX := Lib.hid hx
    have C1 := Lib.hid (fun S1 cs1 W (hW : Rd .i64 W S1 n cs1 xs) => dec_any S1 n cs1 xs kind most W hW (by omega))
    have C2 := Lib.hid (fun W (hW : Rd .i64 W A n c xs) => rdec_any A n c xs kind most W hW (by omega))
    unfold DcA at C1 C2
    generalize itH xs kind most = H at *
    generalize itD xs kind most = D at *
    generalize itE xs kind most = E at *
    have qH : (H == H) = true := by simp
    have qE : (E == E) = true := by simp
    clear hx
    go_enter Tryz.func4, Tryz.ntmps4
    go_wp2_with (at_builtin
                 refine list_of rfl fun K hK => wp_appB (w0 := w) (vs := []) (.tmp 27) (.tmp 28) 34 rfl el22 rfl rfl (bal (Below.refl _ w) _) ?_ (Rdv.below HX.out (bal (Below.refl _ w) _)) (oneCell_ints .i64 _) (by omega) (by unfold maxLen; omega) ?_
                 · exact Ownv.of_heap (cs := #[]) (heap_new' rfl) (Nat.le_refl _) (by show 0 ≤ maxLen; omega)
                 intro A1 c1 w1 h1 h2 _
                 rw [Nat.zero_add] at h1 ⊢
                 refine hK _ _ ?_
                 clear hK K
                 have HO1 : Hid (Rd .i64 w1 A1 n c1 xs) := Lib.hid (by have h3 := Ownv.rd h1; unfold Rd; simpa using h3)
                 have HB1 := Lib.hid h2
                 clear h1 h2)
    refine (C1.out A1 c1 w1 HO1.out).mono ?_
    rintro e w2 ⟨R, nr, rc, rfl, hR, -, hB⟩
    have HR := Lib.hid hR
    have HO2 := Lib.hid (Rdv.below HO1.out hB)
    have HB2 := Lib.hid (HB1.out.trans (hB.mono HB1.out.size))
    have HX2 := Lib.hid (Rdv.below HX.out HB2.out)
    clear hR hB
    go_wp2_with fail
    refine (C2.out w2 HX2.out).mono ?_
    rintro e w3 ⟨R2, nr2, rc2, rfl, hR, -, hB⟩
    have HR2 := Lib.hid hR
    have HR1 := Lib.hid (Rdv.below HR.out hB)
    have HO3 := Lib.hid (Rdv.below HO2.out hB)
    have HX3 := Lib.hid (Rdv.below HX2.out hB)
    have HB3 := Lib.hid (HB2.out.trans (hB.mono HB2.out.size))
    clear hR hB
    go_wp2_with fail
    go_loopw [14] (fun i wr => ∃ j : Nat, j ≤ n ∧ i = .int .i64 (j : Int) ∧ Qt w3 wr) (fun i _ => n - (intOf i).toNat)
    case atStart => exact ⟨0, Nat.zero_le _, rfl, 0, rfl⟩
    case round =>
      obtain ⟨j, hj, rfl, qn, rfl⟩ := hrel
      by_cases hlt : j < n
      · have ho := Rdv.drewN HO3.out qn
        have hy := Rdv.drewN HX3.out qn
        have hc1 := Rd.cell ho hlt
        have hi1 := fun W => Rdv.ix ho el22 hlt .i64 W
        have hc2 := Rd.cell hy hlt
        have hi2 := fun W => Rdv.ix hy el22 hlt .i64 W
        generalize gi xs j = v at *
        have qv : (v != v) = false := by simp
        clear ho hy
        generalize hwd : w3.drewN qn = wd at *
        have HWD := Lib.hid hwd
        clear hwd
        go_wp2_with fail
        go_quiet (fail)
        go_wp2
        go_roundw
        case rel => exact ⟨j + 1, by omega, by go_num, qn + nq, by rw [← HWD.out, World.drewN_drewN]⟩
        case measure => simp [intOf]; omega
      · clear hj
        have HS := Lib.hid (same_self R R2 nr rc nr2 rc2 D (w3.drewN qn) (Rdv.drewN HR1.out qn) (Rdv.drewN HR2.out qn))
        have HB4 : Hid (Below w.heap.size w (w3.drewN qn)) := Lib.hid (HB3.out.trans (Qt.below ⟨qn, rfl⟩ _))
        generalize w3.drewN qn = wd at *
        go_wp2_with (first
          | (go_at_call 19; refine (num_any _ _).mono ?_; rintro e wx ⟨rfl, rfl⟩)
          | (go_at_call 18; refine HS.out.mono ?_; rintro e wx ⟨rfl, rfl⟩)
          | (go_at_call 16; refine (works_any _).mono ?_; rintro e w9 ⟨rfl, hB9⟩))
        go_ret
        exact ⟨rfl, HB4.out.trans (hB9.mono HB4.out.size)⟩
end Go.Proofs.YtpdalbckmfadbaaGreat

