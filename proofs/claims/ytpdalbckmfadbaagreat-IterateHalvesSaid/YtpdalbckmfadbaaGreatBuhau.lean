/-
  Bundle of the texts Ig CrT3 CrT4. Conditions: none.
-/
import Derived.Test.YtpdalbckmfadbaaGreatBuhat
import Derived.Test.YtpdalbckmfadbaaGreatProg
import Derived.Test.YtpdalbckmfadbaaGreatBuhaa
import Derived.Deep.QuietTactic
namespace Go.Proofs.YtpdalbckmfadbaaGreat
open Go.RowKit
set_option linter.unusedVariables false
attribute [local go_sem] Oper.semAt_some
theorem cloneI_any (A : Option Addr) (n c : Nat) (xs : List Int) (w : World) (h : Rd .i64 w A n c xs) (hn : n ≤ 1000000) :
    Calls Tryz.prog 48 #[.slice A n c] w fun e w' => ∃ A' c', e = .returned (.slice A' n c') ∧ Own .i64 3 w' w.heap.size A' n c' xs ∧ Below w.heap.size w w' := by
  have e1 := fun W => Lib.run_eql_slice_nil (P := Tryz.prog) W 34 3 A n c 0 0 el22.u
  cases A with
  | none =>
    have hc := h.nil rfl
    have hnc := h.le
    obtain rfl : n = 0 := by omega
    subst hc
    obtain rfl : xs = [] := List.eq_nil_of_length_eq_zero h.len
    go_enter Tryz.func48, Tryz.ntmps48
    go_wp2
    go_ret
    exact ⟨none, 0, rfl, Own.nilv .i64 3 w _, Below.refl _ _⟩
  | some ad =>
    have h1 := Rdv.alloc h (.cells #[] 3)
    have hO0 : Ownv 3 (w.alloc (.cells #[] 3)) w.heap.size (some ⟨w.heap.size, 0, none⟩) 0 0 [] := Ownv.lit w #[] 3 rfl (Nat.le_refl _) (Nat.zero_le _)
    go_enter Tryz.func48, Tryz.ntmps48
    go_wp2_with (at_builtin; refine list_of rfl fun K hK => wp_app _ _ 34 rfl el22 rfl rfl hO0 h1 (oneCell_ints .i64 xs) (by omega) (by unfold maxLen; omega) (by simp) ?_; intro A' c' w' hO hg; refine hK _ _ ?_; clear hK K)
    go_ret
    exact ⟨A', c', ret_sl rfl rfl rfl, Own.of_eq hO (Nat.zero_add n) (List.nil_append _), (Below.refl _ _).grown (grownBy_of_alloc hg) (Nat.le_refl _) (by simp [Value.ownBlock])⟩
theorem own_ne_top {k : IntKind} {e : TypeId} {w : World} {base : Nat} {A : Option Addr} {n c : Nat} {xs : List Int} (h : Own k e w base A n c xs) : A ≠ none → blk A ≠ w.heap.size := by
  intro hA
  obtain ⟨-, g1⟩ := Ownv.cases h
  rcases g1 with ⟨h1, -⟩ | ⟨g, cur, h1, -, hh, -⟩
  · exact absurd h1 hA
  · subst h1
    have h9 := heap_lt' hh
    show g ≠ w.heap.size
    omega
theorem rd_ne_top {k : IntKind} {w : World} {A : Option Addr} {n c : Nat} {xs : List Int} (h : Rd k w A n c xs) (hn : 0 < n) : A ≠ none → blk A ≠ w.heap.size := by
  intro hA
  have hle := Rdv.le h
  obtain ⟨b, o, rfl, hb⟩ := Rdv.ptr h (by omega)
  show b ≠ w.heap.size
  omega
/-- the error of the arguments -/
def wrE (vs : List Int) (kind most : Int) : Int := if vs.length % 3 ≠ 0 ∨ Tu.validK ((vs.length : Int) / 3 - 4) = false ∨ kind < 0 ∨ 4 < kind ∨ most < 1 ∨ 64 < most then 2 else if SoftB vs = true then 0 else 6
/-- where a new decoder lies -/
def BgX (k : Nat) (vs : List Int) (w1 : World) (v6 v7 : Value) (wx : World) : Prop :=
  v7 = .int .i64 0 ∧ ∃ D V vc O oc I ic A ac, v6 = .pointer (some ⟨D, 0, none⟩) ∧ DS wx D k vs (List.replicate k 0) [] 0 V vc O oc I ic A ac none 0 0 ∧ w1.heap.size ≤ D ∧ Below w1.heap.size w1 wx
def BgP (k : Nat) (vs : List Int) (w : World) (e : Ending) (w' : World) : Prop :=
  ∃ D V vc O oc I ic A ac, e = .returned (.tuple #[.pointer (some ⟨D, 0, none⟩), .int .i64 0]) ∧ DS w' D k vs (List.replicate k 0) [] 0 V vc O oc I ic A ac none 0 0 ∧ w.heap.size ≤ D ∧ Below w.heap.size w w'
set_option maxRecDepth 100000 in
set_option maxHeartbeats 1000000 in
theorem begun_bad (S : Option Addr) (n cs : Nat) (vs : List Int) (kind most : Int) (w : World) (h : Rd .i64 w S n cs vs) (hn : n ≤ 100000) (hw : vs.length % 3 ≠ 0 ∨ Tu.validK ((vs.length : Int) / 3 - 4) = false ∨ kind < 0 ∨ 4 < kind ∨ most < 1 ∨ 64 < most) :
    Calls Tryz.prog 49 #[.slice S n cs, .int .i64 kind, .int .i64 most] w fun e w' => e = .returned (.tuple #[.pointer none, .int .i64 2]) ∧ Below w.heap.size w w' := by
  have hl := Rd.len h
  rw [hl] at hw
  have HSZ := Lib.hid (fun W => size_any S n cs W (by omega))
  have HV := Lib.hid (fun W => Tu.valid_any ((n : Int) / 3 - 4) W)
  obtain ⟨r, hr⟩ : ∃ r : Nat, r = n % 3 := ⟨_, rfl⟩
  have a1 : (n : Int).tmod 3 = (r : Int) := by rw [Int.tmod_eq_emod_of_nonneg (by omega), hr]; omega
  have a2 : (n : Int) % 3 = (r : Int) := by rw [hr]; omega
  rw [← hr] at hw
  generalize Tu.validK ((n : Int) / 3 - 4) = vb at *
  generalize (n : Int) / 3 - 4 = kk at *
  clear hr hl
  rcases (by
    by_cases c1 : r ≠ 0
    · exact .inl c1
    · have c1 : r = 0 := by omega
      by_cases c2 : vb = false
      · exact .inr (.inl ⟨c1, c2⟩)
      · have c2 : vb = true := by simpa using c2
        by_cases c3 : kind < 0
        · exact .inr (.inr (.inl ⟨c1, c2, c3⟩))
        · by_cases c4 : 4 < kind
          · exact .inr (.inr (.inr (.inl ⟨c1, c2, by omega, c4⟩)))
          · by_cases c5 : most < 1
            · exact .inr (.inr (.inr (.inr (.inl ⟨c1, c2, by omega, by omega, c5⟩))))
            · refine .inr (.inr (.inr (.inr (.inr ⟨c1, c2, by omega, by omega, by omega, ?_⟩))))
              rcases hw with h | h | h | h | h | h
              · omega
              · rw [h] at c2; cases c2
              · omega
              · omega
              · omega
              · exact h : r ≠ 0 ∨ (r = 0 ∧ vb = false) ∨ (r = 0 ∧ vb = true ∧ kind < 0) ∨ (r = 0 ∧ vb = true ∧ 0 ≤ kind ∧ 4 < kind) ∨ (r = 0 ∧ vb = true ∧ 0 ≤ kind ∧ kind ≤ 4 ∧ most < 1) ∨ (r = 0 ∧ vb = true ∧ 0 ≤ kind ∧ kind ≤ 4 ∧ 1 ≤ most ∧ 64 < most)) with h1 | ⟨h1, rfl⟩ | ⟨h1, rfl, h3⟩ | ⟨h1, rfl, h3, h4⟩ | ⟨h1, rfl, h3, h4, h5⟩ | ⟨h1, rfl, h3, h4, h5, h6⟩ <;> clear hw
  case' inl => have q1 : ((r : Int) != 0) = true := bne_t (by omega)
  case' inr.inl => have q1 : ((r : Int) != 0) = false := bne_f (by omega)
  case' inr.inr.inl => have q1 : ((r : Int) != 0) = false := bne_f (by omega)
  case' inr.inr.inr.inl => have q1 : ((r : Int) != 0) = false := bne_f (by omega)
  case' inr.inr.inr.inr.inl => have q1 : ((r : Int) != 0) = false := bne_f (by omega)
  case' inr.inr.inr.inr.inr => have q1 : ((r : Int) != 0) = false := bne_f (by omega)
  all_goals
    clear h1
    go_enter Tryz.func49, Tryz.ntmps49
    go_wp2_with fail
    refine wp_scope_fwd 0 rfl ?_
    go_wp2_with (first
      | (go_at_call 86; refine (HSZ.out _).mono ?_; rintro e w0 ⟨rfl, rfl⟩)
      | (go_at_call 27; refine (HV.out _).mono ?_; rintro e w0 ⟨rfl, hB0⟩))
    go_step3
    refine ⟨rfl, ?_⟩
    go_wp2
    simp only [Exit.jump]
    go_ret2
    exact ⟨rfl, by first | exact Below.refl _ _ | assumption⟩
set_option maxRecDepth 100000 in
set_option maxHeartbeats 1000000 in
theorem begun_soft (S : Option Addr) (n cs : Nat) (vs : List Int) (kind most : Int) (w : World) (h : Rd .i64 w S n cs vs) (hn : n ≤ 100000) (h3 : n % 3 = 0) (hv : Tu.validK ((n : Int) / 3 - 4) = true) (hk : 0 ≤ kind ∧ kind ≤ 4) (hm : 1 ≤ most ∧ most ≤ 64) (hs : SoftB vs = false) :
    Calls Tryz.prog 49 #[.slice S n cs, .int .i64 kind, .int .i64 most] w fun e w' => e = .returned (.tuple #[.pointer none, .int .i64 6]) ∧ Below w.heap.size w w' := by
  have HSZ := Lib.hid (fun W => size_any S n cs W (by omega))
  have HV := Lib.hid (fun W => Tu.valid_any ((n : Int) / 3 - 4) W)
  have HC := Lib.hid (fun W h => bcont_any S n cs vs W h)
  rw [hs, Bool.not_false] at HC
  rw [hv] at HV
  have HH := Lib.hid h
  have a1 : (n : Int).tmod 3 = 0 := by rw [Int.tmod_eq_emod_of_nonneg (by omega)]; omega
  have a2 : (n : Int) % 3 = 0 := by omega
  have b1 : decide (kind < 0) = false := by simp; omega
  have b2 : decide (kind > 4) = false := by simp; omega
  have b3 : decide (most < 1) = false := by simp; omega
  have b4 : decide (most > 64) = false := by simp; omega
  generalize (n : Int) / 3 - 4 = kk at *
  clear h3 hv h hs
  go_enter Tryz.func49, Tryz.ntmps49
  go_wp2_with fail
  refine wp_scope_fwd 0 rfl ?_
  go_wp2_with (first
    | (go_at_call 86; refine (HSZ.out _).mono ?_; rintro e w0 ⟨rfl, rfl⟩)
    | (go_at_call 27; refine (HV.out _).mono ?_; rintro e w0 ⟨rfl, hB0⟩; have HB0 := Lib.hid hB0; have HH0 := Lib.hid (Rdv.below HH.out hB0); clear hB0)
    | (go_at_call 80; refine (HC.out _ HH0.out).mono ?_; rintro e w1 ⟨rfl, rfl⟩))
  go_step3
  refine ⟨rfl, ?_⟩
  go_wp2
  simp only [Exit.jump]
  go_ret2
  exact ⟨rfl, HB0.out⟩
set_option maxRecDepth 100000 in
set_option maxHeartbeats 2000000 in
theorem begun_ok (S : Option Addr) (k cs : Nat) (vs : List Int) (kind most : Int) (w : World) (h : Rd .i64 w S (3 * (k + 4)) cs vs) (hv : Tu.validK (k : Int) = true) (hk : 0 ≤ kind ∧ kind ≤ 4) (hm : 1 ≤ most ∧ most ≤ 64) (hs : SoftB vs = true) :
    Calls Tryz.prog 49 #[.slice S (3 * (k + 4)) cs, .int .i64 kind, .int .i64 most] w (BgP k vs w) := by
  have hkb := Tu.valid_bd hv
  have hk0 : 0 < k := by omega
  have hk9 : k ≤ 6144 := by omega
  have hvl : (((3 * (k + 4) : Nat) : Int)) / 3 - 4 = (k : Int) := by omega
  have HSZ := Lib.hid (fun W => size_any S (3 * (k + 4)) cs W (by omega))
  rw [hvl] at HSZ
  have HV := Lib.hid (fun W => Tu.valid_any (k : Int) W)
  rw [hv] at HV
  have HC := Lib.hid (fun W h => bcont_any S (3 * (k + 4)) cs vs W h)
  rw [hs, Bool.not_true] at HC
  have HOR := Lib.hid (fun W => Tu.order_any (k : Int) W)
  have HIN := Lib.hid (fun W => Tu.inverse_any (k : Int) W)
  rw [show Tu.permE (k : Int) = 0 from by unfold Tu.permE; rw [if_pos hv], show Tu.ordR (k : Int) = Tu.ordL k from by unfold Tu.ordR; rw [if_pos hv, Int.toNat_natCast]] at HOR
  rw [show Tu.permE (k : Int) = 0 from by unfold Tu.permE; rw [if_pos hv], show Tu.invR (k : Int) = Tu.invL k from by unfold Tu.invR; rw [if_pos hv, Int.toNat_natCast]] at HIN
  have HH := Lib.hid h
  have a1 : ((3 * (k + 4) : Nat) : Int).tmod 3 = 0 := by rw [Int.tmod_eq_emod_of_nonneg (by omega)]; omega
  have a2 : ((3 * (k + 4) : Nat) : Int) % 3 = 0 := by omega
  have b1 : decide (kind < 0) = false := by simp; omega
  have b2 : decide (kind > 4) = false := by simp; omega
  have b3 : decide (most < 1) = false := by simp; omega
  have b4 : decide (most > 64) = false := by simp; omega
  clear hv h hs hkb
  go_enter Tryz.func49, Tryz.ntmps49
  go_wp2_with fail
  go_step3
  go_wp2_with (first
    | (go_at_call 86; refine (HSZ.out _).mono ?_; rintro e w0 ⟨rfl, rfl⟩)
    | (go_at_call 27; refine (HV.out _).mono ?_; rintro e w0 ⟨rfl, hB0⟩; have HB0 := Lib.hid hB0; have HH0 := Lib.hid (Rdv.below HH.out hB0); clear hB0)
    | (go_at_call 80; refine (HC.out _ HH0.out).mono ?_; rintro e w1 ⟨rfl, rfl⟩)
    | (go_at_call 88; refine (HOR.out _).mono ?_; rintro e w2 ⟨O, on, rfl, hO, hB2⟩; have hon := Rd.len (Own.rd hO); rw [Tu.ordL_len] at hon; subst hon; have HO2 := Lib.hid (Own.rd hO); have HH2 := Lib.hid (Rdv.below HH0.out hB2); have HB2 := Lib.hid (HB0.out.trans (hB2.mono HB0.out.size)); clear hO hB2)
    | (go_at_call 89; refine (HIN.out _).mono ?_; rintro e w1 ⟨I, im, rfl, hI, hB1⟩; have him := Rd.len (Own.rd hI); rw [inv_len] at him; subst him; have HI1 := Lib.hid (Own.rd hI); have HO1 := Lib.hid (Rdv.below HO2.out hB1); have HH1 := Lib.hid (Rdv.below HH2.out hB1); have HB1 := Lib.hid (HB2.out.trans (hB1.mono HB2.out.size)); clear hI hB1))
  have HCL := Lib.hid (fun W (hW : Below w1.heap.size w1 W) => cloneI_any S (3 * (k + 4)) cs vs W (Rdv.below HH1.out hW) (by omega))
  have HS : Hid (Below w1.heap.size w1 w1.drew) := Lib.hid (Below.refl _ _).drew
  clear HOR HIN HC HV HSZ a1 a2 b1 b2 b3 b4 HH HH0 HH2 HO2 HB0 HB2
  go_cut [6, 7] from 50 to 57 (fun v6 v7 wx => BgX k vs w1 v6 v7 wx)
  case first =>
    refine Q_start (fun W => Below w1.heap.size w1 W) 7 10 ?_
    refine Q_W 0 50 1 (.slice S (3 * (k + 4)) cs) rfl HS.out ?_
    simp only [z0, z1, z2]
    refine Q_W 2 52 5 (.slice O k k) rfl HS.out ?_
    simp only [z0, z1, z2]
    refine Q_W 3 53 13 (.slice I k k) rfl HS.out ?_
    simp only [z0, z1, z2]
    refine Q_W 4 54 29 (.int .i64 (k : Int)) rfl HS.out ?_
    simp only [z0, z1, z2]
    generalize w1.drew = wd at *
    refine Q_2S 1 5 31 61 rfl rfl (fun K hK => ?_) (fun K hK => ?_)
    · go_simp
      refine (HCL.out wd HS.out).mono ?_
      rintro e wa ⟨V, vc, rfl, hV, hB1⟩
      have HV := Lib.hid hV
      have HSc := Lib.hid (HS.out.trans (hB1.mono HS.out.size))
      clear hB1 hV
      refine hK _ _ HSc.out ?_
      clear hK K
      refine Q_1S 5 63 rfl (fun K hK => ?_)
      refine wp_mkd 55 (.tmp 54) (.tmp 54) 34 rfl rfl el22 rfl rfl (by omega) (by unfold maxLen; omega) ?_
      intro A wb hA hB1 hA0
      have HA : Hid (Own .i64 3 wb wa.heap.size A k k (List.replicate k 0)) := Lib.hid (by unfold Own; simpa using hA)
      have HV := Lib.hid (Ownv.below HV.out hB1)
      have HScm := Lib.hid (HSc.out.trans (hB1.mono HSc.out.size))
      clear hB1 hA hA0
      refine hK _ _ HScm.out ?_
      clear hK K
      simp only [z0, z1, z2]
      refine Q_W 6 56 127 (.agg #[.slice V (3 * (k + 4)) vc, .slice O k k, .slice I k k, .slice A k k, .slice none 0 0, .int .i64 0]) rfl HScm.out ?_
      simp only [z0, z1, z2]
      refine Q_1 7 255 rfl (fun K hK => ?_)
      go_simp
      have HF : Hid (BgX k vs w1 (.pointer (some ⟨wb.heap.size, 0, none⟩)) (.int .i64 0) (wb.alloc (.cells #[.slice V (3 * (k + 4)) vc, .slice O k k, .slice I k k, .slice A k k, .slice none 0 0, .int .i64 0] 97))) := Lib.hid ⟨rfl, wb.heap.size, V, vc, O, k, I, k, A, k, rfl, ⟨Blk.new wb [.slice V (3 * (k + 4)) vc, .slice O k k, .slice I k k, .slice A k k, .slice none 0 0, .int .i64 0] 97 rfl, Rdv.alloc (Own.rd HV.out) _, Rdv.alloc (Rdv.below HO1.out HScm.out) _, Rdv.alloc (Rdv.below HI1.out HScm.out) _, Rdv.alloc (Own.rd HA.out) _, Rd.nilv .u8 _, own_ne_top HV.out, rd_ne_top (Rdv.below HO1.out HScm.out) hk0, rd_ne_top (Rdv.below HI1.out HScm.out) hk0, own_ne_top HA.out, fun h => absurd rfl h⟩, HScm.out.size, HScm.out.alloc HScm.out.size _⟩
      refine hK _ _ ?_
      clear hK K
      refine Q_1 8 511 rfl (fun K hK => ?_)
      go_simp
      refine hK _ _ ?_
      clear hK K
      refine Q_1 9 1023 rfl (fun K hK => ?_)
      go_simp
      refine hK _ _ ?_
      clear hK K
      refine Q_end ?_
      go_wp2_with fail
      go_meet
      exact HF.out
    · refine wp_mkd 55 (.tmp 54) (.tmp 54) 34 rfl rfl el22 rfl rfl (by omega) (by unfold maxLen; omega) ?_
      intro A wa hA hB1 hA0
      have HA : Hid (Own .i64 3 wa wd.heap.size A k k (List.replicate k 0)) := Lib.hid (by unfold Own; simpa using hA)
      have HSm := Lib.hid (HS.out.trans (hB1.mono HS.out.size))
      clear hB1 hA hA0
      refine hK _ _ HSm.out ?_
      clear hK K
      simp only [z0, z1, z2]
      refine Q_1S 1 63 rfl (fun K hK => ?_)
      go_simp
      refine (HCL.out wa HSm.out).mono ?_
      rintro e wb ⟨V, vc, rfl, hV, hB1⟩
      have HV := Lib.hid hV
      have HA := Lib.hid (Ownv.below HA.out hB1)
      have HSmc := Lib.hid (HSm.out.trans (hB1.mono HSm.out.size))
      clear hB1 hV
      refine hK _ _ HSmc.out ?_
      clear hK K
      refine Q_W 6 56 127 (.agg #[.slice V (3 * (k + 4)) vc, .slice O k k, .slice I k k, .slice A k k, .slice none 0 0, .int .i64 0]) rfl HSmc.out ?_
      simp only [z0, z1, z2]
      refine Q_1 7 255 rfl (fun K hK => ?_)
      go_simp
      have HF : Hid (BgX k vs w1 (.pointer (some ⟨wb.heap.size, 0, none⟩)) (.int .i64 0) (wb.alloc (.cells #[.slice V (3 * (k + 4)) vc, .slice O k k, .slice I k k, .slice A k k, .slice none 0 0, .int .i64 0] 97))) := Lib.hid ⟨rfl, wb.heap.size, V, vc, O, k, I, k, A, k, rfl, ⟨Blk.new wb [.slice V (3 * (k + 4)) vc, .slice O k k, .slice I k k, .slice A k k, .slice none 0 0, .int .i64 0] 97 rfl, Rdv.alloc (Own.rd HV.out) _, Rdv.alloc (Rdv.below HO1.out HSmc.out) _, Rdv.alloc (Rdv.below HI1.out HSmc.out) _, Rdv.alloc (Own.rd HA.out) _, Rd.nilv .u8 _, own_ne_top HV.out, rd_ne_top (Rdv.below HO1.out HSmc.out) hk0, rd_ne_top (Rdv.below HI1.out HSmc.out) hk0, own_ne_top HA.out, fun h => absurd rfl h⟩, HSmc.out.size, HSmc.out.alloc HSmc.out.size _⟩
      refine hK _ _ ?_
      clear hK K
      refine Q_1 8 511 rfl (fun K hK => ?_)
      go_simp
      refine hK _ _ ?_
      clear hK K
      refine Q_1 9 1023 rfl (fun K hK => ?_)
      go_simp
      refine hK _ _ ?_
      clear hK K
      refine Q_end ?_
      go_wp2_with fail
      go_meet
      exact HF.out
  case rest =>
    obtain ⟨rfl, D, V, vc, O2, oc, I2, ic, A, ac, rfl, hDS, hD, hB⟩ := hcut
    have HDS := Lib.hid hDS
    have HDl := Lib.hid (Nat.le_trans HB1.out.size hD)
    have HBF := Lib.hid (HB1.out.trans (hB.mono HB1.out.size))
    clear hDS hD hB
    go_wp2
    rw [Exit.noGoto_ret]
    go_ret2
    exact ⟨D, V, vc, O2, oc, I2, ic, A, ac, rfl, HDS.out, HDl.out, HBF.out⟩
end Go.Proofs.YtpdalbckmfadbaaGreat

namespace Go.Proofs.YtpdalbckmfadbaaGreat.Cr
open Go.RowKit
set_option linter.unusedVariables false
theorem el53 : El Tryz.prog 22 5 (.int .u8 0) 1 := ⟨by kernel_rfl, by kernel_rfl, fun _ => by kernel_rfl, rfl⟩


def SameInv (w : World) (n : Nat) (xs ys : List Int) (i : Value) (wr : World) : Prop := ∃ j : Nat, j ≤ n ∧ i = .int .i64 j ∧ (∀ q, q < j → gi xs q = gi ys q) ∧ Qt w wr
set_option maxHeartbeats 400000 in
theorem same_any (A B : Option Addr) (n c m d : Nat) (xs ys : List Int) (w : World) (hx : Rd .u8 w A n c xs) (hy : Rd .u8 w B m d ys) :
    Calls Tryz.prog 146 #[.slice A n c, .slice B m d] w fun e w' => e = .returned (.bool (decide (xs = ys))) ∧ Qt w w' := by
  have b1 := hx.bd.1
  have b2 := hy.bd.1
  by_cases hnm : n = m
  · subst hnm
    have hne : ((n : Int) != (n : Int)) = false := bne_f rfl
    go_enter Tryz.func146, Tryz.ntmps146
    go_wp2
    go_loopw [5] (fun i wr => SameInv w n xs ys i wr) (fun i _ => n - (intOf i).toNat)
    case atStart => exact ⟨0, by omega, rfl, by intro q hq; omega, 0, rfl⟩
    case round =>
      obtain ⟨j, hj, rfl, hv, q0, rfl⟩ := hrel
      by_cases hlt : j < n
      · have hc := Rd.cell hx hlt
        have hd := Rd.cell hy hlt
        have hix := fun W => Rdv.ix hx el53 hlt .i64 W
        have hiy := fun W => Rdv.ix hy el53 hlt .i64 W
        have HV := Lib.hid hv; clear hv
        by_cases h1 : gi xs j = gi ys j
        · have h1' := bne_f h1
          have H1 := Lib.hid h1; clear h1
          go_wp2
          go_quiet (fail)
          go_wp2
          go_roundw
          case rel => exact ⟨j + 1, by omega, by go_num, fun q hq => lt_succ_cases HV.out H1.out q hq, by first | exact ⟨_, rfl⟩ | exact Qt.drewN ⟨_, rfl⟩ _⟩
          case measure => simp [intOf]; omega
        · have h1' := bne_t h1
          have hf : decide (xs = ys) = false := by simp; rintro rfl; exact h1 rfl
          go_wp2
          go_quiet (fail)
          go_wp2
          go_ret
          exact ⟨ret_bool hf.symm, by first | exact ⟨_, rfl⟩ | exact Qt.drewN ⟨_, rfl⟩ _⟩
      · have hf : decide (xs = ys) = true := by
          have hl1 := hx.len; have hl2 := hy.len
          simp only [decide_eq_true_eq]
          refine ext_gi (by rw [hl1, hl2]) fun q hq => hv q (by omega)
        go_wp2
        go_ret
        exact ⟨ret_bool hf.symm, by first | exact ⟨_, rfl⟩ | exact Qt.drewN ⟨_, rfl⟩ _⟩
  · have hne : ((n : Int) != (m : Int)) = true := bne_t (by omega)
    have hf : decide (xs = ys) = false := by
      simp; rintro rfl; have := hx.len; have := hy.len; omega
    go_enter Tryz.func146, Tryz.ntmps146
    go_wp2
    go_ret
    exact ⟨ret_bool hf.symm, 0, rfl⟩

/-- append(nil, b...) -/
def ValidB (xs : List Int) : Bool := xs.all (fun x => decide (x ≤ 1))
def ValidInv (n : Nat) (xs : List Int) (i : Value) : Prop := ∃ j : Nat, j ≤ n ∧ i = .int .i64 j ∧ ∀ q, q < j → gi xs q ≤ 1
theorem validB_f {xs : List Int} {j : Nat} (hj : j < xs.length) (h : 1 < gi xs j) : ValidB xs = false := by
  rw [Bool.eq_false_iff]; intro hh
  have := all_gi.1 hh j hj
  simp at this; omega
theorem validB_t {xs : List Int} (h : ∀ q, q < xs.length → gi xs q ≤ 1) : ValidB xs = true := all_gi.2 fun j hj => by simpa using h j hj
set_option maxHeartbeats 400000 in
theorem valid_any (A : Option Addr) (n c : Nat) (xs : List Int) (w : World) (h : Rd .u8 w A n c xs) :
    Calls Tryz.prog 144 #[.slice A n c] w fun e w' => e = .returned (.bool (ValidB xs)) ∧ w = w' := by
  have hbd := h.bd.1
  go_enter Tryz.func144, Tryz.ntmps144
  go_wp2
  go_loop [3] (fun i => ValidInv n xs i) (fun i => n - (intOf i).toNat)
  case atStart => exact ⟨0, by omega, rfl, by intro q hq; omega⟩
  case round =>
    obtain ⟨j, hj, rfl, hv⟩ := hrel
    by_cases hlt : j < n
    · have hc := Rd.cell h hlt
      have hix := fun W => Rdv.ix h el53 hlt .i64 W
      have HV := Lib.hid hv; clear hv
      by_cases h1 : gi xs j ≤ 1
      · have h1' : ¬ 1 < gi xs j := by omega
        go_wp2
        go_round
        case rel => exact ⟨j + 1, by omega, by go_num, fun q hq => lt_succ_cases HV.out h1 q hq⟩
        case measure => simp [intOf]; omega
      · have h1' : 1 < gi xs j := by omega
        have hf := Lib.hid (validB_f (by rw [h.len]; exact hlt) h1')
        go_wp2
        go_ret
        exact ⟨ret_bool hf.out.symm, rfl⟩
    · have hf := Lib.hid (validB_t (xs := xs) (by rw [h.len]; intro q hq; exact hv q (by omega)))
      go_wp2
      go_ret
      exact ⟨ret_bool hf.out.symm, rfl⟩

/-! ### Poly -/
def bitOf (v : Int) (i : Nat) : Int := IntKind.u8.wrap (bits .and .i64 (v / 2 ^ i) 1)
def polyN (k : Int) : Nat := if k = 1 then 25 else if k = 2 then 25 else if k = 3 then 17 else if k = 4 then 9 else 0
def polyV (k : Int) : Int := if k = 1 then 0x1864cfb else if k = 2 then 0x1800063 else if k = 3 then 0x11021 else if k = 4 then 0x19b else 0
def polyL (k : Int) : List Int := (List.range (polyN k)).map fun j => bitOf (polyV k) (polyN k - 1 - j)
def PolyInv (w : World) (n : Nat) (v : Int) (out i : Value) (wr : World) : Prop := ∃ (j : Nat) (A : Option Addr) (c : Nat), j ≤ n ∧ out = .slice A j c ∧ i = .int .i64 ((n : Int) - 1 - j) ∧
  Own .u8 5 wr w.heap.size A j c ((List.range j).map fun q => bitOf v (n - 1 - q)) ∧ Below w.heap.size w wr

set_option maxHeartbeats 400000 in
theorem poly_1 (w : World) :
    Calls Tryz.prog 168 #[.int .i64 1] w fun e w' => ∃ A c, e = .returned (.slice A 25 c) ∧ Own .u8 5 w' w.heap.size A 25 c ((List.range 25).map fun q => bitOf 25578747 (25 - 1 - q)) ∧ Below w.heap.size w w' := by
  go_enter Tryz.func168, Tryz.ntmps168
  go_wp2
  go_loopw [5, 6] (fun out i wr => PolyInv w 25 25578747 out i wr) (fun _ i _ => (intOf i + 1).toNat)
  case atStart => exact ⟨0, none, 0, by omega, rfl, by go_num, Own.of_eq (Ownv.nilv 5 w _) rfl rfl, Below.refl _ _⟩
  case round =>
    obtain ⟨j, A, c, hj, rfl, rfl, hO, hB⟩ := hrel
    have hsz := hB.size
    by_cases hlt : j < 25
    · go_wp2_with (at_builtin; refine list_of rfl fun K hK => wp_app1 _ _ 22 rfl el53 rfl (.int .u8 _) rfl rfl hO (by omega) (by omega) (by omega) ?_; intro A' c' w' hO' hg; refine hK _ _ ?_; clear hK K)
      go_wp2
      go_roundw
      case rel => exact ⟨j + 1, A', c', by omega, rfl, by go_num, Own.of_eq hO' rfl (by rw [List.range_succ, List.map_append, List.map_append]; rfl), hB.grown hg hsz (fun k hk => Ownv.ob' hO hk)⟩
      case measure => simp [intOf]; omega
    · go_wp2
      go_ret
      obtain rfl : j = 25 := by omega
      exact ⟨_, _, ret_sl rfl rfl rfl, hO, hB⟩
set_option maxHeartbeats 400000 in
theorem poly_2 (w : World) :
    Calls Tryz.prog 168 #[.int .i64 2] w fun e w' => ∃ A c, e = .returned (.slice A 25 c) ∧ Own .u8 5 w' w.heap.size A 25 c ((List.range 25).map fun q => bitOf 25165923 (25 - 1 - q)) ∧ Below w.heap.size w w' := by
  go_enter Tryz.func168, Tryz.ntmps168
  go_wp2
  go_loopw [5, 6] (fun out i wr => PolyInv w 25 25165923 out i wr) (fun _ i _ => (intOf i + 1).toNat)
  case atStart => exact ⟨0, none, 0, by omega, rfl, by go_num, Own.of_eq (Ownv.nilv 5 w _) rfl rfl, Below.refl _ _⟩
  case round =>
    obtain ⟨j, A, c, hj, rfl, rfl, hO, hB⟩ := hrel
    have hsz := hB.size
    by_cases hlt : j < 25
    · go_wp2_with (at_builtin; refine list_of rfl fun K hK => wp_app1 _ _ 22 rfl el53 rfl (.int .u8 _) rfl rfl hO (by omega) (by omega) (by omega) ?_; intro A' c' w' hO' hg; refine hK _ _ ?_; clear hK K)
      go_wp2
      go_roundw
      case rel => exact ⟨j + 1, A', c', by omega, rfl, by go_num, Own.of_eq hO' rfl (by rw [List.range_succ, List.map_append, List.map_append]; rfl), hB.grown hg hsz (fun k hk => Ownv.ob' hO hk)⟩
      case measure => simp [intOf]; omega
    · go_wp2
      go_ret
      obtain rfl : j = 25 := by omega
      exact ⟨_, _, ret_sl rfl rfl rfl, hO, hB⟩
set_option maxHeartbeats 400000 in
theorem poly_3 (w : World) :
    Calls Tryz.prog 168 #[.int .i64 3] w fun e w' => ∃ A c, e = .returned (.slice A 17 c) ∧ Own .u8 5 w' w.heap.size A 17 c ((List.range 17).map fun q => bitOf 69665 (17 - 1 - q)) ∧ Below w.heap.size w w' := by
  go_enter Tryz.func168, Tryz.ntmps168
  go_wp2
  go_loopw [5, 6] (fun out i wr => PolyInv w 17 69665 out i wr) (fun _ i _ => (intOf i + 1).toNat)
  case atStart => exact ⟨0, none, 0, by omega, rfl, by go_num, Own.of_eq (Ownv.nilv 5 w _) rfl rfl, Below.refl _ _⟩
  case round =>
    obtain ⟨j, A, c, hj, rfl, rfl, hO, hB⟩ := hrel
    have hsz := hB.size
    by_cases hlt : j < 17
    · go_wp2_with (at_builtin; refine list_of rfl fun K hK => wp_app1 _ _ 22 rfl el53 rfl (.int .u8 _) rfl rfl hO (by omega) (by omega) (by omega) ?_; intro A' c' w' hO' hg; refine hK _ _ ?_; clear hK K)
      go_wp2
      go_roundw
      case rel => exact ⟨j + 1, A', c', by omega, rfl, by go_num, Own.of_eq hO' rfl (by rw [List.range_succ, List.map_append, List.map_append]; rfl), hB.grown hg hsz (fun k hk => Ownv.ob' hO hk)⟩
      case measure => simp [intOf]; omega
    · go_wp2
      go_ret
      obtain rfl : j = 17 := by omega
      exact ⟨_, _, ret_sl rfl rfl rfl, hO, hB⟩
set_option maxHeartbeats 400000 in
theorem poly_4 (w : World) :
    Calls Tryz.prog 168 #[.int .i64 4] w fun e w' => ∃ A c, e = .returned (.slice A 9 c) ∧ Own .u8 5 w' w.heap.size A 9 c ((List.range 9).map fun q => bitOf 411 (9 - 1 - q)) ∧ Below w.heap.size w w' := by
  go_enter Tryz.func168, Tryz.ntmps168
  go_wp2
  go_loopw [5, 6] (fun out i wr => PolyInv w 9 411 out i wr) (fun _ i _ => (intOf i + 1).toNat)
  case atStart => exact ⟨0, none, 0, by omega, rfl, by go_num, Own.of_eq (Ownv.nilv 5 w _) rfl rfl, Below.refl _ _⟩
  case round =>
    obtain ⟨j, A, c, hj, rfl, rfl, hO, hB⟩ := hrel
    have hsz := hB.size
    by_cases hlt : j < 9
    · go_wp2_with (at_builtin; refine list_of rfl fun K hK => wp_app1 _ _ 22 rfl el53 rfl (.int .u8 _) rfl rfl hO (by omega) (by omega) (by omega) ?_; intro A' c' w' hO' hg; refine hK _ _ ?_; clear hK K)
      go_wp2
      go_roundw
      case rel => exact ⟨j + 1, A', c', by omega, rfl, by go_num, Own.of_eq hO' rfl (by rw [List.range_succ, List.map_append, List.map_append]; rfl), hB.grown hg hsz (fun k hk => Ownv.ob' hO hk)⟩
      case measure => simp [intOf]; omega
    · go_wp2
      go_ret
      obtain rfl : j = 9 := by omega
      exact ⟨_, _, ret_sl rfl rfl rfl, hO, hB⟩

set_option maxHeartbeats 400000 in
theorem poly_out (k : Int) (w : World) (h : ¬ (k = 1 ∨ k = 2 ∨ k = 3 ∨ k = 4)) :
    Calls Tryz.prog 168 #[.int .i64 k] w fun e w' => e = .returned (.slice none 0 0) ∧ w = w' := by
  have h1 : (k == 1) = false := beq_f (by omega)
  have h2 : (k == 2) = false := beq_f (by omega)
  have h3 : (k == 3) = false := beq_f (by omega)
  have h4 : (k == 4) = false := beq_f (by omega)
  go_enter Tryz.func168, Tryz.ntmps168
  go_wp2
  refine wp_loop_rounds 1 ?_
  rw [rounds_succ]
  go_wp2
  go_ret
  exact ⟨rfl, rfl⟩
theorem poly_any (k : Int) (w : World) :
    Calls Tryz.prog 168 #[.int .i64 k] w fun e w' => ∃ A c, e = .returned (.slice A (polyN k) c) ∧ Own .u8 5 w' w.heap.size A (polyN k) c (polyL k) ∧ Below w.heap.size w w' := by
  by_cases h : k = 1 ∨ k = 2 ∨ k = 3 ∨ k = 4
  · rcases h with rfl | rfl | rfl | rfl
    · exact poly_1 w
    · exact poly_2 w
    · exact poly_3 w
    · exact poly_4 w
  · have e : polyN k = 0 := by unfold polyN; repeat (first | rw [if_neg (by omega)] | rfl)
    have e2 : polyL k = [] := by unfold polyL; rw [e]; rfl
    rw [e, e2]
    exact (poly_out k w h).mono fun e w' ⟨he, hw⟩ => ⟨none, 0, he, Own.nilv .u8 5 w' _, by subst hw; exact Below.refl _ _⟩
theorem polyN_cases (k : Int) : polyN k = 0 ∨ 9 ≤ polyN k ∧ polyN k ≤ 25 := by unfold polyN; repeat (split <;> try omega)
def rLen (k : Int) : Int := max 0 ((polyN k : Int) - 1)
set_option maxHeartbeats 400000 in
theorem rlen_any (k : Int) (w : World) : Calls Tryz.prog 143 #[.int .i64 k] w fun e w' => e = .returned (.int .i64 (rLen k)) ∧ Below w.heap.size w w' := by
  have hn := polyN_cases k
  have h1 := poly_any k w
  have H1 := Lib.hid h1; clear h1
  unfold rLen
  generalize polyN k = N at *
  go_enter Tryz.func143, Tryz.ntmps143
  go_wp2_with fail
  refine H1.out.mono ?_
  rintro e w1 ⟨A, c, rfl, hO, hB⟩
  go_wp2
  all_goals (go_ret; exact ⟨ret_int (by omega), hB⟩)
end Go.Proofs.YtpdalbckmfadbaaGreat.Cr

namespace Go.Proofs.YtpdalbckmfadbaaGreat.Cr
open Go.RowKit
set_option linter.unusedVariables false
def xor8 (a b : Int) : Int := bits .xor .u8 a b
def xorStep (g m : List Int) (i q : Nat) : List Int := m.set (i + q) (xor8 (gi m (i + q)) (gi g q))
def innerTo (g m : List Int) (i : Nat) : Nat → List Int
  | 0 => m
  | q + 1 => xorStep g (innerTo g m i q) i q
def outStep (g m : List Int) (i : Nat) : List Int := if gi m i = 1 then innerTo g m i g.length else m
def outTo (g m : List Int) : Nat → List Int
  | 0 => m
  | i + 1 => outStep g (outTo g m i) i
theorem len_innerTo (g m : List Int) (i q : Nat) : (innerTo g m i q).length = m.length := by
  induction q with
  | zero => rfl
  | succ q ih => simp only [innerTo, xorStep, List.length_set, ih]
theorem len_outTo (g m : List Int) (i : Nat) : (outTo g m i).length = m.length := by
  induction i with
  | zero => rfl
  | succ i ih =>
    unfold outTo outStep
    split
    · rw [len_innerTo, ih]
    · exact ih
def refSum (g xs : List Int) : List Int := (outTo g (xs ++ List.replicate (g.length - 1) 0) xs.length).drop xs.length

def OutInv (w1 : World) (g m0 : List Int) (n M : Nat) (Am : Option Addr) (cm : Nat) (i : Value) (wr : World) : Prop :=
  ∃ j : Nat, j ≤ n ∧ i = .int .i64 j ∧ Own .u8 5 wr w1.heap.size Am M cm (outTo g m0 j) ∧ Below w1.heap.size w1 wr
def InInv (w1 : World) (g m1 : List Int) (i N M : Nat) (Am : Option Addr) (cm : Nat) (k : Value) (wr : World) : Prop :=
  ∃ j : Nat, j ≤ N ∧ k = .int .i64 j ∧ Own .u8 5 wr w1.heap.size Am M cm (innerTo g m1 i j) ∧ Below w1.heap.size w1 wr
set_option maxHeartbeats 800000 in
set_option maxRecDepth 100000 in
theorem rcompute_ok (k : Int) (A : Option Addr) (n c : Nat) (xs : List Int) (w : World) (hx : Rd .u8 w A n c xs) (hn : n ≤ 100000) (hk : polyN k ≠ 0) (hv : ValidB xs = true) :
    Calls Tryz.prog 145 #[.int .i64 k, .slice A n c] w fun e w' => ∃ A' c', e = .returned (.tuple #[.slice A' (polyN k - 1) c', .int .i64 0]) ∧ Rd .u8 w' A' (polyN k - 1) c' (refSum (polyL k) xs) ∧ Below w.heap.size w w' := by
  have hN := polyN_cases k
  have h1 := Lib.hid (poly_any k w)
  have hgl : (polyL k).length = polyN k := by simp [polyL]
  have HGL := Lib.hid hgl; clear hgl
  generalize polyN k = N at *
  generalize polyL k = g at *
  have hN9 : 9 ≤ N ∧ N ≤ 25 := by omega
  clear hN hk
  have hb0 : ((N : Int) == 0) = false := beq_f (by omega)
  go_enter Tryz.func145, Tryz.ntmps145
  go_wp2_with fail
  refine h1.out.mono ?_
  rintro e w1 ⟨Ag, cg, rfl, hOg, hB1⟩
  have hx1 := Rdv.below hx hB1
  have hg1 := hOg.rd
  go_wp2_with (first
    | (go_at_call 144; refine (valid_any A n c xs w1 hx1).mono ?_; rintro e w' ⟨rfl, rfl⟩)
    | (at_builtin; refine list_of rfl fun K hK => wp_app0 _ _ 22 rfl el53 rfl rfl hx1 (oneCell_ints .u8 xs) (by omega) ?_; intro A1 c1 w2 hO1 hg2; refine hK _ _ ?_; clear hK K)
    | (at_builtin; refine list_of rfl fun K hK => wp_appz _ _ 22 3 rfl el53 (kn := .i64) (by kernel_rfl) rfl (N - 1) rfl rfl (by omega) hO1 (by omega) (by omega) hg2.size ?_; intro Am cm w3 hO2 hg3; refine hK _ _ ?_; clear hK K))
  generalize hm0 : xs ++ List.replicate (N - 1) 0 = m0 at *
  have hO3 : Own .u8 5 w3 w1.heap.size Am (n + (N - 1)) cm m0 := Own.of_eq hO2 rfl (by rw [← hm0]; simp)
  have hB3 : Below w1.heap.size w1 w3 := hg2.grown hg3 hg2.size (fun k hk => Ownv.ob' hO1 hk)
  have HM0 := Lib.hid hm0; clear hm0 hO2 hg3 hg2 hO1
  go_loopw [8] (fun i wr => OutInv w1 g m0 n (n + (N - 1)) Am cm i wr) (fun i _ => n - (intOf i).toNat)
  case atStart => exact ⟨0, by omega, rfl, hO3, hB3⟩
  case round =>
    obtain ⟨i, hi, rfl, hO, hB⟩ := hrel
    by_cases hlt : i < n
    · have hix := fun W => Rdv.ix (Own.rd hO) el53 (show i < n + (N - 1) by omega) .i64 W
      have hcell := Rd.cell (Own.rd hO) (show i < n + (N - 1) by omega)
      have HS : Hid (outTo g m0 (i + 1) = outStep g (outTo g m0 i) i) := rfl
      generalize outTo g m0 i = m1 at *
      by_cases h1 : gi m1 i = 1
      · have h1' := beq_t h1
        have H1 := Lib.hid h1; clear h1
        go_wp2
        go_loopw [9] (fun k wr => InInv w1 g m1 i N (n + (N - 1)) Am cm k wr) (fun k _ => N - (intOf k).toNat)
        case atStart => exact ⟨0, by omega, rfl, hO, hB⟩
        case round =>
          obtain ⟨q, hq, rfl, hOq, hBq⟩ := hrel
          by_cases hlq : q < N
          · have hix2 := fun W => Rdv.ixI (Own.rd hOq) el53 (show i + q < n + (N - 1) by omega) .i64 ((i : Int) + (q : Int)) (by omega) W
            have hcell2 := Rd.cell (Own.rd hOq) (show i + q < n + (N - 1) by omega)
            have hgq := Rdv.below hg1 hBq
            have hix3 := fun W => Rdv.ix hgq el53 hlq .i64 W
            have hcell3 := Rd.cell hgq hlq
            have hw : IntKind.i64.wrap ((i : Int) + (q : Int)) = (i : Int) + (q : Int) := IntWalk.i64_in _ (by omega)
            have hfz := Ownv.frozen hOq (show 0 < cm by have := Rdv.le (Own.rd hOq); omega) (i + q)
            have hset := Own.set_ hOq (show i + q < n + (N - 1) by omega) (xor8 (gi (innerTo g m1 i q) (i + q)) (gi g q))
            have HSET := Lib.hid hset; clear hset
            go_wp2
            go_still_tail 16, (by kernel_rfl)
            simp only [World.drew_eq]
            go_wp2
            go_roundw
            case rel => exact ⟨q + 1, by omega, by go_num, Ownv.drew HSET.out.1, (hBq.grown HSET.out.2 hBq.size (fun k hk => by injection hk with hk; rw [← hk]; exact (Ownv.blk_ge hOq (by have := Rdv.le (Own.rd hOq); omega)).1)).drew⟩
            case measure => simp [intOf]; omega
          · obtain rfl : q = N := by omega
            go_wp2
            go_roundw
            case rel => exact ⟨i + 1, by omega, by go_num, by rw [HS.out, outStep, if_pos H1.out, HGL.out]; exact hOq, hBq⟩
            case measure => simp [intOf]; omega
      · have h1' := beq_f h1
        have H1 := Lib.hid h1; clear h1
        go_wp2
        go_roundw
        case rel => exact ⟨i + 1, by omega, by go_num, by rw [HS.out, outStep, if_neg H1.out]; exact hO, hB⟩
        case measure => simp [intOf]; omega
    · obtain rfl : i = n := by omega
      have hsl := fun W => Rdv.sll (Own.rd hO) el53 .i64 (show i ≤ i + (N - 1) by omega) W
      go_wp2
      go_ret2
      have hr := Rd.cut_ (Own.rd hO) (l := i) (m := i + (N - 1)) (by omega) (Nat.le_refl _)
      have hl := Rd.len (Own.rd hO)
      have hxl := hx.len
      rw [show i + (N - 1) - i = N - 1 by omega, List.take_of_length_le (by omega)] at hr
      refine ⟨cut Am cm i, cm - i, rfl, ?_, hB1.trans (hB.mono hB1.size)⟩
      unfold refSum
      rw [hxl, HGL.out, HM0.out]
      exact hr

def refErr (k : Int) (xs : List Int) : Int := if polyN k = 0 then 2 else if ValidB xs = true then 0 else 3
def refRes (k : Int) (xs : List Int) : List Int := if polyN k = 0 then [] else if ValidB xs = true then refSum (polyL k) xs else []
theorem refSum_len {g xs : List Int} (hg : 1 ≤ g.length) : (refSum g xs).length = g.length - 1 := by
  simp only [refSum, List.length_drop, len_outTo, List.length_append, List.length_replicate]; omega
theorem polyL_len (k : Int) : (polyL k).length = polyN k := by simp [polyL]
set_option maxHeartbeats 400000 in
theorem rcompute_any (k : Int) (A : Option Addr) (n c : Nat) (xs : List Int) (w : World) (hx : Rd .u8 w A n c xs) (hn : n ≤ 100000) :
    Calls Tryz.prog 145 #[.int .i64 k, .slice A n c] w fun e w' => ∃ A' n' c', e = .returned (.tuple #[.slice A' n' c', .int .i64 (refErr k xs)]) ∧ Rd .u8 w' A' n' c' (refRes k xs) ∧ Below w.heap.size w w' := by
  have hN := polyN_cases k
  by_cases h0 : polyN k = 0
  · have h1 := Lib.hid (poly_any k w)
    have e1 : refErr k xs = 2 := by rw [refErr, if_pos h0]
    have e2 : refRes k xs = [] := by rw [refRes, if_pos h0]
    rw [e1, e2]
    rw [h0] at h1
    clear e1 e2 h0 hN
    go_enter Tryz.func145, Tryz.ntmps145
    go_wp2_with fail
    refine h1.out.mono ?_
    rintro e w1 ⟨Ag, cg, rfl, hOg, hB1⟩
    go_wp2
    go_ret2
    exact ⟨none, 0, 0, rfl, Rd.nilv _ _, hB1⟩
  · by_cases hv : ValidB xs = true
    · have e1 : refErr k xs = 0 := by rw [refErr, if_neg h0, if_pos hv]
      have e2 : refRes k xs = refSum (polyL k) xs := by rw [refRes, if_neg h0, if_pos hv]
      rw [e1, e2]
      exact (rcompute_ok k A n c xs w hx hn h0 hv).mono fun e w' ⟨A', c', h⟩ => ⟨A', _, c', h⟩
    · have h1 := Lib.hid (poly_any k w)
      have e1 : refErr k xs = 3 := by rw [refErr, if_neg h0, if_neg hv]
      have e2 : refRes k xs = [] := by rw [refRes, if_neg h0, if_neg hv]
      have hv' : ValidB xs = false := by simpa using hv
      rw [e1, e2]
      clear e1 e2 hv
      generalize polyN k = N at *
      have hb0 : ((N : Int) == 0) = false := beq_f (by omega)
      go_enter Tryz.func145, Tryz.ntmps145
      go_wp2_with fail
      refine h1.out.mono ?_
      rintro e w1 ⟨Ag, cg, rfl, hOg, hB1⟩
      have hx1 := Rdv.below hx hB1
      go_wp2_with (go_at_call 144; refine (valid_any A n c xs w1 hx1).mono ?_; rintro e w' ⟨rfl, rfl⟩)
      go_ret2
      exact ⟨none, 0, 0, rfl, Rd.nilv _ _, hB1⟩
end Go.Proofs.YtpdalbckmfadbaaGreat.Cr

