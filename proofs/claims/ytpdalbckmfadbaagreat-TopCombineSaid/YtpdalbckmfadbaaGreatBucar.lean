/-
  Bundle of the texts Ig CrT3 CrT4 CrT5 CrT6 CrT7 CrT8a. Conditions: none.
-/
import Derived.Test.YtpdalbckmfadbaaGreatBucaq
import Derived.Test.YtpdalbckmfadbaaGreatProg
import Derived.Test.YtpdalbckmfadbaaGreatBucaa
import Derived.Deep.QuietTactic
namespace Go.Proofs.YtpdalbckmfadbaaGreat
open Go.RowKit
set_option linter.unusedVariables false
attribute [local go_sem] Oper.semAt_some
theorem cloneI_any (A : Option Addr) (n c : Nat) (xs : List Int) (w : World) (h : Rd .i64 w A n c xs) (hn : n ≤ 1000000) :
    Calls Tryz.prog 48 #[.slice A n c] w fun e w' => ∃ A' c', e = .returned (.slice A' n c') ∧ Own .i64 3 w' w.heap.size A' n c' xs ∧ Below w.heap.size w w' := by
  have e1 := fun W => Lib.run_eql_slice_nil (P := Tryz.prog) W 34 3 A n c 0 0 el22.u
  cases A with
  | none =>
    have hc := h.nil rfl
    have hnc := h.le
    obtain rfl : n = 0 := by omega
    subst hc
    obtain rfl : xs = [] := List.eq_nil_of_length_eq_zero h.len
    go_enter Tryz.func48, Tryz.ntmps48
    go_wp2
    go_ret
    exact ⟨none, 0, rfl, Own.nilv .i64 3 w _, Below.refl _ _⟩
  | some ad =>
    have h1 := Rdv.alloc h (.cells #[] 3)
    have hO0 : Ownv 3 (w.alloc (.cells #[] 3)) w.heap.size (some ⟨w.heap.size, 0, none⟩) 0 0 [] := Ownv.lit w #[] 3 rfl (Nat.le_refl _) (Nat.zero_le _)
    go_enter Tryz.func48, Tryz.ntmps48
    go_wp2_with (at_builtin; refine list_of rfl fun K hK => wp_app _ _ 34 rfl el22 rfl rfl hO0 h1 (oneCell_ints .i64 xs) (by omega) (by unfold maxLen; omega) (by simp) ?_; intro A' c' w' hO hg; refine hK _ _ ?_; clear hK K)
    go_ret
    exact ⟨A', c', ret_sl rfl rfl rfl, Own.of_eq hO (Nat.zero_add n) (List.nil_append _), (Below.refl _ _).grown (grownBy_of_alloc hg) (Nat.le_refl _) (by simp [Value.ownBlock])⟩
theorem own_ne_top {k : IntKind} {e : TypeId} {w : World} {base : Nat} {A : Option Addr} {n c : Nat} {xs : List Int} (h : Own k e w base A n c xs) : A ≠ none → blk A ≠ w.heap.size := by
  intro hA
  obtain ⟨-, g1⟩ := Ownv.cases h
  rcases g1 with ⟨h1, -⟩ | ⟨g, cur, h1, -, hh, -⟩
  · exact absurd h1 hA
  · subst h1
    have h9 := heap_lt' hh
    show g ≠ w.heap.size
    omega
theorem rd_ne_top {k : IntKind} {w : World} {A : Option Addr} {n c : Nat} {xs : List Int} (h : Rd k w A n c xs) (hn : 0 < n) : A ≠ none → blk A ≠ w.heap.size := by
  intro hA
  have hle := Rdv.le h
  obtain ⟨b, o, rfl, hb⟩ := Rdv.ptr h (by omega)
  show b ≠ w.heap.size
  omega
/-- the error of the arguments -/
def wrE (vs : List Int) (kind most : Int) : Int := if vs.length % 3 ≠ 0 ∨ Tu.validK ((vs.length : Int) / 3 - 4) = false ∨ kind < 0 ∨ 4 < kind ∨ most < 1 ∨ 64 < most then 2 else if SoftB vs = true then 0 else 6
/-- where a new decoder lies -/
def BgX (k : Nat) (vs : List Int) (w1 : World) (v6 v7 : Value) (wx : World) : Prop :=
  v7 = .int .i64 0 ∧ ∃ D V vc O oc I ic A ac, v6 = .pointer (some ⟨D, 0, none⟩) ∧ DS wx D k vs (List.replicate k 0) [] 0 V vc O oc I ic A ac none 0 0 ∧ w1.heap.size ≤ D ∧ Below w1.heap.size w1 wx
def BgP (k : Nat) (vs : List Int) (w : World) (e : Ending) (w' : World) : Prop :=
  ∃ D V vc O oc I ic A ac, e = .returned (.tuple #[.pointer (some ⟨D, 0, none⟩), .int .i64 0]) ∧ DS w' D k vs (List.replicate k 0) [] 0 V vc O oc I ic A ac none 0 0 ∧ w.heap.size ≤ D ∧ Below w.heap.size w w'
set_option maxRecDepth 100000 in
set_option maxHeartbeats 1000000 in
theorem begun_bad (S : Option Addr) (n cs : Nat) (vs : List Int) (kind most : Int) (w : World) (h : Rd .i64 w S n cs vs) (hn : n ≤ 100000) (hw : vs.length % 3 ≠ 0 ∨ Tu.validK ((vs.length : Int) / 3 - 4) = false ∨ kind < 0 ∨ 4 < kind ∨ most < 1 ∨ 64 < most) :
    Calls Tryz.prog 49 #[.slice S n cs, .int .i64 kind, .int .i64 most] w fun e w' => e = .returned (.tuple #[.pointer none, .int .i64 2]) ∧ Below w.heap.size w w' := by
  have hl := Rd.len h
  rw [hl] at hw
  have HSZ := Lib.hid (fun W => size_any S n cs W (by omega))
  have HV := Lib.hid (fun W => Tu.valid_any ((n : Int) / 3 - 4) W)
  obtain ⟨r, hr⟩ : ∃ r : Nat, r = n % 3 := ⟨_, rfl⟩
  have a1 : (n : Int).tmod 3 = (r : Int) := by rw [Int.tmod_eq_emod_of_nonneg (by omega), hr]; omega
  have a2 : (n : Int) % 3 = (r : Int) := by rw [hr]; omega
  rw [← hr] at hw
  generalize Tu.validK ((n : Int) / 3 - 4) = vb at *
  generalize (n : Int) / 3 - 4 = kk at *
  clear hr hl
  rcases (by
    by_cases c1 : r ≠ 0
    · exact .inl c1
    · have c1 : r = 0 := by omega
      by_cases c2 : vb = false
      · exact .inr (.inl ⟨c1, c2⟩)
      · have c2 : vb = true := by simpa using c2
        by_cases c3 : kind < 0
        · exact .inr (.inr (.inl ⟨c1, c2, c3⟩))
        · by_cases c4 : 4 < kind
          · exact .inr (.inr (.inr (.inl ⟨c1, c2, by omega, c4⟩)))
          · by_cases c5 : most < 1
            · exact .inr (.inr (.inr (.inr (.inl ⟨c1, c2, by omega, by omega, c5⟩))))
            · refine .inr (.inr (.inr (.inr (.inr ⟨c1, c2, by omega, by omega, by omega, ?_⟩))))
              rcases hw with h | h | h | h | h | h
              · omega
              · rw [h] at c2; cases c2
              · omega
              · omega
              · omega
              · exact h : r ≠ 0 ∨ (r = 0 ∧ vb = false) ∨ (r = 0 ∧ vb = true ∧ kind < 0) ∨ (r = 0 ∧ vb = true ∧ 0 ≤ kind ∧ 4 < kind) ∨ (r = 0 ∧ vb = true ∧ 0 ≤ kind ∧ kind ≤ 4 ∧ most < 1) ∨ (r = 0 ∧ vb = true ∧ 0 ≤ kind ∧ kind ≤ 4 ∧ 1 ≤ most ∧ 64 < most)) with h1 | ⟨h1, rfl⟩ | ⟨h1, rfl, h3⟩ | ⟨h1, rfl, h3, h4⟩ | ⟨h1, rfl, h3, h4, h5⟩ | ⟨h1, rfl, h3, h4, h5, h6⟩ <;> clear hw
  case' inl => have q1 : ((r : Int) != 0) = true := bne_t (by omega)
  case' inr.inl => have q1 : ((r : Int) != 0) = false := bne_f (by omega)
  case' inr.inr.inl => have q1 : ((r : Int) != 0) = false := bne_f (by omega)
  case' inr.inr.inr.inl => have q1 : ((r : Int) != 0) = false := bne_f (by omega)
  case' inr.inr.inr.inr.inl => have q1 : ((r : Int) != 0) = false := bne_f (by omega)
  case' inr.inr.inr.inr.inr => have q1 : ((r : Int) != 0) = false := bne_f (by omega)
  all_goals
    clear h1
    go_enter Tryz.func49, Tryz.ntmps49
    go_wp2_with fail
    refine wp_scope_fwd 0 rfl ?_
    go_wp2_with (first
      | (go_at_call 86; refine (HSZ.out _).mono ?_; rintro e w0 ⟨rfl, rfl⟩)
      | (go_at_call 27; refine (HV.out _).mono ?_; rintro e w0 ⟨rfl, hB0⟩))
    go_step3
    refine ⟨rfl, ?_⟩
    go_wp2
    simp only [Exit.jump]
    go_ret2
    exact ⟨rfl, by first | exact Below.refl _ _ | assumption⟩
set_option maxRecDepth 100000 in
set_option maxHeartbeats 1000000 in
theorem begun_soft (S : Option Addr) (n cs : Nat) (vs : List Int) (kind most : Int) (w : World) (h : Rd .i64 w S n cs vs) (hn : n ≤ 100000) (h3 : n % 3 = 0) (hv : Tu.validK ((n : Int) / 3 - 4) = true) (hk : 0 ≤ kind ∧ kind ≤ 4) (hm : 1 ≤ most ∧ most ≤ 64) (hs : SoftB vs = false) :
    Calls Tryz.prog 49 #[.slice S n cs, .int .i64 kind, .int .i64 most] w fun e w' => e = .returned (.tuple #[.pointer none, .int .i64 6]) ∧ Below w.heap.size w w' := by
  have HSZ := Lib.hid (fun W => size_any S n cs W (by omega))
  have HV := Lib.hid (fun W => Tu.valid_any ((n : Int) / 3 - 4) W)
  have HC := Lib.hid (fun W h => bcont_any S n cs vs W h)
  rw [hs, Bool.not_false] at HC
  rw [hv] at HV
  have HH := Lib.hid h
  have a1 : (n : Int).tmod 3 = 0 := by rw [Int.tmod_eq_emod_of_nonneg (by omega)]; omega
  have a2 : (n : Int) % 3 = 0 := by omega
  have b1 : decide (kind < 0) = false := by simp; omega
  have b2 : decide (kind > 4) = false := by simp; omega
  have b3 : decide (most < 1) = false := by simp; omega
  have b4 : decide (most > 64) = false := by simp; omega
  generalize (n : Int) / 3 - 4 = kk at *
  clear h3 hv h hs
  go_enter Tryz.func49, Tryz.ntmps49
  go_wp2_with fail
  refine wp_scope_fwd 0 rfl ?_
  go_wp2_with (first
    | (go_at_call 86; refine (HSZ.out _).mono ?_; rintro e w0 ⟨rfl, rfl⟩)
    | (go_at_call 27; refine (HV.out _).mono ?_; rintro e w0 ⟨rfl, hB0⟩; have HB0 := Lib.hid hB0; have HH0 := Lib.hid (Rdv.below HH.out hB0); clear hB0)
    | (go_at_call 80; refine (HC.out _ HH0.out).mono ?_; rintro e w1 ⟨rfl, rfl⟩))
  go_step3
  refine ⟨rfl, ?_⟩
  go_wp2
  simp only [Exit.jump]
  go_ret2
  exact ⟨rfl, HB0.out⟩
set_option maxRecDepth 100000 in
set_option maxHeartbeats 2000000 in
theorem begun_ok (S : Option Addr) (k cs : Nat) (vs : List Int) (kind most : Int) (w : World) (h : Rd .i64 w S (3 * (k + 4)) cs vs) (hv : Tu.validK (k : Int) = true) (hk : 0 ≤ kind ∧ kind ≤ 4) (hm : 1 ≤ most ∧ most ≤ 64) (hs : SoftB vs = true) :
    Calls Tryz.prog 49 #[.slice S (3 * (k + 4)) cs, .int .i64 kind, .int .i64 most] w (BgP k vs w) := by
  have hkb := Tu.valid_bd hv
  have hk0 : 0 < k := by omega
  have hk9 : k ≤ 6144 := by omega
  have hvl : (((3 * (k + 4) : Nat) : Int)) / 3 - 4 = (k : Int) := by omega
  have HSZ := Lib.hid (fun W => size_any S (3 * (k + 4)) cs W (by omega))
  rw [hvl] at HSZ
  have HV := Lib.hid (fun W => Tu.valid_any (k : Int) W)
  rw [hv] at HV
  have HC := Lib.hid (fun W h => bcont_any S (3 * (k + 4)) cs vs W h)
  rw [hs, Bool.not_true] at HC
  have HOR := Lib.hid (fun W => Tu.order_any (k : Int) W)
  have HIN := Lib.hid (fun W => Tu.inverse_any (k : Int) W)
  rw [show Tu.permE (k : Int) = 0 from by unfold Tu.permE; rw [if_pos hv], show Tu.ordR (k : Int) = Tu.ordL k from by unfold Tu.ordR; rw [if_pos hv, Int.toNat_natCast]] at HOR
  rw [show Tu.permE (k : Int) = 0 from by unfold Tu.permE; rw [if_pos hv], show Tu.invR (k : Int) = Tu.invL k from by unfold Tu.invR; rw [if_pos hv, Int.toNat_natCast]] at HIN
  have HH := Lib.hid h
  have a1 : ((3 * (k + 4) : Nat) : Int).tmod 3 = 0 := by rw [Int.tmod_eq_emod_of_nonneg (by omega)]; omega
  have a2 : ((3 * (k + 4) : Nat) : Int) % 3 = 0 := by omega
  have b1 : decide (kind < 0) = false := by simp; omega
  have b2 : decide (kind > 4) = false := by simp; omega
  have b3 : decide (most < 1) = false := by simp; omega
  have b4 : decide (most > 64) = false := by simp; omega
  clear hv h hs hkb
  go_enter Tryz.func49, Tryz.ntmps49
  go_wp2_with fail
  go_step3
  go_wp2_with (first
    | (go_at_call 86; refine (HSZ.out _).mono ?_; rintro e w0 ⟨rfl, rfl⟩)
    | (go_at_call 27; refine (HV.out _).mono ?_; rintro e w0 ⟨rfl, hB0⟩; have HB0 := Lib.hid hB0; have HH0 := Lib.hid (Rdv.below HH.out hB0); clear hB0)
    | (go_at_call 80; refine (HC.out _ HH0.out).mono ?_; rintro e w1 ⟨rfl, rfl⟩)
    | (go_at_call 88; refine (HOR.out _).mono ?_; rintro e w2 ⟨O, on, rfl, hO, hB2⟩; have hon := Rd.len (Own.rd hO); rw [Tu.ordL_len] at hon; subst hon; have HO2 := Lib.hid (Own.rd hO); have HH2 := Lib.hid (Rdv.below HH0.out hB2); have HB2 := Lib.hid (HB0.out.trans (hB2.mono HB0.out.size)); clear hO hB2)
    | (go_at_call 89; refine (HIN.out _).mono ?_; rintro e w1 ⟨I, im, rfl, hI, hB1⟩; have him := Rd.len (Own.rd hI); rw [inv_len] at him; subst him; have HI1 := Lib.hid (Own.rd hI); have HO1 := Lib.hid (Rdv.below HO2.out hB1); have HH1 := Lib.hid (Rdv.below HH2.out hB1); have HB1 := Lib.hid (HB2.out.trans (hB1.mono HB2.out.size)); clear hI hB1))
  have HCL := Lib.hid (fun W (hW : Below w1.heap.size w1 W) => cloneI_any S (3 * (k + 4)) cs vs W (Rdv.below HH1.out hW) (by omega))
  have HS : Hid (Below w1.heap.size w1 w1.drew) := Lib.hid (Below.refl _ _).drew
  clear HOR HIN HC HV HSZ a1 a2 b1 b2 b3 b4 HH HH0 HH2 HO2 HB0 HB2
  go_cut [6, 7] from 50 to 57 (fun v6 v7 wx => BgX k vs w1 v6 v7 wx)
  case first =>
    refine Q_start (fun W => Below w1.heap.size w1 W) 7 10 ?_
    refine Q_W 0 50 1 (.slice S (3 * (k + 4)) cs) rfl HS.out ?_
    simp only [z0, z1, z2]
    refine Q_W 2 52 5 (.slice O k k) rfl HS.out ?_
    simp only [z0, z1, z2]
    refine Q_W 3 53 13 (.slice I k k) rfl HS.out ?_
    simp only [z0, z1, z2]
    refine Q_W 4 54 29 (.int .i64 (k : Int)) rfl HS.out ?_
    simp only [z0, z1, z2]
    generalize w1.drew = wd at *
    refine Q_2S 1 5 31 61 rfl rfl (fun K hK => ?_) (fun K hK => ?_)
    · go_simp
      refine (HCL.out wd HS.out).mono ?_
      rintro e wa ⟨V, vc, rfl, hV, hB1⟩
      have HV := Lib.hid hV
      have HSc := Lib.hid (HS.out.trans (hB1.mono HS.out.size))
      clear hB1 hV
      refine hK _ _ HSc.out ?_
      clear hK K
      refine Q_1S 5 63 rfl (fun K hK => ?_)
      refine wp_mkd 55 (.tmp 54) (.tmp 54) 34 rfl rfl el22 rfl rfl (by omega) (by unfold maxLen; omega) ?_
      intro A wb hA hB1 hA0
      have HA : Hid (Own .i64 3 wb wa.heap.size A k k (List.replicate k 0)) := Lib.hid (by unfold Own; simpa using hA)
      have HV := Lib.hid (Ownv.below HV.out hB1)
      have HScm := Lib.hid (HSc.out.trans (hB1.mono HSc.out.size))
      clear hB1 hA hA0
      refine hK _ _ HScm.out ?_
      clear hK K
      simp only [z0, z1, z2]
      refine Q_W 6 56 127 (.agg #[.slice V (3 * (k + 4)) vc, .slice O k k, .slice I k k, .slice A k k, .slice none 0 0, .int .i64 0]) rfl HScm.out ?_
      simp only [z0, z1, z2]
      refine Q_1 7 255 rfl (fun K hK => ?_)
      go_simp
      have HF : Hid (BgX k vs w1 (.pointer (some ⟨wb.heap.size, 0, none⟩)) (.int .i64 0) (wb.alloc (.cells #[.slice V (3 * (k + 4)) vc, .slice O k k, .slice I k k, .slice A k k, .slice none 0 0, .int .i64 0] 97))) := Lib.hid ⟨rfl, wb.heap.size, V, vc, O, k, I, k, A, k, rfl, ⟨Blk.new wb [.slice V (3 * (k + 4)) vc, .slice O k k, .slice I k k, .slice A k k, .slice none 0 0, .int .i64 0] 97 rfl, Rdv.alloc (Own.rd HV.out) _, Rdv.alloc (Rdv.below HO1.out HScm.out) _, Rdv.alloc (Rdv.below HI1.out HScm.out) _, Rdv.alloc (Own.rd HA.out) _, Rd.nilv .u8 _, own_ne_top HV.out, rd_ne_top (Rdv.below HO1.out HScm.out) hk0, rd_ne_top (Rdv.below HI1.out HScm.out) hk0, own_ne_top HA.out, fun h => absurd rfl h⟩, HScm.out.size, HScm.out.alloc HScm.out.size _⟩
      refine hK _ _ ?_
      clear hK K
      refine Q_1 8 511 rfl (fun K hK => ?_)
      go_simp
      refine hK _ _ ?_
      clear hK K
      refine Q_1 9 1023 rfl (fun K hK => ?_)
      go_simp
      refine hK _ _ ?_
      clear hK K
      refine Q_end ?_
      go_wp2_with fail
      go_meet
      exact HF.out
    · refine wp_mkd 55 (.tmp 54) (.tmp 54) 34 rfl rfl el22 rfl rfl (by omega) (by unfold maxLen; omega) ?_
      intro A wa hA hB1 hA0
      have HA : Hid (Own .i64 3 wa wd.heap.size A k k (List.replicate k 0)) := Lib.hid (by unfold Own; simpa using hA)
      have HSm := Lib.hid (HS.out.trans (hB1.mono HS.out.size))
      clear hB1 hA hA0
      refine hK _ _ HSm.out ?_
      clear hK K
      simp only [z0, z1, z2]
      refine Q_1S 1 63 rfl (fun K hK => ?_)
      go_simp
      refine (HCL.out wa HSm.out).mono ?_
      rintro e wb ⟨V, vc, rfl, hV, hB1⟩
      have HV := Lib.hid hV
      have HA := Lib.hid (Ownv.below HA.out hB1)
      have HSmc := Lib.hid (HSm.out.trans (hB1.mono HSm.out.size))
      clear hB1 hV
      refine hK _ _ HSmc.out ?_
      clear hK K
      refine Q_W 6 56 127 (.agg #[.slice V (3 * (k + 4)) vc, .slice O k k, .slice I k k, .slice A k k, .slice none 0 0, .int .i64 0]) rfl HSmc.out ?_
      simp only [z0, z1, z2]
      refine Q_1 7 255 rfl (fun K hK => ?_)
      go_simp
      have HF : Hid (BgX k vs w1 (.pointer (some ⟨wb.heap.size, 0, none⟩)) (.int .i64 0) (wb.alloc (.cells #[.slice V (3 * (k + 4)) vc, .slice O k k, .slice I k k, .slice A k k, .slice none 0 0, .int .i64 0] 97))) := Lib.hid ⟨rfl, wb.heap.size, V, vc, O, k, I, k, A, k, rfl, ⟨Blk.new wb [.slice V (3 * (k + 4)) vc, .slice O k k, .slice I k k, .slice A k k, .slice none 0 0, .int .i64 0] 97 rfl, Rdv.alloc (Own.rd HV.out) _, Rdv.alloc (Rdv.below HO1.out HSmc.out) _, Rdv.alloc (Rdv.below HI1.out HSmc.out) _, Rdv.alloc (Own.rd HA.out) _, Rd.nilv .u8 _, own_ne_top HV.out, rd_ne_top (Rdv.below HO1.out HSmc.out) hk0, rd_ne_top (Rdv.below HI1.out HSmc.out) hk0, own_ne_top HA.out, fun h => absurd rfl h⟩, HSmc.out.size, HSmc.out.alloc HSmc.out.size _⟩
      refine hK _ _ ?_
      clear hK K
      refine Q_1 8 511 rfl (fun K hK => ?_)
      go_simp
      refine hK _ _ ?_
      clear hK K
      refine Q_1 9 1023 rfl (fun K hK => ?_)
      go_simp
      refine hK _ _ ?_
      clear hK K
      refine Q_end ?_
      go_wp2_with fail
      go_meet
      exact HF.out
  case rest =>
    obtain ⟨rfl, D, V, vc, O2, oc, I2, ic, A, ac, rfl, hDS, hD, hB⟩ := hcut
    have HDS := Lib.hid hDS
    have HDl := Lib.hid (Nat.le_trans HB1.out.size hD)
    have HBF := Lib.hid (HB1.out.trans (hB.mono HB1.out.size))
    clear hDS hD hB
    go_wp2
    rw [Exit.noGoto_ret]
    go_ret2
    exact ⟨D, V, vc, O2, oc, I2, ic, A, ac, rfl, HDS.out, HDl.out, HBF.out⟩
end Go.Proofs.YtpdalbckmfadbaaGreat

namespace Go.Proofs.YtpdalbckmfadbaaGreat.Cr
open Go.RowKit
set_option linter.unusedVariables false
theorem el53 : El Tryz.prog 22 5 (.int .u8 0) 1 := ⟨by kernel_rfl, by kernel_rfl, fun _ => by kernel_rfl, rfl⟩


def SameInv (w : World) (n : Nat) (xs ys : List Int) (i : Value) (wr : World) : Prop := ∃ j : Nat, j ≤ n ∧ i = .int .i64 j ∧ (∀ q, q < j → gi xs q = gi ys q) ∧ Qt w wr
/-- append(nil, b...) -/
def ValidB (xs : List Int) : Bool := xs.all (fun x => decide (x ≤ 1))
def ValidInv (n : Nat) (xs : List Int) (i : Value) : Prop := ∃ j : Nat, j ≤ n ∧ i = .int .i64 j ∧ ∀ q, q < j → gi xs q ≤ 1
theorem validB_f {xs : List Int} {j : Nat} (hj : j < xs.length) (h : 1 < gi xs j) : ValidB xs = false := by
  rw [Bool.eq_false_iff]; intro hh
  have := all_gi.1 hh j hj
  simp at this; omega
theorem validB_t {xs : List Int} (h : ∀ q, q < xs.length → gi xs q ≤ 1) : ValidB xs = true := all_gi.2 fun j hj => by simpa using h j hj
set_option maxHeartbeats 400000 in
theorem valid_any (A : Option Addr) (n c : Nat) (xs : List Int) (w : World) (h : Rd .u8 w A n c xs) :
    Calls Tryz.prog 144 #[.slice A n c] w fun e w' => e = .returned (.bool (ValidB xs)) ∧ w = w' := by
  have hbd := h.bd.1
  go_enter Tryz.func144, Tryz.ntmps144
  go_wp2
  go_loop [3] (fun i => ValidInv n xs i) (fun i => n - (intOf i).toNat)
  case atStart => exact ⟨0, by omega, rfl, by intro q hq; omega⟩
  case round =>
    obtain ⟨j, hj, rfl, hv⟩ := hrel
    by_cases hlt : j < n
    · have hc := Rd.cell h hlt
      have hix := fun W => Rdv.ix h el53 hlt .i64 W
      have HV := Lib.hid hv; clear hv
      by_cases h1 : gi xs j ≤ 1
      · have h1' : ¬ 1 < gi xs j := by omega
        go_wp2
        go_round
        case rel => exact ⟨j + 1, by omega, by go_num, fun q hq => lt_succ_cases HV.out h1 q hq⟩
        case measure => simp [intOf]; omega
      · have h1' : 1 < gi xs j := by omega
        have hf := Lib.hid (validB_f (by rw [h.len]; exact hlt) h1')
        go_wp2
        go_ret
        exact ⟨ret_bool hf.out.symm, rfl⟩
    · have hf := Lib.hid (validB_t (xs := xs) (by rw [h.len]; intro q hq; exact hv q (by omega)))
      go_wp2
      go_ret
      exact ⟨ret_bool hf.out.symm, rfl⟩

/-! ### Poly -/
def polyV (k : Int) : Int := if k = 1 then 0x1864cfb else if k = 2 then 0x1800063 else if k = 3 then 0x11021 else if k = 4 then 0x19b else 0
end Go.Proofs.YtpdalbckmfadbaaGreat.Cr

namespace Go.Proofs.YtpdalbckmfadbaaGreat.Cr
open Go.RowKit
set_option linter.unusedVariables false
def xor8 (a b : Int) : Int := bits .xor .u8 a b
def xorStep (g m : List Int) (i q : Nat) : List Int := m.set (i + q) (xor8 (gi m (i + q)) (gi g q))
def innerTo (g m : List Int) (i : Nat) : Nat → List Int
  | 0 => m
  | q + 1 => xorStep g (innerTo g m i q) i q
def outStep (g m : List Int) (i : Nat) : List Int := if gi m i = 1 then innerTo g m i g.length else m
def outTo (g m : List Int) : Nat → List Int
  | 0 => m
  | i + 1 => outStep g (outTo g m i) i
def OutInv (w1 : World) (g m0 : List Int) (n M : Nat) (Am : Option Addr) (cm : Nat) (i : Value) (wr : World) : Prop :=
  ∃ j : Nat, j ≤ n ∧ i = .int .i64 j ∧ Own .u8 5 wr w1.heap.size Am M cm (outTo g m0 j) ∧ Below w1.heap.size w1 wr
end Go.Proofs.YtpdalbckmfadbaaGreat.Cr

namespace Go.Proofs.YtpdalbckmfadbaaGreat.Cr
open Go.RowKit
set_option linter.unusedVariables false
theorem validB_take {xs : List Int} (m : Nat) (h : ValidB xs = true) : ValidB (xs.take m) = true := by
  unfold ValidB at *
  rw [List.all_eq_true] at *
  intro x hx; exact h x (List.mem_of_mem_take hx)
end Go.Proofs.YtpdalbckmfadbaaGreat.Cr

namespace Go.Proofs.YtpdalbckmfadbaaGreat.Cr
open Go.RowKit
set_option linter.unusedVariables false
/-! ### slices.Equal -/
set_option maxHeartbeats 400000 in
set_option maxRecDepth 100000 in
theorem equal_any (A B : Option Addr) (n c m d : Nat) (xs ys : List Int) (w : World) (hx : Rd .u8 w A n c xs) (hy : Rd .u8 w B m d ys) :
    Calls Tryz.prog 65 #[.slice A n c, .slice B m d] w fun e w' => e = .returned (.bool (decide (xs = ys))) ∧ Qt w w' := by
  have b1 := hx.bd.1
  have b2 := hy.bd.1
  by_cases hnm : n = m
  · subst hnm
    have hne : ((n : Int) != (n : Int)) = false := bne_f rfl
    go_enter Tryz.func65, Tryz.ntmps65
    go_wp2
    go_loopw [13] (fun i wr => SameInv w n xs ys i wr) (fun i _ => n - (intOf i).toNat)
    case atStart => exact ⟨0, by omega, rfl, by intro q hq; omega, 0, rfl⟩
    case round =>
      obtain ⟨j, hj, rfl, hv, q0, rfl⟩ := hrel
      by_cases hlt : j < n
      · have hc := Rd.cell hx hlt
        have hd := Rd.cell hy hlt
        have hix := fun W => Rdv.ix hx el53 hlt .i64 W
        have hiy := fun W => Rdv.ix hy el53 hlt .i64 W
        have HV := Lib.hid hv; clear hv
        by_cases h1 : gi xs j = gi ys j
        · have h1' := bne_f h1
          have H1 := Lib.hid h1; clear h1
          go_wp2
          go_quiet (fail)
          go_wp2
          go_roundw
          case rel => exact ⟨j + 1, by omega, by go_num, fun q hq => lt_succ_cases HV.out H1.out q hq, by first | exact ⟨_, rfl⟩ | exact Qt.drewN ⟨_, rfl⟩ _⟩
          case measure => simp [intOf]; omega
        · have h1' := bne_t h1
          have hf : decide (xs = ys) = false := by simp; rintro rfl; exact h1 rfl
          go_wp2
          go_quiet (fail)
          go_wp2
          go_ret
          exact ⟨ret_bool hf.symm, by first | exact ⟨_, rfl⟩ | exact Qt.drewN ⟨_, rfl⟩ _⟩
      · have hf : decide (xs = ys) = true := by
          have hl1 := hx.len; have hl2 := hy.len
          simp only [decide_eq_true_eq]
          refine ext_gi (by rw [hl1, hl2]) fun q hq => hv q (by omega)
        go_wp2
        go_ret
        exact ⟨ret_bool hf.symm, by first | exact ⟨_, rfl⟩ | exact Qt.drewN ⟨_, rfl⟩ _⟩
  · have hne : ((n : Int) != (m : Int)) = true := bne_t (by omega)
    have hf : decide (xs = ys) = false := by
      simp; rintro rfl; have := hx.len; have := hy.len; omega
    go_enter Tryz.func65, Tryz.ntmps65
    go_wp2
    go_ret
    exact ⟨ret_bool hf.symm, 0, rfl⟩


set_option maxRecDepth 100000 in
theorem inv1_any (b : Int) (w : World) : Calls Tryz.prog 109 #[.int .u8 b] w fun e w' => e = .returned (.bool (decide (1 < b))) ∧ w = w' := by
  go_enter Tryz.func109, Tryz.ntmps109
  go_wp2
  go_ret
  exact ⟨rfl, rfl⟩
def IdxInv (n : Nat) (xs : List Int) (i : Value) : Prop := ∃ j : Nat, j ≤ n ∧ i = .int .i64 j ∧ ∀ q, q < j → gi xs q ≤ 1
def IdxPost (xs : List Int) (w : World) (e : Ending) (w' : World) : Prop := ∃ r : Int, e = .returned (.int .i64 r) ∧ (0 ≤ r ↔ ValidB xs = false) ∧ w = w'
set_option maxHeartbeats 400000 in
set_option maxRecDepth 100000 in
theorem idx_any (A : Option Addr) (n c : Nat) (xs : List Int) (w : World) (h : Rd .u8 w A n c xs) :
    Calls Tryz.prog 82 #[.slice A n c, .func (.func 109) #[] #[]] w (IdxPost xs w) := by
  have hbd := h.bd.1
  go_enter Tryz.func82, Tryz.ntmps82
  go_wp2
  go_loop [8] (fun i => IdxInv n xs i) (fun i => n - (intOf i).toNat)
  case atStart => exact ⟨0, by omega, rfl, by intro q hq; omega⟩
  case round =>
    obtain ⟨j, hj, rfl, hv⟩ := hrel
    by_cases hlt : j < n
    · have hc := Rd.cell h hlt
      have hix := fun W => Rdv.ix h el53 hlt .i64 W
      have HV := Lib.hid hv; clear hv
      by_cases h1 : gi xs j ≤ 1
      · have h1' : decide (1 < gi xs j) = false := by simp; omega
        go_wp2_with (go_at_call 109; refine (inv1_any _ _).mono ?_; rintro e w' ⟨rfl, rfl⟩)
        go_round
        case rel => exact ⟨j + 1, by omega, by go_num, fun q hq => lt_succ_cases HV.out h1 q hq⟩
        case measure => simp [intOf]; omega
      · have h1' : decide (1 < gi xs j) = true := by simp; omega
        have hf := Lib.hid (validB_f (by rw [h.len]; exact hlt) (by omega : 1 < gi xs j))
        go_wp2_with (go_at_call 109; refine (inv1_any _ _).mono ?_; rintro e w' ⟨rfl, rfl⟩)
        go_ret
        exact ⟨_, rfl, by rw [hf.out]; simp, rfl⟩
    · have hf := Lib.hid (validB_t (xs := xs) (by rw [h.len]; intro q hq; exact hv q (by omega)))
      go_wp2
      go_ret
      exact ⟨_, rfl, by rw [hf.out]; simp, rfl⟩
set_option maxRecDepth 100000 in
theorem contains_any (A : Option Addr) (n c : Nat) (xs : List Int) (w : World) (h : Rd .u8 w A n c xs) :
    Calls Tryz.prog 35 #[.slice A n c, .func (.func 109) #[] #[]] w fun e w' => e = .returned (.bool (!ValidB xs)) ∧ w = w' := by
  go_enter Tryz.func35, Tryz.ntmps35
  go_wp2_with (go_at_call 82; refine (idx_any A n c xs w h).mono ?_; rintro e w' ⟨r, rfl, hr, rfl⟩)
  go_ret
  refine ⟨ret_bool ?_, rfl⟩
  cases hv : ValidB xs <;> simp_all
set_option maxRecDepth 100000 in
theorem invalid_any (A : Option Addr) (n c : Nat) (xs : List Int) (w : World) (h : Rd .u8 w A n c xs) :
    Calls Tryz.prog 63 #[.slice A n c] w fun e w' => e = .returned (.bool (!ValidB xs)) ∧ w = w' := by
  go_enter Tryz.func63, Tryz.ntmps63
  go_wp2_with (go_at_call 35; refine (contains_any A n c xs w h).mono ?_; rintro e w' ⟨rfl, rfl⟩)
  go_ret
  exact ⟨rfl, rfl⟩
/-! ### slices.Clone -/
set_option maxRecDepth 100000 in
theorem clone_any (A : Option Addr) (n c : Nat) (xs : List Int) (w : World) (h : Rd .u8 w A n c xs) (hn : n ≤ 100000) :
    Calls Tryz.prog 60 #[.slice A n c] w fun e w' => ∃ A' c', e = .returned (.slice A' n c') ∧ Own .u8 5 w' w.heap.size A' n c' xs ∧ Below w.heap.size w w' := by
  have e1 := fun W => Lib.run_eql_slice_nil (P := Tryz.prog) W 22 5 A n c 0 0 el53.u
  cases A with
  | none =>
    have hc := h.nil rfl
    have hnc := h.le
    obtain rfl : n = 0 := by omega
    subst hc
    obtain rfl : xs = [] := List.eq_nil_of_length_eq_zero h.len
    go_enter Tryz.func60, Tryz.ntmps60
    go_wp2
    go_ret
    exact ⟨none, 0, rfl, Own.nilv .u8 5 w _, Below.refl _ _⟩
  | some ad =>
    have h1 := Rdv.alloc h (.cells #[] 5)
    have hO0 : Ownv 5 (w.alloc (.cells #[] 5)) w.heap.size (some ⟨w.heap.size, 0, none⟩) 0 0 [] := Ownv.lit w #[] 5 rfl (Nat.le_refl _) (Nat.zero_le _)
    go_enter Tryz.func60, Tryz.ntmps60
    go_wp2_with (at_builtin; go_loud (refine list_of rfl fun K hK => wp_app _ _ 22 rfl el53 rfl rfl hO0 h1 (oneCell_ints .u8 xs) (by omega) (by unfold maxLen; omega) (by simp) ?_); intro A' c' w' hO hg; refine hK _ _ ?_; clear hK K)
    go_ret
    exact ⟨A', c', ret_sl rfl rfl rfl, Own.of_eq hO (Nat.zero_add n) (List.nil_append _), (Below.refl _ _).grown (grownBy_of_alloc hg) (Nat.le_refl _) (by simp [Value.ownBlock])⟩

/-! ### slices.Grow(nil, n) -/
set_option maxRecDepth 100000 in
theorem grow_any (n : Nat) (w : World) (hn : n ≤ 1000000) :
    Calls Tryz.prog 113 #[.slice none 0 0, .int .i64 n] w fun e w' => ∃ A' c', e = .returned (.slice A' 0 c') ∧ Ownv 5 w' w.heap.size A' 0 c' [] ∧ Below w.heap.size w w' := by
  by_cases h0 : n = 0
  · subst h0
    go_enter Tryz.func113, Tryz.ntmps113
    go_wp2
    go_ret
    exact ⟨none, 0, rfl, Ownv.nilv 5 w _, Below.refl _ _⟩
  · have h1 : (0 : Int) < (n : Int) := by omega
    go_enter Tryz.func113, Tryz.ntmps113
    go_wp2_with (at_builtin; go_loud (refine list_of rfl fun K hK => wp_appz _ _ 22 3 rfl el53 (kn := .i64) (by kernel_rfl) rfl n rfl rfl rfl (Ownv.nilv 5 w w.heap.size) (by omega) (by omega) (Nat.le_refl _) ?_); intro A' c' w' hO hg; have hsl := fun W => Rdv.slh hO.rd el53 .i64 (Nat.zero_le c') W; refine hK _ _ ?_; clear hK K)
    go_ret
    exact ⟨A', c', rfl, Ownv.upto hO (Nat.zero_le _), (Below.refl _ _).grown hg (Nat.le_refl _) (by simp [Value.ownBlock])⟩
/-! ### split -/
def splitL (v : Int) (n : Nat) : List Int := (List.range n).map fun j => IntKind.u8.wrap (bits .and .u32 (v / 2 ^ (n - 1 - j)) 1)
theorem splitL_step (v : Int) (n j : Nat) (hj : j < n) : ((splitL v n).take j ++ List.replicate (n - j) 0).set j (IntKind.u8.wrap (bits .and .u32 (v / 2 ^ (n - 1 - j)) 1)) = (splitL v n).take (j + 1) ++ List.replicate (n - (j + 1)) 0 := by
  have hl : (splitL v n).length = n := by simp [splitL]
  rw [List.set_append_right _ _ (by rw [List.length_take]; omega), List.length_take, Nat.min_eq_left (by omega), Nat.sub_self, show n - j = (n - (j + 1)) + 1 by omega, List.replicate_succ, List.set_cons_zero,
    List.take_succ_eq_append_getElem (by omega), List.append_assoc]
  simp [splitL]
def SplitInv (w1 : World) (v : Int) (n : Nat) (A : Option Addr) (i : Value) (wr : World) : Prop := ∃ j : Nat, j ≤ n ∧ i = .int .i64 j ∧ 
  Own .u8 5 wr w1.heap.size A n n ((splitL v n).take j ++ List.replicate (n - j) 0) ∧ Below w1.heap.size w1 wr
set_option maxHeartbeats 400000 in
set_option maxRecDepth 100000 in
theorem split_any (v : Int) (n : Nat) (w : World) (hn : n ≤ 32) :
    Calls Tryz.prog 110 #[.int .u32 v, .int .i64 n] w fun e w' => ∃ A' c', e = .returned (.slice A' n c') ∧ Own .u8 5 w' w.heap.size A' n c' (splitL v n) ∧ Below w.heap.size w w' := by
  go_enter Tryz.func110, Tryz.ntmps110
  go_wp2_with (at_make; refine list_of rfl fun K hK => wp_mk _ _ 22 rfl el53 rfl rfl (by omega) (by unfold maxLen; omega) ?_; intro A w1 hO hB1 hA; refine hK _ _ ?_; clear hK K)
  go_loopw [11] (fun i wr => SplitInv w v n A i wr) (fun i _ => n - (intOf i).toNat)
  case atStart => exact ⟨0, by omega, rfl, Own.of_eq hO rfl (by simp), hB1⟩
  case round =>
    obtain ⟨j, hj, rfl, hOj, hBj⟩ := hrel
    by_cases hlt : j < n
    · have hix := fun W => Rdv.ix (Own.rd hOj) el53 hlt .i64 W
      have hcell := Rd.cell (Own.rd hOj) hlt
      have hfz := Ownv.frozen hOj (by omega) j
      have HSET := Lib.hid (Own.set_ hOj hlt (IntKind.u8.wrap (bits .and .u32 (v / 2 ^ (n - 1 - j)) 1)))
      go_wp2
      go_roundw
      case rel => exact ⟨j + 1, by omega, by go_num, Own.of_eq HSET.out.1 rfl (by rw [splitL_step v n j hlt]), hBj.grown HSET.out.2 hBj.size (fun k hk => by injection hk with hk; rw [← hk]; exact (Ownv.blk_ge hOj (by omega)).1)⟩
      case measure => simp [intOf]; omega
    · obtain rfl : j = n := by omega
      go_wp2
      go_ret
      exact ⟨_, _, rfl, Own.of_eq hOj rfl (by rw [Nat.sub_self, List.replicate_zero, List.append_nil, List.take_of_length_le (by simp [splitL])]), hBj⟩
end Go.Proofs.YtpdalbckmfadbaaGreat.Cr

namespace Go.Proofs.YtpdalbckmfadbaaGreat.Cr
open Go.RowKit Go.Shelf
set_option linter.unusedVariables false
attribute [local go_sem] Oper.semAt_some

set_option maxRecDepth 100000 in
theorem values_any (A : Option Addr) (n c : Nat) (w : World) :
    Calls Tryz.prog 112 #[.slice A n c] w fun e w' => e = .returned (.func (.func 147) #[] #[.pointer (some ⟨w.heap.size, 0, none⟩)]) ∧ w.alloc (.cells #[.slice A n c] 22) = w' := by
  go_enter Tryz.func112, Tryz.ntmps112
  go_wp2
  go_ret
  exact ⟨rfl, rfl⟩

def uptoL (xs : List Int) (k : Nat) : List Int := xs.take k
theorem uptoL_succ (xs : List Int) (k : Nat) (h : k < xs.length) : uptoL xs (k + 1) = uptoL xs k ++ [gi xs k] := by
  unfold uptoL; rw [List.take_succ_eq_append_getElem h, gi_eq xs k h]
def V1Inv (n : Nat) (xs : List Int) (n₀ : Nat) (W : World) (J : List Int → World → Prop) (i : Value) (wr : World) : Prop := ∃ k : Nat, k ≤ n ∧ i = .int .i64 k ∧ J (uptoL xs k) wr ∧ Below n₀ W wr
def V1Post (xs : List Int) (J Jx : List Int → World → Prop) (e : Ending) (W' : World) : Prop :=
  (∃ v, e = .returned v) ∧ ((∃ ys, ys = xs ∧ J ys W') ∨ (∃ pre, (∃ k, k ≤ xs.length ∧ pre = uptoL xs k) ∧ Jx pre W'))
set_option maxRecDepth 100000 in
set_option maxHeartbeats 1000000 in
theorem values1_in (F : Fence) (m : Nat) (hF : F.fn 147) (hro : F.round = none) (hm : 1 ≤ m) (l Bs n₀ : Nat) (A : Option Addr) (n c : Nat) (xs : List Int) (w0 : World) (hR : Rd .u8 w0 A n c xs) (h0n : w0.heap.size = n₀) (J Jx : List Int → World → Prop)
    (hY : ∀ pre x W, J pre W → pre.length < n → YieldAt F (m - 1) Tryz.prog l #[.int .u8 x] W fun e W' =>
      (e = .returned (.bool true) ∧ J (pre ++ [x]) W' ∧ Below n₀ W W') ∨ (e = .returned (.bool false) ∧ Jx (pre ++ [x]) W'))
    (W : World) (hW : Below n₀ w0 W) (hBs : W.cell? ⟨Bs, 0, none⟩ = some (.slice A n c)) (h0 : J [] W) :
    CallsIn F m Tryz.prog 147 #[.func (.yield l) #[] #[], .pointer (some ⟨Bs, 0, none⟩)] W (V1Post xs J Jx) := by
  have hxl := hR.len
  have hbd := hR.bd.1
  have HXL := Lib.hid hxl; clear hxl
  have HR := Lib.hid hR
  refine callsIn_of_wp Tryz.func147 rfl hF ?_ hro
  simp only [Tryz.ntmps147, List.size_toArray, List.length_cons, List.length_nil, Nat.reduceAdd, Nat.reduceSub, Array.replicate_succ, Array.replicate_zero, List.push_toArray, List.append_toArray, List.nil_append, List.cons_append]
  gi_wp2
  gi_loopw [7] (fun i wr => V1Inv n xs n₀ W J i wr) (fun i _ => n - (intOf i).toNat)
  case atStart => exact ⟨0, Nat.zero_le _, rfl, h0, Below.refl _ _⟩
  case round =>
    obtain ⟨k, hk, rfl, hJs, hnx⟩ := hrel
    by_cases hlt : k < n
    · have hRr : Rd .u8 wr A n c xs := Rdv.below HR.out (by rw [h0n]; exact hW.trans hnx)
      have hc := Rd.cell hRr hlt
      have hix := fun W => Rdv.ix hRr el53 hlt .i64 W
      obtain ⟨fn, tmps, assign, body, hy, hRd⟩ := hY _ (gi xs k) wr hJs (by unfold uptoL; rw [List.length_take, HXL.out]; omega)
      gi_wp2
      refine hRd.mono ?_
      rintro e W3 (⟨rfl, hJ3, hk3⟩ | ⟨rfl, hJx3⟩)
      · gi_wp2
        go_roundw
        case rel => exact ⟨k + 1, by omega, by simp, by rw [uptoL_succ _ _ (by rw [HXL.out]; exact hlt)]; exact hJ3, hnx.trans hk3⟩
        case measure => simp [intOf]; omega
      · gi_wp2
        refine bodyPost_ret (results_none rfl _ _ _) rfl ?_
        exact ⟨⟨_, rfl⟩, .inr ⟨_, ⟨k + 1, by rw [HXL.out]; omega, (uptoL_succ _ _ (by rw [HXL.out]; exact hlt)).symm⟩, hJx3⟩⟩
    · obtain rfl : k = n := by omega
      gi_wp2
      go_end0
      exact ⟨⟨_, rfl⟩, .inl ⟨_, by unfold uptoL; exact List.take_of_length_le (Nat.le_of_eq HXL.out), hJs⟩⟩
theorem values_stops (F : Fence) (m : Nat) (hF : F.fn 147) (hro : F.round = none) (hm : 1 ≤ m) (Bs n₀ : Nat) (A : Option Addr) (n c : Nat) (xs : List Int) (w0 w : World) (hR : Rd .u8 w0 A n c xs) (h0n : w0.heap.size = n₀) (hW0 : Below n₀ w0 w)
    (hBs : Bs < w.heap.size) (hc : w.cell? ⟨Bs, 0, none⟩ = some (.slice A n c)) :
    SeqStopsK F m Tryz.prog 147 #[.pointer (some ⟨Bs, 0, none⟩)] (fun x : Int => #[Value.int .u8 x]) (Below n₀) (fun ys => ys = xs) (fun pre => ∃ k, k ≤ xs.length ∧ pre = uptoL xs k) n w := fun l J Jx W hW _ _ hY h0 =>
  values1_in F m hF hro hm l Bs n₀ A n c xs w0 hR h0n J Jx hY W (hW0.trans (hW.mono (by have := hW0.size; omega))) ((hW.cell (p := ⟨Bs, 0, none⟩) hBs).trans hc) h0

/-! ### divide -/
def crcStep (L : Nat) (p : Int) (reg b : Int) : Int :=
  bits .xor .u32 (bits .and .u32 (reg * 2 % 4294967296) ((2 ^ L % 4294967296 - 1) % 4294967296)) (bits .xor .u32 (bits .and .u32 (reg / 2 ^ (L - 1)) 1) (b % 4294967296) * p % 4294967296)
def crcFold (L : Nat) (p : Int) (xs : List Int) : Int := xs.foldl (crcStep L p) 0
theorem crcFold_snoc (L : Nat) (p : Int) (xs : List Int) (x : Int) : crcFold L p (xs ++ [x]) = crcStep L p (crcFold L p xs) x := by simp [crcFold]
set_option maxRecDepth 100000 in
set_option maxHeartbeats 1000000 in
theorem divide_any (L : Nat) (p : Int) (Bs : Nat) (A : Option Addr) (n c : Nat) (xs : List Int) (w : World) (hR : Rd .u8 w A n c xs) (hBs : Bs < w.heap.size) (hc : w.cell? ⟨Bs, 0, none⟩ = some (.slice A n c)) (hL : 8 ≤ L) (hL2 : L ≤ 24) :
    Calls Tryz.prog 111 #[.agg #[.int .i64 (L : Int), .int .u32 p], .func (.func 147) #[] #[.pointer (some ⟨Bs, 0, none⟩)]] w fun e w' => e = .returned (.int .u32 (crcFold L p xs)) ∧ Below w.heap.size w w' := by
  refine (callsIn_wide (n := 3)).1 ?_
  refine callsIn_of_wp_marks Tryz.func111 rfl trivial ?_
  simp only [Tryz.ntmps111, List.size_toArray, List.length_cons, List.length_nil, Nat.reduceAdd, Nat.reduceSub, Array.replicate_succ, Array.replicate_zero, List.push_toArray, List.append_toArray, List.nil_append, List.cons_append]
  gi_wp2
  have cS0 : ((w.alloc (Obj.cells #[.int .i64 L, .int .u32 p] 118)).alloc (Obj.cells #[.int .u32 0] 116)).cell? ⟨w.heap.size, 0, none⟩ = some (.int .i64 L) := by simp [go_sem]
  have cS1 : ((w.alloc (Obj.cells #[.int .i64 L, .int .u32 p] 118)).alloc (Obj.cells #[.int .u32 0] 116)).cell? ⟨w.heap.size, 1, none⟩ = some (.int .u32 p) := by simp [go_sem]
  have cR : ((w.alloc (Obj.cells #[.int .i64 L, .int .u32 p] 118)).alloc (Obj.cells #[.int .u32 0] 116)).cell? ⟨w.heap.size + 1, 0, none⟩ = some (.int .u32 0) ∧ ((w.alloc (Obj.cells #[.int .i64 L, .int .u32 p] 118)).alloc (Obj.cells #[.int .u32 0] 116)).frozen? ⟨w.heap.size + 1, 0, none⟩ = false := by simp [go_sem]
  have hB0 : Below w.heap.size w ((w.alloc (Obj.cells #[.int .i64 L, .int .u32 p] 118)).alloc (Obj.cells #[.int .u32 0] 116)) := ((Below.refl _ w).alloc (Nat.le_refl _) _).alloc (by simp) _
  have hc2 := (hB0.cell (p := ⟨Bs, 0, none⟩) hBs).trans hc
  generalize hw2 : (w.alloc (Obj.cells #[.int .i64 L, .int .u32 p] 118)).alloc (Obj.cells #[.int .u32 0] 116) = w2 at *
  have hsz : w2.heap.size = w.heap.size + 2 := by rw [← hw2]; simp
  refine wpIn_rangeFunc_ownF rfl (by omega) (gf := 147) (lb := #[.pointer (some ⟨Bs, 0, none⟩)]) rfl trivial (enters_of Tryz.func147 (by kernel_rfl) rfl)
    (values_stops Fence.wide 2 trivial rfl (by omega) Bs w.heap.size A n c xs w w2 hR rfl hB0 (by omega) hc2) belowK_t (belowK_b (by omega)) (Below.refl _ _) (fun _ => rfl)
    (fun pre W => (W.cell? ⟨w.heap.size, 0, none⟩ = some (.int .i64 L) ∧ W.cell? ⟨w.heap.size, 1, none⟩ = some (.int .u32 p) ∧ W.cell? ⟨w.heap.size + 1, 0, none⟩ = some (.int .u32 (crcFold L p pre)) ∧ W.frozen? ⟨w.heap.size + 1, 0, none⟩ = false) ∧ Below w.heap.size w W)
    (fun _ _ _ => False)
    (OwnFrom.and (Own.from (fun s A B row hs hg hr => ⟨cell_kept hs.1 hg hr, cell_kept hs.2.1 hg hr, cell_kept hs.2.2.1 hg hr, (frozen_kept hs.2.2.1 hg hr).trans hs.2.2.2⟩) _) (ownFrom_below (Nat.le_refl _) (by omega)))
    (fun _ _ _ _ _ hs _ _ => hs)
    ⟨⟨cS0, cS1, cR.1, cR.2⟩, hB0⟩
    (fun x => { tmps := #[.agg #[.int .i64 L, .int .u32 p], .func (.func 147) #[] #[.pointer (some ⟨Bs, 0, none⟩)], .pointer (some ⟨w.heap.size, 0, none⟩), undef, .int .u32 0, .pointer (some ⟨w.heap.size + 1, 0, none⟩), .int .u8 x, undef, .func (.func 147) #[] #[.pointer (some ⟨Bs, 0, none⟩)], .int .u8 x,
      undef, undef, undef, undef, undef, undef, undef, undef, undef, undef, undef, undef, undef, undef, undef, undef, undef, undef, undef, undef, undef, undef], defers := [] }) ?assign ?body ?done ?stop
  case assign =>
    intro l x W K hK
    gi_wp2
    exact hK
  case body =>
    rintro l pre x W ⟨⟨h1, h2, h3, h4⟩, hB⟩ _
    gi_wp2
    refine regIn_still_tail 12 (by kernel_rfl) (by kernel_rfl) (by kernel_rfl) (fun ⟨_, _, h⟩ => h) ?_
    simp only [List.take_succ_cons, List.take_zero, List.drop_succ_cons, List.drop_zero]
    repeat still_step
    try refine wpStill_nil ?_
    simp only [World.drew_eq]
    go_wp2
    have hset := World.cell?_setCell_same' W ⟨w.heap.size + 1, 0, none⟩ (.int .u32 (crcFold L p (pre ++ [x]))) (by rw [h3]; rfl)
    have hs0 := (World.cell?_setCell_other W ⟨w.heap.size + 1, 0, none⟩ ⟨w.heap.size, 0, none⟩ (.int .u32 (crcFold L p (pre ++ [x]))) (by simp)).trans h1
    have hs1 := (World.cell?_setCell_other W ⟨w.heap.size + 1, 0, none⟩ ⟨w.heap.size, 1, none⟩ (.int .u32 (crcFold L p (pre ++ [x]))) (by simp)).trans h2
    have hsf : (W.setCell ⟨w.heap.size + 1, 0, none⟩ (.int .u32 (crcFold L p (pre ++ [x])))).frozen? ⟨w.heap.size + 1, 0, none⟩ = false := by rw [World.frozen?_setCell]; exact h4
    rw [crcFold_snoc] at hset hs0 hs1 hsf
    exact ⟨(KeepsOthers.setCell _ _ _).trans (KeepsOthers.drew _), ((Below.refl w.heap.size W).setCell (p := ⟨w.heap.size + 1, 0, none⟩) (Nat.le_succ _) _).drew, ⟨hs0, hs1, by rw [crcFold_snoc]; exact hset, hsf⟩, (hB.setCell (p := ⟨w.heap.size + 1, 0, none⟩) (Nat.le_succ _) _).drew⟩
  case done =>
    rintro D ys W hD rfl ⟨⟨h1, h2, h3, h4⟩, hB⟩ hK
    gi_wp2
    refine ⟨by simp, .inl ⟨_, _, rfl, run_takeDeferred hK, ?_⟩⟩
    exact ⟨_, results_tmp rfl _ _ _, rfl, hB.trans (belowK_b (w := w) (Nat.le_refl _) W D _ _ (by omega) hK rfl rfl)⟩
  case stop =>
    rintro D c pre W _ _ h _
    exact h.elim
end Go.Proofs.YtpdalbckmfadbaaGreat.Cr

namespace Go.Proofs.YtpdalbckmfadbaaGreat.Cr
open Go.RowKit
set_option linter.unusedVariables false
def sLen (k : Int) : Nat := if k = 1 then 24 else if k = 2 then 24 else if k = 3 then 16 else if k = 4 then 8 else 0
def sPoly (k : Int) : Int := if k = 1 then 0x864cfb else if k = 2 then 0x800063 else if k = 3 then 0x1021 else if k = 4 then 0x9b else 0
theorem sLen_cases (k : Int) : sLen k = 0 ∨ 8 ≤ sLen k ∧ sLen k ≤ 24 := by unfold sLen; repeat (split <;> try omega)
set_option maxHeartbeats 400000 in
set_option maxRecDepth 100000 in
theorem of_lit (k : Int) (w : World) (h : k = 0 ∨ k = 1 ∨ k = 2 ∨ k = 3 ∨ k = 4) :
    Calls Tryz.prog 66 #[.int .i64 k] w fun e w' => e = .returned (.agg #[.int .i64 (sLen k : Int), .int .u32 (sPoly k)]) ∧ Below w.heap.size w w' := by
  rcases h with rfl | rfl | rfl | rfl | rfl
  all_goals
    go_enter Tryz.func66, Tryz.ntmps66
    go_wp2
    refine bodyPost_ret (v := .agg #[_, _]) (by simp [results, Tryz.results66, go_sem]; exact ⟨rfl, rfl⟩) rfl ⟨rfl, ?_⟩
    exact (((Below.refl _ _).alloc (Nat.le_refl _) _).alloc (by simp) _)
set_option maxHeartbeats 400000 in
set_option maxRecDepth 100000 in
theorem of_out (k : Int) (w : World) (h : k < 0 ∨ 5 ≤ k) :
    Calls Tryz.prog 66 #[.int .i64 k] w fun e w' => e = .returned (.agg #[.int .i64 (sLen k : Int), .int .u32 (sPoly k)]) ∧ Below w.heap.size w w' := by
  have e1 : sLen k = 0 := by unfold sLen; repeat (first | rw [if_neg (by omega)] | rfl)
  have e2 : sPoly k = 0 := by unfold sPoly; repeat (first | rw [if_neg (by omega)] | rfl)
  rw [e1, e2]
  clear e1 e2
  rcases h with h | h
  · go_enter Tryz.func66, Tryz.ntmps66
    go_wp2
    refine bodyPost_ret (v := .agg #[_, _]) (by simp [results, Tryz.results66, go_sem]) rfl ⟨rfl, ?_⟩
    exact (((Below.refl _ _).alloc (Nat.le_refl _) _).alloc (by simp) _)
  · have h0 : decide (k < 0) = false := by simp; omega
    go_enter Tryz.func66, Tryz.ntmps66
    go_wp2
    refine bodyPost_ret (v := .agg #[_, _]) (by simp [results, Tryz.results66, go_sem]) rfl ⟨rfl, ?_⟩
    exact (((Below.refl _ _).alloc (Nat.le_refl _) _).alloc (by simp) _)
theorem of_any (k : Int) (w : World) :
    Calls Tryz.prog 66 #[.int .i64 k] w fun e w' => e = .returned (.agg #[.int .i64 (sLen k : Int), .int .u32 (sPoly k)]) ∧ Below w.heap.size w w' := by
  by_cases h : k < 0 ∨ 5 ≤ k
  · exact of_out k w h
  · exact of_lit k w (by omega)
set_option maxRecDepth 100000 in
theorem len_any (k : Int) (w : World) : Calls Tryz.prog 25 #[.int .i64 k] w fun e w' => e = .returned (.int .i64 (sLen k : Int)) ∧ Below w.heap.size w w' := by
  have h1 := Lib.hid (of_any k w)
  generalize sLen k = L at *
  generalize sPoly k = p at *
  have hfld : ∀ W, (Instr.field 118 (.agg #[.int .i64 (L : Int), .int .u32 p]) 0).run Tryz.prog W = .ok (.int .i64 (L : Int)) W := fun _ => by kernel_rfl
  go_enter Tryz.func25, Tryz.ntmps25
  go_wp2_with fail
  refine h1.out.mono ?_
  rintro e w1 ⟨rfl, hB⟩
  go_wp2
  go_ret
  exact ⟨rfl, hB⟩
end Go.Proofs.YtpdalbckmfadbaaGreat.Cr

