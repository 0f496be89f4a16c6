/- Bundle. Conditions: none. -/
import Derived.Test.YtkdfefpnhaebfaaGreatBuoas
import Derived.Test.YtkdfefpnhaebfaaGreatProg
import Derived.Test.YtkdfefpnhaebfaaGreatBuoab
import Derived.Test.YtkdfefpnhaebfaaGreatBuoaa
import Derived.Deep.QuietTactic
set_option linter.unusedVariables false
set_option linter.unusedSimpArgs false
namespace Go.Proofs.YtkdfefpnhaebfaaGreat
open Go.RowKit
attribute [local go_sem] Oper.semAt_some
set_option maxRecDepth 100000
set_option maxHeartbeats 2000000
theorem cloneI_any (A : Option Addr) (n c : Nat) (xs : List Int) (w : World) (h : Rd .i64 w A n c xs) (hn : n ≤ 1000000) :
 Calls Tryz.prog 67 #[.slice A n c] w fun e w' => ∃ A' c', e = .returned (.slice A' n c') ∧ Own .i64 3 w' w.heap.size A' n c' xs ∧ Below w.heap.size w w' := by
 have e1 := fun W => Lib.run_eql_slice_nil (P := Tryz.prog) W 39 3 A n c 0 0 el22.u
 cases A with
 | none =>
   have hc := h.nil rfl
   have hnc := h.le
   obtain rfl : n = 0 := by omega
   subst hc
   obtain rfl : xs = [] := List.eq_nil_of_length_eq_zero h.len
   go_enter Tryz.func67, Tryz.ntmps67
   go_wp2
   go_ret
   exact ⟨none, 0, rfl, Own.nilv .i64 3 w _, Below.refl _ _⟩
 | some ad =>
   have h1 := Rdv.alloc h (.cells #[] 3)
   have hO0 : Ownv 3 (w.alloc (.cells #[] 3)) w.heap.size (some ⟨w.heap.size, 0, none⟩) 0 0 [] := Ownv.lit w #[] 3 rfl (Nat.le_refl _) (Nat.zero_le _)
   go_enter Tryz.func67, Tryz.ntmps67
   go_wp2_with (at_builtin; refine list_of rfl fun K hK => wp_app _ _ 39 rfl el22 rfl rfl hO0 h1 (oneCell_ints .i64 xs) (by omega) (by unfold maxLen; omega) (by simp) ?_; intro A' c' w' hO hg; refine hK _ _ ?_; clear hK K)
   go_ret
   exact ⟨A', c', ret_sl rfl rfl rfl, Own.of_eq hO (Nat.zero_add n) (List.nil_append _), (Below.refl _ _).grown (grownBy_of_alloc hg) (Nat.le_refl _) (by simp [Value.ownBlock])⟩
theorem own_ne_top {k : IntKind} {e : TypeId} {w : World} {base : Nat} {A : Option Addr} {n c : Nat} {xs : List Int} (h : Own k e w base A n c xs) : A ≠ none → blk A ≠ w.heap.size := by
 intro hA
 obtain ⟨-, g1⟩ := Ownv.cases h
 rcases g1 with ⟨h1, -⟩ | ⟨g, cur, h1, -, hh, -⟩
 · exact absurd h1 hA
 · subst h1
   have h9 := heap_lt' hh
   show g ≠ w.heap.size
   omega
theorem rd_ne_top {k : IntKind} {w : World} {A : Option Addr} {n c : Nat} {xs : List Int} (h : Rd k w A n c xs) (hn : 0 < n) : A ≠ none → blk A ≠ w.heap.size := by
 intro hA
 have hle := Rdv.le h
 obtain ⟨b, o, rfl, hb⟩ := Rdv.ptr h (by omega)
 show b ≠ w.heap.size
 omega
def wrE (vs : List Int) (kind most : Int) : Int := if vs.length % 3 ≠ 0 ∨ Tu.validK ((vs.length : Int) / 3 - 4) = false ∨ kind < 0 ∨ 4 < kind ∨ most < 1 ∨ 64 < most then 2 else if SoftB vs = true then 0 else 6
def BgX (k : Nat) (vs : List Int) (w1 : World) (v6 v7 : Value) (wx : World) : Prop :=
 v7 = .int .i64 0 ∧ ∃ D V vc O oc I ic A ac, v6 = .pointer (some ⟨D, 0, none⟩) ∧ DS wx D k vs (List.replicate k 0) [] 0 V vc O oc I ic A ac none 0 0 ∧ w1.heap.size ≤ D ∧ Below w1.heap.size w1 wx
def BgP (k : Nat) (vs : List Int) (w : World) (e : Ending) (w' : World) : Prop :=
 ∃ D V vc O oc I ic A ac, e = .returned (.tuple #[.pointer (some ⟨D, 0, none⟩), .int .i64 0]) ∧ DS w' D k vs (List.replicate k 0) [] 0 V vc O oc I ic A ac none 0 0 ∧ w.heap.size ≤ D ∧ Below w.heap.size w w'
theorem begun_bad (S : Option Addr) (n cs : Nat) (vs : List Int) (kind most : Int) (w : World) (h : Rd .i64 w S n cs vs) (hn : n ≤ 100000) (hw : vs.length % 3 ≠ 0 ∨ Tu.validK ((vs.length : Int) / 3 - 4) = false ∨ kind < 0 ∨ 4 < kind ∨ most < 1 ∨ 64 < most) :
 Calls Tryz.prog 122 #[.slice S n cs, .int .i64 kind, .int .i64 most] w fun e w' => e = .returned (.tuple #[.pointer none, .int .i64 2]) ∧ Below w.heap.size w w' := by
 have hl := Rd.len h
 rw [hl] at hw
 have HSZ := Lib.hid (fun W => size_any S n cs W (by omega))
 have HV := Lib.hid (fun W => Tu.valid_any ((n : Int) / 3 - 4) W)
 obtain ⟨r, hr⟩ : ∃ r : Nat, r = n % 3 := ⟨_, rfl⟩
 have a1 : (n : Int).tmod 3 = (r : Int) := by rw [Int.tmod_eq_emod_of_nonneg (by omega), hr]; omega
 have a2 : (n : Int) % 3 = (r : Int) := by rw [hr]; omega
 rw [← hr] at hw
 generalize Tu.validK ((n : Int) / 3 - 4) = vb at *
 generalize (n : Int) / 3 - 4 = kk at *
 clear hr hl
 rcases (by
  by_cases c1 : r ≠ 0
  · exact .inl c1
  · have c1 : r = 0 := by omega
    by_cases c2 : vb = false
    · exact .inr (.inl ⟨c1, c2⟩)
    · have c2 : vb = true := by simpa using c2
      by_cases c3 : kind < 0
      · exact .inr (.inr (.inl ⟨c1, c2, c3⟩))
      · by_cases c4 : 4 < kind
        · exact .inr (.inr (.inr (.inl ⟨c1, c2, by omega, c4⟩)))
        · by_cases c5 : most < 1
          · exact .inr (.inr (.inr (.inr (.inl ⟨c1, c2, by omega, by omega, c5⟩))))
          · refine .inr (.inr (.inr (.inr (.inr ⟨c1, c2, by omega, by omega, by omega, ?_⟩))))
            rcases hw with h | h | h | h | h | h
            · omega
            · rw [h] at c2; cases c2
            · omega
            · omega
            · omega
            · exact h : r ≠ 0 ∨ (r = 0 ∧ vb = false) ∨ (r = 0 ∧ vb = true ∧ kind < 0) ∨ (r = 0 ∧ vb = true ∧ 0 ≤ kind ∧ 4 < kind) ∨ (r = 0 ∧ vb = true ∧ 0 ≤ kind ∧ kind ≤ 4 ∧ most < 1) ∨ (r = 0 ∧ vb = true ∧ 0 ≤ kind ∧ kind ≤ 4 ∧ 1 ≤ most ∧ 64 < most)) with h1 | ⟨h1, rfl⟩ | ⟨h1, rfl, h3⟩ | ⟨h1, rfl, h3, h4⟩ | ⟨h1, rfl, h3, h4, h5⟩ | ⟨h1, rfl, h3, h4, h5, h6⟩ <;> clear hw
 case' inl => have q1 : ((r : Int) != 0) = true := bne_t (by omega)
 case' inr.inl => have q1 : ((r : Int) != 0) = false := bne_f (by omega)
 case' inr.inr.inl => have q1 : ((r : Int) != 0) = false := bne_f (by omega)
 case' inr.inr.inr.inl => have q1 : ((r : Int) != 0) = false := bne_f (by omega)
 case' inr.inr.inr.inr.inl => have q1 : ((r : Int) != 0) = false := bne_f (by omega)
 case' inr.inr.inr.inr.inr => have q1 : ((r : Int) != 0) = false := bne_f (by omega)
 all_goals
  clear h1
  go_enter Tryz.func122, Tryz.ntmps122
  go_wp2_with fail
  refine wp_scope_fwd 0 rfl ?_
  go_wp2_with (first
   | (go_at_call 166; refine (HSZ.out _).mono ?_; rintro e w0 ⟨rfl, rfl⟩)
   | (go_at_call 102; refine (HV.out _).mono ?_; rintro e w0 ⟨rfl, hB0⟩))
  go_step3
  refine ⟨rfl, ?_⟩
  go_wp2
  simp only [Exit.jump]
  go_ret2
  exact ⟨rfl, by first | exact Below.refl _ _ | assumption⟩
theorem begun_soft (S : Option Addr) (n cs : Nat) (vs : List Int) (kind most : Int) (w : World) (h : Rd .i64 w S n cs vs) (hn : n ≤ 100000) (h3 : n % 3 = 0) (hv : Tu.validK ((n : Int) / 3 - 4) = true) (hk : 0 ≤ kind ∧ kind ≤ 4) (hm : 1 ≤ most ∧ most ≤ 64) (hs : SoftB vs = false) :
 Calls Tryz.prog 122 #[.slice S n cs, .int .i64 kind, .int .i64 most] w fun e w' => e = .returned (.tuple #[.pointer none, .int .i64 6]) ∧ Below w.heap.size w w' := by
 have HSZ := Lib.hid (fun W => size_any S n cs W (by omega))
 have HV := Lib.hid (fun W => Tu.valid_any ((n : Int) / 3 - 4) W)
 have HC := Lib.hid (fun W h => bcont_any S n cs vs W h)
 rw [hs, Bool.not_false] at HC
 rw [hv] at HV
 have HH := Lib.hid h
 have a1 : (n : Int).tmod 3 = 0 := by rw [Int.tmod_eq_emod_of_nonneg (by omega)]; omega
 have a2 : (n : Int) % 3 = 0 := by omega
 have b1 : decide (kind < 0) = false := by simp; omega
 have b2 : decide (kind > 4) = false := by simp; omega
 have b3 : decide (most < 1) = false := by simp; omega
 have b4 : decide (most > 64) = false := by simp; omega
 generalize (n : Int) / 3 - 4 = kk at *
 clear h3 hv h hs
 go_enter Tryz.func122, Tryz.ntmps122
 go_wp2_with fail
 refine wp_scope_fwd 0 rfl ?_
 go_wp2_with (first
  | (go_at_call 166; refine (HSZ.out _).mono ?_; rintro e w0 ⟨rfl, rfl⟩)
  | (go_at_call 102; refine (HV.out _).mono ?_; rintro e w0 ⟨rfl, hB0⟩; have HB0 := Lib.hid hB0; have HH0 := Lib.hid (Rdv.below HH.out hB0); clear hB0)
  | (go_at_call 109; refine (HC.out _ HH0.out).mono ?_; rintro e w1 ⟨rfl, rfl⟩))
 go_step3
 refine ⟨rfl, ?_⟩
 go_wp2
 simp only [Exit.jump]
 go_ret2
 exact ⟨rfl, HB0.out⟩
theorem begun_ok (S : Option Addr) (k cs : Nat) (vs : List Int) (kind most : Int) (w : World) (h : Rd .i64 w S (3 * (k + 4)) cs vs) (hv : Tu.validK (k : Int) = true) (hk : 0 ≤ kind ∧ kind ≤ 4) (hm : 1 ≤ most ∧ most ≤ 64) (hs : SoftB vs = true) :
 Calls Tryz.prog 122 #[.slice S (3 * (k + 4)) cs, .int .i64 kind, .int .i64 most] w (BgP k vs w) := by
 have hkb := Tu.valid_bd hv
 have hk0 : 0 < k := by omega
 have hk9 : k ≤ 6144 := by omega
 have hvl : (((3 * (k + 4) : Nat) : Int)) / 3 - 4 = (k : Int) := by omega
 have HSZ := Lib.hid (fun W => size_any S (3 * (k + 4)) cs W (by omega))
 rw [hvl] at HSZ
 have HV := Lib.hid (fun W => Tu.valid_any (k : Int) W)
 rw [hv] at HV
 have HC := Lib.hid (fun W h => bcont_any S (3 * (k + 4)) cs vs W h)
 rw [hs, Bool.not_true] at HC
 have HOR := Lib.hid (fun W => Tu.order_any (k : Int) W)
 have HIN := Lib.hid (fun W => Tu.inverse_any (k : Int) W)
 rw [show Tu.permE (k : Int) = 0 from by unfold Tu.permE; rw [if_pos hv], show Tu.ordR (k : Int) = Tu.ordL k from by unfold Tu.ordR; rw [if_pos hv, Int.toNat_natCast]] at HOR
 rw [show Tu.permE (k : Int) = 0 from by unfold Tu.permE; rw [if_pos hv], show Tu.invR (k : Int) = Tu.invL k from by unfold Tu.invR; rw [if_pos hv, Int.toNat_natCast]] at HIN
 have HH := Lib.hid h
 have a1 : ((3 * (k + 4) : Nat) : Int).tmod 3 = 0 := by rw [Int.tmod_eq_emod_of_nonneg (by omega)]; omega
 have a2 : ((3 * (k + 4) : Nat) : Int) % 3 = 0 := by omega
 have b1 : decide (kind < 0) = false := by simp; omega
 have b2 : decide (kind > 4) = false := by simp; omega
 have b3 : decide (most < 1) = false := by simp; omega
 have b4 : decide (most > 64) = false := by simp; omega
 clear hv h hs hkb
 go_enter Tryz.func122, Tryz.ntmps122
 go_wp2_with fail
 go_step3
 go_wp2_with (first
  | (go_at_call 166; refine (HSZ.out _).mono ?_; rintro e w0 ⟨rfl, rfl⟩)
  | (go_at_call 102; refine (HV.out _).mono ?_; rintro e w0 ⟨rfl, hB0⟩; have HB0 := Lib.hid hB0; have HH0 := Lib.hid (Rdv.below HH.out hB0); clear hB0)
  | (go_at_call 109; refine (HC.out _ HH0.out).mono ?_; rintro e w1 ⟨rfl, rfl⟩)
  | (go_at_call 168; refine (HOR.out _).mono ?_; rintro e w2 ⟨O, on, rfl, hO, hB2⟩; have hon := Rd.len (Own.rd hO); rw [Tu.ordL_len] at hon; subst hon; have HO2 := Lib.hid (Own.rd hO); have HH2 := Lib.hid (Rdv.below HH0.out hB2); have HB2 := Lib.hid (HB0.out.trans (hB2.mono HB0.out.size)); clear hO hB2)
  | (go_at_call 169; refine (HIN.out _).mono ?_; rintro e w1 ⟨I, im, rfl, hI, hB1⟩; have him := Rd.len (Own.rd hI); rw [inv_len] at him; subst him; have HI1 := Lib.hid (Own.rd hI); have HO1 := Lib.hid (Rdv.below HO2.out hB1); have HH1 := Lib.hid (Rdv.below HH2.out hB1); have HB1 := Lib.hid (HB2.out.trans (hB1.mono HB2.out.size)); clear hI hB1))
 have HCL := Lib.hid (fun W (hW : Below w1.heap.size w1 W) => cloneI_any S (3 * (k + 4)) cs vs W (Rdv.below HH1.out hW) (by omega))
 have HS : Hid (Below w1.heap.size w1 w1.drew) := Lib.hid (Below.refl _ _).drew
 clear HOR HIN HC HV HSZ a1 a2 b1 b2 b3 b4 HH HH0 HH2 HO2 HB0 HB2
 go_cut [6, 7] from 50 to 57 (fun v6 v7 wx => BgX k vs w1 v6 v7 wx)
 case first =>
  refine Q_start (fun W => Below w1.heap.size w1 W) 7 10 ?_
  refine Q_W 0 50 1 (.slice S (3 * (k + 4)) cs) rfl HS.out ?_
  simp only [z0, z1, z2]
  refine Q_W 2 52 5 (.slice O k k) rfl HS.out ?_
  simp only [z0, z1, z2]
  refine Q_W 3 53 13 (.slice I k k) rfl HS.out ?_
  simp only [z0, z1, z2]
  refine Q_W 4 54 29 (.int .i64 (k : Int)) rfl HS.out ?_
  simp only [z0, z1, z2]
  generalize w1.drew = wd at *
  refine Q_2S 1 5 31 61 rfl rfl (fun K hK => ?_) (fun K hK => ?_)
  · go_simp
    refine (HCL.out wd HS.out).mono ?_
    rintro e wa ⟨V, vc, rfl, hV, hB1⟩
    have HV := Lib.hid hV
    have HSc := Lib.hid (HS.out.trans (hB1.mono HS.out.size))
    clear hB1 hV
    refine hK _ _ HSc.out ?_
    clear hK K
    refine Q_1S 5 63 rfl (fun K hK => ?_)
    refine wp_mkd 55 (.tmp 54) (.tmp 54) 39 rfl rfl el22 rfl rfl (by omega) (by unfold maxLen; omega) ?_
    intro A wb hA hB1 hA0
    have HA : Hid (Own .i64 3 wb wa.heap.size A k k (List.replicate k 0)) := Lib.hid (by unfold Own; simpa using hA)
    have HV := Lib.hid (Ownv.below HV.out hB1)
    have HScm := Lib.hid (HSc.out.trans (hB1.mono HSc.out.size))
    clear hB1 hA hA0
    refine hK _ _ HScm.out ?_
    clear hK K
    simp only [z0, z1, z2]
    refine Q_W 6 56 127 (.agg #[.slice V (3 * (k + 4)) vc, .slice O k k, .slice I k k, .slice A k k, .slice none 0 0, .int .i64 0]) rfl HScm.out ?_
    simp only [z0, z1, z2]
    refine Q_1 7 255 rfl (fun K hK => ?_)
    go_simp
    have HF : Hid (BgX k vs w1 (.pointer (some ⟨wb.heap.size, 0, none⟩)) (.int .i64 0) (wb.alloc (.cells #[.slice V (3 * (k + 4)) vc, .slice O k k, .slice I k k, .slice A k k, .slice none 0 0, .int .i64 0] 192))) := Lib.hid ⟨rfl, wb.heap.size, V, vc, O, k, I, k, A, k, rfl, ⟨Blk.new wb [.slice V (3 * (k + 4)) vc, .slice O k k, .slice I k k, .slice A k k, .slice none 0 0, .int .i64 0] 192 rfl, Rdv.alloc (Own.rd HV.out) _, Rdv.alloc (Rdv.below HO1.out HScm.out) _, Rdv.alloc (Rdv.below HI1.out HScm.out) _, Rdv.alloc (Own.rd HA.out) _, Rd.nilv .u8 _, own_ne_top HV.out, rd_ne_top (Rdv.below HO1.out HScm.out) hk0, rd_ne_top (Rdv.below HI1.out HScm.out) hk0, own_ne_top HA.out, fun h => absurd rfl h⟩, HScm.out.size, HScm.out.alloc HScm.out.size _⟩
    refine hK _ _ ?_
    clear hK K
    refine Q_1 8 511 rfl (fun K hK => ?_)
    go_simp
    refine hK _ _ ?_
    clear hK K
    refine Q_1 9 1023 rfl (fun K hK => ?_)
    go_simp
    refine hK _ _ ?_
    clear hK K
    refine Q_end ?_
    go_wp2_with fail
    go_meet
    exact HF.out
  · refine wp_mkd 55 (.tmp 54) (.tmp 54) 39 rfl rfl el22 rfl rfl (by omega) (by unfold maxLen; omega) ?_
    intro A wa hA hB1 hA0
    have HA : Hid (Own .i64 3 wa wd.heap.size A k k (List.replicate k 0)) := Lib.hid (by unfold Own; simpa using hA)
    have HSm := Lib.hid (HS.out.trans (hB1.mono HS.out.size))
    clear hB1 hA hA0
    refine hK _ _ HSm.out ?_
    clear hK K
    simp only [z0, z1, z2]
    refine Q_1S 1 63 rfl (fun K hK => ?_)
    go_simp
    refine (HCL.out wa HSm.out).mono ?_
    rintro e wb ⟨V, vc, rfl, hV, hB1⟩
    have HV := Lib.hid hV
    have HA := Lib.hid (Ownv.below HA.out hB1)
    have HSmc := Lib.hid (HSm.out.trans (hB1.mono HSm.out.size))
    clear hB1 hV
    refine hK _ _ HSmc.out ?_
    clear hK K
    refine Q_W 6 56 127 (.agg #[.slice V (3 * (k + 4)) vc, .slice O k k, .slice I k k, .slice A k k, .slice none 0 0, .int .i64 0]) rfl HSmc.out ?_
    simp only [z0, z1, z2]
    refine Q_1 7 255 rfl (fun K hK => ?_)
    go_simp
    have HF : Hid (BgX k vs w1 (.pointer (some ⟨wb.heap.size, 0, none⟩)) (.int .i64 0) (wb.alloc (.cells #[.slice V (3 * (k + 4)) vc, .slice O k k, .slice I k k, .slice A k k, .slice none 0 0, .int .i64 0] 192))) := Lib.hid ⟨rfl, wb.heap.size, V, vc, O, k, I, k, A, k, rfl, ⟨Blk.new wb [.slice V (3 * (k + 4)) vc, .slice O k k, .slice I k k, .slice A k k, .slice none 0 0, .int .i64 0] 192 rfl, Rdv.alloc (Own.rd HV.out) _, Rdv.alloc (Rdv.below HO1.out HSmc.out) _, Rdv.alloc (Rdv.below HI1.out HSmc.out) _, Rdv.alloc (Own.rd HA.out) _, Rd.nilv .u8 _, own_ne_top HV.out, rd_ne_top (Rdv.below HO1.out HSmc.out) hk0, rd_ne_top (Rdv.below HI1.out HSmc.out) hk0, own_ne_top HA.out, fun h => absurd rfl h⟩, HSmc.out.size, HSmc.out.alloc HSmc.out.size _⟩
    refine hK _ _ ?_
    clear hK K
    refine Q_1 8 511 rfl (fun K hK => ?_)
    go_simp
    refine hK _ _ ?_
    clear hK K
    refine Q_1 9 1023 rfl (fun K hK => ?_)
    go_simp
    refine hK _ _ ?_
    clear hK K
    refine Q_end ?_
    go_wp2_with fail
    go_meet
    exact HF.out
 case rest =>
  obtain ⟨rfl, D, V, vc, O2, oc, I2, ic, A, ac, rfl, hDS, hD, hB⟩ := hcut
  have HDS := Lib.hid hDS
  have HDl := Lib.hid (Nat.le_trans HB1.out.size hD)
  have HBF := Lib.hid (HB1.out.trans (hB.mono HB1.out.size))
  clear hDS hD hB
  go_wp2
  rw [Exit.noGoto_ret]
  go_ret2
  exact ⟨D, V, vc, O2, oc, I2, ic, A, ac, rfl, HDS.out, HDl.out, HBF.out⟩
end Go.Proofs.YtkdfefpnhaebfaaGreat
namespace Go.Proofs.YtkdfefpnhaebfaaGreat.Cr
open Go.RowKit
theorem el53 : El Tryz.prog 28 5 (.int .u8 0) 1 := ⟨by kernel_rfl, by kernel_rfl, fun _ => by kernel_rfl, rfl⟩
def SameInv (w : World) (n : Nat) (xs ys : List Int) (i : Value) (wr : World) : Prop := ∃ j : Nat, j ≤ n ∧ i = .int .i64 j ∧ (∀ q, q < j → gi xs q = gi ys q) ∧ Qt w wr
def ValidB (xs : List Int) : Bool := xs.all (fun x => decide (x ≤ 1))
theorem validB_f {xs : List Int} {j : Nat} (hj : j < xs.length) (h : 1 < gi xs j) : ValidB xs = false := by
 rw [Bool.eq_false_iff]; intro hh
 have := all_gi.1 hh j hj
 simp at this; omega
theorem validB_t {xs : List Int} (h : ∀ q, q < xs.length → gi xs q ≤ 1) : ValidB xs = true := all_gi.2 fun j hj => by simpa using h j hj
/-! ### Poly -/
theorem validB_take {xs : List Int} (m : Nat) (h : ValidB xs = true) : ValidB (xs.take m) = true := by
 unfold ValidB at *
 rw [List.all_eq_true] at *
 intro x hx; exact h x (List.mem_of_mem_take hx)
set_option maxRecDepth 100000
set_option maxHeartbeats 400000
/-! ### slices.Equal -/
theorem equal_any (A B : Option Addr) (n c m d : Nat) (xs ys : List Int) (w : World) (hx : Rd .u8 w A n c xs) (hy : Rd .u8 w B m d ys) :
 Calls Tryz.prog 184 #[.slice A n c, .slice B m d] w fun e w' => e = .returned (.bool (decide (xs = ys))) ∧ Qt w w' := by
 have b1 := hx.bd.1
 have b2 := hy.bd.1
 by_cases hnm : n = m
 · subst hnm
   have hne : ((n : Int) != (n : Int)) = false := bne_f rfl
   go_enter Tryz.func184, Tryz.ntmps184
   go_wp2
   go_loopw [13] (fun i wr => SameInv w n xs ys i wr) (fun i _ => n - (intOf i).toNat)
   case atStart => exact ⟨0, by omega, rfl, by intro q hq; omega, 0, rfl⟩
   case round =>
    obtain ⟨j, hj, rfl, hv, q0, rfl⟩ := hrel
    by_cases hlt : j < n
    · have hc := Rd.cell hx hlt
      have hd := Rd.cell hy hlt
      have hix := fun W => Rdv.ix hx el53 hlt .i64 W
      have hiy := fun W => Rdv.ix hy el53 hlt .i64 W
      have HV := Lib.hid hv; clear hv
      by_cases h1 : gi xs j = gi ys j
      · have h1' := bne_f h1
        have H1 := Lib.hid h1; clear h1
        go_wp2
        go_quiet (fail)
        go_wp2
        go_roundw
        case rel => exact ⟨j + 1, by omega, by go_num, fun q hq => lt_succ_cases HV.out H1.out q hq, by first | exact ⟨_, rfl⟩ | exact Qt.drewN ⟨_, rfl⟩ _⟩
        case measure => simp [intOf]; omega
      · have h1' := bne_t h1
        have hf : decide (xs = ys) = false := by simp; rintro rfl; exact h1 rfl
        go_wp2
        go_quiet (fail)
        go_wp2
        go_ret
        exact ⟨ret_bool hf.symm, by first | exact ⟨_, rfl⟩ | exact Qt.drewN ⟨_, rfl⟩ _⟩
    · have hf : decide (xs = ys) = true := by
       have hl1 := hx.len; have hl2 := hy.len
       simp only [decide_eq_true_eq]
       refine ext_gi (by rw [hl1, hl2]) fun q hq => hv q (by omega)
      go_wp2
      go_ret
      exact ⟨ret_bool hf.symm, by first | exact ⟨_, rfl⟩ | exact Qt.drewN ⟨_, rfl⟩ _⟩
 · have hne : ((n : Int) != (m : Int)) = true := bne_t (by omega)
   have hf : decide (xs = ys) = false := by
    simp; rintro rfl; have := hx.len; have := hy.len; omega
   go_enter Tryz.func184, Tryz.ntmps184
   go_wp2
   go_ret
   exact ⟨ret_bool hf.symm, 0, rfl⟩
theorem inv1_any (b : Int) (w : World) : Calls Tryz.prog 200 #[.int .u8 b] w fun e w' => e = .returned (.bool (decide (1 < b))) ∧ w = w' := by
 go_enter Tryz.func200, Tryz.ntmps200
 go_wp2
 go_ret
 exact ⟨rfl, rfl⟩
def IdxInv (n : Nat) (xs : List Int) (i : Value) : Prop := ∃ j : Nat, j ≤ n ∧ i = .int .i64 j ∧ ∀ q, q < j → gi xs q ≤ 1
def IdxPost (xs : List Int) (w : World) (e : Ending) (w' : World) : Prop := ∃ r : Int, e = .returned (.int .i64 r) ∧ (0 ≤ r ↔ ValidB xs = false) ∧ w = w'
theorem idx_any (A : Option Addr) (n c : Nat) (xs : List Int) (w : World) (h : Rd .u8 w A n c xs) :
 Calls Tryz.prog 113 #[.slice A n c, .func (.func 200) #[] #[]] w (IdxPost xs w) := by
 have hbd := h.bd.1
 go_enter Tryz.func113, Tryz.ntmps113
 go_wp2
 go_loop [8] (fun i => IdxInv n xs i) (fun i => n - (intOf i).toNat)
 case atStart => exact ⟨0, by omega, rfl, by intro q hq; omega⟩
 case round =>
  obtain ⟨j, hj, rfl, hv⟩ := hrel
  by_cases hlt : j < n
  · have hc := Rd.cell h hlt
    have hix := fun W => Rdv.ix h el53 hlt .i64 W
    have HV := Lib.hid hv; clear hv
    by_cases h1 : gi xs j ≤ 1
    · have h1' : decide (1 < gi xs j) = false := by simp; omega
      go_wp2_with (go_at_call 200; refine (inv1_any _ _).mono ?_; rintro e w' ⟨rfl, rfl⟩)
      go_round
      case rel => exact ⟨j + 1, by omega, by go_num, fun q hq => lt_succ_cases HV.out h1 q hq⟩
      case measure => simp [intOf]; omega
    · have h1' : decide (1 < gi xs j) = true := by simp; omega
      have hf := Lib.hid (validB_f (by rw [h.len]; exact hlt) (by omega : 1 < gi xs j))
      go_wp2_with (go_at_call 200; refine (inv1_any _ _).mono ?_; rintro e w' ⟨rfl, rfl⟩)
      go_ret
      exact ⟨_, rfl, by rw [hf.out]; simp, rfl⟩
  · have hf := Lib.hid (validB_t (xs := xs) (by rw [h.len]; intro q hq; exact hv q (by omega)))
    go_wp2
    go_ret
    exact ⟨_, rfl, by rw [hf.out]; simp, rfl⟩
theorem contains_any (A : Option Addr) (n c : Nat) (xs : List Int) (w : World) (h : Rd .u8 w A n c xs) :
 Calls Tryz.prog 61 #[.slice A n c, .func (.func 200) #[] #[]] w fun e w' => e = .returned (.bool (!ValidB xs)) ∧ w = w' := by
 go_enter Tryz.func61, Tryz.ntmps61
 go_wp2_with (go_at_call 113; refine (idx_any A n c xs w h).mono ?_; rintro e w' ⟨r, rfl, hr, rfl⟩)
 go_ret
 refine ⟨ret_bool ?_, rfl⟩
 cases hv : ValidB xs <;> simp_all
theorem invalid_any (A : Option Addr) (n c : Nat) (xs : List Int) (w : World) (h : Rd .u8 w A n c xs) :
 Calls Tryz.prog 151 #[.slice A n c] w fun e w' => e = .returned (.bool (!ValidB xs)) ∧ w = w' := by
 go_enter Tryz.func151, Tryz.ntmps151
 go_wp2_with (go_at_call 61; refine (contains_any A n c xs w h).mono ?_; rintro e w' ⟨rfl, rfl⟩)
 go_ret
 exact ⟨rfl, rfl⟩
/-! ### slices.Clone -/
theorem clone_any (A : Option Addr) (n c : Nat) (xs : List Int) (w : World) (h : Rd .u8 w A n c xs) (hn : n ≤ 100000) :
 Calls Tryz.prog 50 #[.slice A n c] w fun e w' => ∃ A' c', e = .returned (.slice A' n c') ∧ Own .u8 5 w' w.heap.size A' n c' xs ∧ Below w.heap.size w w' := by
 have e1 := fun W => Lib.run_eql_slice_nil (P := Tryz.prog) W 28 5 A n c 0 0 el53.u
 cases A with
 | none =>
   have hc := h.nil rfl
   have hnc := h.le
   obtain rfl : n = 0 := by omega
   subst hc
   obtain rfl : xs = [] := List.eq_nil_of_length_eq_zero h.len
   go_enter Tryz.func50, Tryz.ntmps50
   go_wp2
   go_ret
   exact ⟨none, 0, rfl, Own.nilv .u8 5 w _, Below.refl _ _⟩
 | some ad =>
   have h1 := Rdv.alloc h (.cells #[] 5)
   have hO0 : Ownv 5 (w.alloc (.cells #[] 5)) w.heap.size (some ⟨w.heap.size, 0, none⟩) 0 0 [] := Ownv.lit w #[] 5 rfl (Nat.le_refl _) (Nat.zero_le _)
   go_enter Tryz.func50, Tryz.ntmps50
   go_wp2_with (at_builtin; go_loud (refine list_of rfl fun K hK => wp_app _ _ 28 rfl el53 rfl rfl hO0 h1 (oneCell_ints .u8 xs) (by omega) (by unfold maxLen; omega) (by simp) ?_); intro A' c' w' hO hg; refine hK _ _ ?_; clear hK K)
   go_ret
   exact ⟨A', c', ret_sl rfl rfl rfl, Own.of_eq hO (Nat.zero_add n) (List.nil_append _), (Below.refl _ _).grown (grownBy_of_alloc hg) (Nat.le_refl _) (by simp [Value.ownBlock])⟩
/-! ### slices.Grow(nil, n) -/
theorem grow_any (n : Nat) (w : World) (hn : n ≤ 1000000) :
 Calls Tryz.prog 63 #[.slice none 0 0, .int .i64 n] w fun e w' => ∃ A' c', e = .returned (.slice A' 0 c') ∧ Ownv 5 w' w.heap.size A' 0 c' [] ∧ Below w.heap.size w w' := by
 by_cases h0 : n = 0
 · subst h0
   go_enter Tryz.func63, Tryz.ntmps63
   go_wp2
   go_ret
   exact ⟨none, 0, rfl, Ownv.nilv 5 w _, Below.refl _ _⟩
 · have h1 : (0 : Int) < (n : Int) := by omega
   go_enter Tryz.func63, Tryz.ntmps63
   go_wp2_with (at_builtin; go_loud (refine list_of rfl fun K hK => wp_appz _ _ 28 3 rfl el53 (kn := .i64) (by kernel_rfl) rfl n rfl rfl rfl (Ownv.nilv 5 w w.heap.size) (by omega) (by omega) (Nat.le_refl _) ?_); intro A' c' w' hO hg; have hsl := fun W => Rdv.slh hO.rd el53 .i64 (Nat.zero_le c') W; refine hK _ _ ?_; clear hK K)
   go_ret
   exact ⟨A', c', rfl, Ownv.upto hO (Nat.zero_le _), (Below.refl _ _).grown hg (Nat.le_refl _) (by simp [Value.ownBlock])⟩
/-! ### split -/
def splitL (v : Int) (n : Nat) : List Int := (List.range n).map fun j => IntKind.u8.wrap (bits .and .u32 (v / 2 ^ (n - 1 - j)) 1)
theorem splitL_step (v : Int) (n j : Nat) (hj : j < n) : ((splitL v n).take j ++ List.replicate (n - j) 0).set j (IntKind.u8.wrap (bits .and .u32 (v / 2 ^ (n - 1 - j)) 1)) = (splitL v n).take (j + 1) ++ List.replicate (n - (j + 1)) 0 := by
 have hl : (splitL v n).length = n := by simp [splitL]
 rw [List.set_append_right _ _ (by rw [List.length_take]; omega), List.length_take, Nat.min_eq_left (by omega), Nat.sub_self, show n - j = (n - (j + 1)) + 1 by omega, List.replicate_succ, List.set_cons_zero,
  List.take_succ_eq_append_getElem (by omega), List.append_assoc]
 simp [splitL]
def SplitInv (w1 : World) (v : Int) (n : Nat) (A : Option Addr) (i : Value) (wr : World) : Prop := ∃ j : Nat, j ≤ n ∧ i = .int .i64 j ∧
 Own .u8 5 wr w1.heap.size A n n ((splitL v n).take j ++ List.replicate (n - j) 0) ∧ Below w1.heap.size w1 wr
theorem split_any (v : Int) (n : Nat) (w : World) (hn : n ≤ 32) :
 Calls Tryz.prog 152 #[.int .u32 v, .int .i64 n] w fun e w' => ∃ A' c', e = .returned (.slice A' n c') ∧ Own .u8 5 w' w.heap.size A' n c' (splitL v n) ∧ Below w.heap.size w w' := by
 go_enter Tryz.func152, Tryz.ntmps152
 go_wp2_with (at_make; refine list_of rfl fun K hK => wp_mk _ _ 28 rfl el53 rfl rfl (by omega) (by unfold maxLen; omega) ?_; intro A w1 hO hB1 hA; refine hK _ _ ?_; clear hK K)
 go_loopw [11] (fun i wr => SplitInv w v n A i wr) (fun i _ => n - (intOf i).toNat)
 case atStart => exact ⟨0, by omega, rfl, Own.of_eq hO rfl (by simp), hB1⟩
 case round =>
  obtain ⟨j, hj, rfl, hOj, hBj⟩ := hrel
  by_cases hlt : j < n
  · have hix := fun W => Rdv.ix (Own.rd hOj) el53 hlt .i64 W
    have hcell := Rd.cell (Own.rd hOj) hlt
    have hfz := Ownv.frozen hOj (by omega) j
    have HSET := Lib.hid (Own.set_ hOj hlt (IntKind.u8.wrap (bits .and .u32 (v / 2 ^ (n - 1 - j)) 1)))
    go_wp2
    go_roundw
    case rel => exact ⟨j + 1, by omega, by go_num, Own.of_eq HSET.out.1 rfl (by rw [splitL_step v n j hlt]), hBj.grown HSET.out.2 hBj.size (fun k hk => by injection hk with hk; rw [← hk]; exact (Ownv.blk_ge hOj (by omega)).1)⟩
    case measure => simp [intOf]; omega
  · obtain rfl : j = n := by omega
    go_wp2
    go_ret
    exact ⟨_, _, rfl, Own.of_eq hOj rfl (by rw [Nat.sub_self, List.replicate_zero, List.append_nil, List.take_of_length_le (by simp [splitL])]), hBj⟩
end Go.Proofs.YtkdfefpnhaebfaaGreat.Cr
