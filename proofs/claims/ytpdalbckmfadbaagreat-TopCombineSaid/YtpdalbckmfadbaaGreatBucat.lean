/-
  Bundle of the texts Ij Il Id Im In Xa Xb CrM CrM2 CrP. Conditions: none.
-/
import Derived.Test.YtpdalbckmfadbaaGreatBucas
import Derived.Test.YtpdalbckmfadbaaGreatBucap
import Derived.Test.YtpdalbckmfadbaaGreatBucar
import Derived.Laws.BitsAllLaws
import Derived.Laws.BitsLemmas
namespace Go.Proofs.YtpdalbckmfadbaaGreat
open Go.RowKit
set_option linter.unusedVariables false
attribute [local go_sem] Oper.semAt_some
theorem dEs_bd (o : Ob) (i : Nat) : -127 ≤ gi o.dE i ∧ gi o.dE i ≤ 127 := by
  unfold Ob.dE
  split
  · rcases Nat.lt_or_ge i o.a.length with h | h
    · rw [gi_range _ h]; unfold Ob.eT; exact ext_bd _
    · rw [gi_over (by simpa using h)]; omega
  · rw [gi_over (by simp)]; omega
theorem soft_gi {vs : List Int} (h : SoftB vs = true) (i : Nat) : -127 ≤ gi vs i ∧ gi vs i ≤ 127 := by
  rcases Nat.lt_or_ge i vs.length with h1 | h1
  · exact softB_mem h _ (gi_mem vs i h1)
  · rw [gi_over h1]; omega
theorem pk_bd {xs : List Int} (h : ∀ i, -127 ≤ gi xs i ∧ gi xs i ≤ 127) (l : List Int) : ∀ v ∈ pk xs l, -127 ≤ v ∧ v ≤ 127 := fun v hv => by
  unfold pk at hv
  obtain ⟨i, -, rfl⟩ := List.mem_map.1 hv
  exact h _
theorem bkL_len (k code : Nat) : (bkL k code).length = k := by
  unfold bkL; split
  · exact Tu.ordL_len k
  · exact inv_len
theorem apN_ok (vs : List Int) (k : Nat) : ∀ h, (apN vs k h).length = k ∧ ∀ v ∈ apN vs k h, -127 ≤ v ∧ v ≤ 127
  | 0 => ⟨List.length_replicate .., fun v hv => by have := List.eq_of_mem_replicate hv; omega⟩
  | h + 1 => ⟨by show (pk _ _).length = k; rw [pk_len, bkL_len], pk_bd (dEs_bd _) _⟩
theorem obN_ok {vs : List Int} {k : Nat} (hv : SoftB vs = true) (hk : 1 ≤ k ∧ k ≤ 6144) (h : Nat) : (obN vs k h).ok := by
  obtain ⟨h1, h2⟩ := apN_ok vs k h
  refine ⟨by show 1 ≤ (apN vs k h).length; omega, by show (apN vs k h).length ≤ _; omega, by show (pk _ _).length = (apN vs k h).length + 3; rw [pk_len, sys_len, h1], by show (pk _ _).length = (apN vs k h).length + 3; rw [pk_len, par_len, h1], pk_bd (soft_gi hv) _, pk_bd (soft_gi hv) _, h2⟩
/-- the decisions before -/
noncomputable def befN (vs : List Int) (k : Nat) : Nat → List Int
  | 0 => []
  | h + 1 => decN vs k h
/-- the decisions of half-iteration h + 1 pass -/
noncomputable def okN (kind : Int) (vs : List Int) (k h : Nat) : Bool := if kind = 0 then decide (2 ≤ h + 1) && decide (decN vs k h = befN vs k h) else decide (Cr.chkErr kind (decN vs k h) = 0)
theorem cd_odd {h : Nat} (e : (h + 1) % 2 = 1) : cdN (h + 1) = 1 := by unfold cdN; rw [if_pos e]
theorem cd_even {h : Nat} (e : (h + 1) % 2 = 0) : cdN (h + 1) = 2 := by unfold cdN; rw [if_neg (by omega)]
/-- the state of a decoder behind h half-iterations -/
def StN (W : World) (D k : Nat) (vs : List Int) (h : Nat) : Prop := ∃ V vc O oc I ic A ac B bn bc, DS W D k vs (apN vs k h) (befN vs k h) h V vc O oc I ic A ac B bn bc
theorem StN.lt {W : World} {D k : Nat} {vs : List Int} {h : Nat} (hs : StN W D k vs h) : D < W.heap.size := by
  obtain ⟨V, vc, O, oc, I, ic, A, ac, B, bn, bc, hd⟩ := hs
  exact hd.b.lt
/-- a half-iteration -/
theorem next_any (D k u h : Nat) (vs : List Int) (w : World) (hu : k = Tu.szK u) (hs : StN w D k vs h) (hv : SoftB vs = true) (hh : h ≤ 1000) :
    Calls Tryz.prog 50 #[.pointer (some ⟨D, 0, none⟩)] w fun e w' => ∃ R rc V vc O oc I ic A ac B bn bc, e = .returned (.slice R k rc) ∧ Rd .u8 w' R k rc (decN vs k h) ∧ (R ≠ none → w.heap.size ≤ blk R) ∧ DS w' D k vs (apN vs k (h + 1)) (befN vs k h) (h + 1) V vc O oc I ic A ac B bn bc ∧ w.grownBy w' (some D) := by
  obtain ⟨V, vc, O, oc, I, ic, A, ac, B, bn, bc, hd⟩ := hs
  have hval : Tu.validK (k : Int) = true := by rw [hu]; exact Tu.szK_valid u
  have hb := Tu.szK_bd u
  rw [← hu] at hb
  have hok := obN_ok (vs := vs) (k := k) hv ⟨by omega, by omega⟩ h
  rcases Nat.mod_two_eq_zero_or_one (h + 1) with e | e
  · have c := cd_even e
    have eo : obN vs k h = obH vs k 2 (apN vs k h) := by unfold obN; rw [c]
    rw [eo] at hok
    refine (next2_any D k h vs (apN vs k h) (befN vs k h) V vc O oc I ic A ac B bn bc w hd hval hok (fun j hj => ?_) hh e).mono ?_
    · obtain ⟨p, e1, e2⟩ := sys_bd hu (.inr rfl) hj
      obtain ⟨q, e3, e4⟩ := par_bd (k := k) (code := 2) (.inr rfl) hj
      rw [e1, e3]; omega
    · rintro en w' ⟨R, rc, A', ac', rfl, h1, h2, h3, h4⟩
      refine ⟨R, rc, V, vc, O, oc, I, ic, A', ac', B, bn, bc, rfl, ?_, h2, ?_, h4⟩
      · unfold decN; rw [c, eo]; exact h1
      · have : apN vs k (h + 1) = pk (obH vs k 2 (apN vs k h)).dE (bkL k 2) := by show pk (obH vs k (cdN (h + 1)) _).dE (bkL k (cdN (h + 1))) = _; rw [c]
        rw [this]; exact h3
  · have c := cd_odd e
    have eo : obN vs k h = obH vs k 1 (apN vs k h) := by unfold obN; rw [c]
    rw [eo] at hok
    refine (next1_any D k h vs (apN vs k h) (befN vs k h) V vc O oc I ic A ac B bn bc w hd hval hok (fun j hj => ?_) hh e).mono ?_
    · obtain ⟨p, e1, e2⟩ := sys_bd hu (.inl rfl) hj
      obtain ⟨q, e3, e4⟩ := par_bd (k := k) (code := 1) (.inl rfl) hj
      rw [e1, e3]; omega
    · rintro en w' ⟨R, rc, A', ac', rfl, h1, h2, h3, h4⟩
      refine ⟨R, rc, V, vc, O, oc, I, ic, A', ac', B, bn, bc, rfl, ?_, h2, ?_, h4⟩
      · unfold decN; rw [c, eo]; exact h1
      · have : apN vs k (h + 1) = pk (obH vs k 1 (apN vs k h)).dE (bkL k 1) := by show pk (obH vs k (cdN (h + 1)) _).dE (bkL k (cdN (h + 1))) = _; rw [c]
        rw [this]; exact h3
theorem pass_any (D k h : Nat) (vs : List Int) (kind : Int) (R : Option Addr) (rc : Nat) (V : Option Addr) (vc : Nat) (O : Option Addr) (oc : Nat) (I : Option Addr) (ic : Nat) (A : Option Addr) (ac : Nat) (B : Option Addr) (bn bc : Nat) (w : World) (hk : 0 ≤ kind) (hs : DS w D k vs (apN vs k (h + 1)) (befN vs k h) (h + 1) V vc O oc I ic A ac B bn bc) (hr : Rd .u8 w R k rc (decN vs k h)) (hrn : R ≠ none → blk R ≠ D) (hh : h ≤ 1000) (hn : k ≤ 6144) :
    Calls Tryz.prog 51 #[.pointer (some ⟨D, 0, none⟩), .slice R k rc, .int .i64 kind] w fun e w' => e = .returned (.bool (okN kind vs k h)) ∧ StN w' D k vs (h + 1) ∧ Rd .u8 w' R k rc (decN vs k h) ∧ w'.cell? ⟨D, 5, none⟩ = some (.int .i64 ((h + 1 : Nat) : Int)) ∧ w.grownBy w' (some D) := by
  have fin : ∀ {p : Bool} {e : Ending} {w' : World}, okN kind vs k h = p → (e = .returned (.bool p) ∧ DS w' D k vs (apN vs k (h + 1)) (decN vs k h) (h + 1) V vc O oc I ic A ac R k rc ∧ w.grownBy w' (some D)) → (e = .returned (.bool (okN kind vs k h)) ∧ StN w' D k vs (h + 1) ∧ Rd .u8 w' R k rc (decN vs k h) ∧ w'.cell? ⟨D, 5, none⟩ = some (.int .i64 ((h + 1 : Nat) : Int)) ∧ w.grownBy w' (some D)) := by
    rintro p e w' hp ⟨h1, h2, h3⟩
    exact ⟨by rw [hp]; exact h1, ⟨V, vc, O, oc, I, ic, A, ac, R, k, rc, h2⟩, h2.p, h2.b.cell rfl, h3⟩
  rcases (by omega : kind = 0 ∨ kind = 1 ∨ 1 < kind) with h0 | h0 | h0
  · rw [h0] at fin ⊢
    exact (passes0_any R k rc (decN vs k h) w hs hr hrn (by omega) (by omega)).mono fun e w' hp => fin (by unfold okN; rw [if_pos rfl]) hp
  · rw [h0] at fin ⊢
    exact (passes1_any R k rc (decN vs k h) w hs hr hrn (by omega) (by omega)).mono fun e w' hp => fin (by unfold okN; rw [if_neg (by decide)]) hp
  · exact (passes2_any kind h0 R k rc (decN vs k h) w hs hr hrn (by omega) (by omega)).mono fun e w' hp => fin (by unfold okN; rw [if_neg (by omega)]) hp
/-- what Decode gives for arguments without error -/
def DcP (k : Nat) (vs : List Int) (kind : Int) (most : Nat) (w : World) (e : Ending) (w' : World) : Prop :=
  Below w.heap.size w w' ∧ ((∃ h, h < most ∧ okN kind vs k h = true ∧ (∀ q, q < h → okN kind vs k q = false) ∧ ∃ R rc, e = .returned (.tuple #[.slice R k rc, .int .i64 ((h + 1 : Nat) : Int), .int .i64 0]) ∧ Rd .u8 w' R k rc (decN vs k h) ∧ (R ≠ none → w.heap.size ≤ blk R)) ∨
    ((∀ q, q < most → okN kind vs k q = false) ∧ e = .returned (.tuple #[.slice none 0 0, .int .i64 0, .int .i64 11])))
def DcI (w : World) (D k : Nat) (vs : List Int) (kind : Int) (most : Nat) (i : Value) (wr : World) : Prop := ∃ h : Nat, h ≤ most ∧ i = .int .i64 (h : Int) ∧ StN wr D k vs h ∧ (∀ q, q < h → okN kind vs k q = false) ∧ Below w.heap.size w wr
set_option maxRecDepth 100000 in
set_option maxHeartbeats 2000000 in
theorem decode_half (S : Option Addr) (k u cs : Nat) (vs : List Int) (kind : Int) (most : Nat) (w : World) (h : Rd .i64 w S (3 * (k + 4)) cs vs) (hu : k = Tu.szK u) (hk : 0 ≤ kind ∧ kind ≤ 4) (hm : 1 ≤ most ∧ most ≤ 64) (hs : SoftB vs = true) :
    Calls Tryz.prog 15 #[.slice S (3 * (k + 4)) cs, .int .i64 kind, .int .i64 (most : Int)] w (DcP k vs kind most w) := by
  have hval : Tu.validK (k : Int) = true := by rw [hu]; exact Tu.szK_valid u
  have hb := Tu.szK_bd u
  rw [← hu] at hb
  have HBG := Lib.hid (begun_ok S k cs vs kind (most : Int) w h hval hk (by omega) hs)
  have HNX := Lib.hid (fun D h W hst hh => next_any D k u h vs W hu hst hs hh)
  have HPS := Lib.hid (fun D h R rc V vc O oc I ic A ac B bn bc W h1 h2 h3 hh => pass_any D k h vs kind R rc V vc O oc I ic A ac B bn bc W hk.1 h1 h2 h3 hh (by omega))
  have HM := Lib.hid hm
  clear h hu hs hval hb hk
  go_enter Tryz.func15, Tryz.ntmps15
  go_wp2_with fail
  refine HBG.out.mono ?_
  rintro e w1 ⟨D, V, vc, O, oc, I, ic, A, ac, rfl, hDS, hD, hB⟩
  have HST : Hid (StN w1 D k vs 0) := Lib.hid ⟨V, vc, O, oc, I, ic, A, ac, none, 0, 0, hDS⟩
  have HD := Lib.hid hD
  have HB := Lib.hid hB
  clear hDS hD hB
  go_wp2_with fail
  go_loopw [22] (fun i wr => DcI w D k vs kind most i wr) (fun i _ => most - (intOf i).toNat)
  case atStart => exact ⟨0, by omega, rfl, HST.out, fun q hq => by omega, HB.out⟩
  case round =>
    obtain ⟨h, hh, rfl, hst, hno, hB⟩ := hrel
    have HNO := Lib.hid hno
    have HBr := Lib.hid hB
    have hm2 : most ≤ 64 := HM.out.2
    have HX := Lib.hid (HNX.out D h wr hst (by omega))
    have HDL := Lib.hid (StN.lt hst)
    clear hno hB hst
    by_cases hlt : h < most
    · go_wp2_with fail
      refine HX.out.mono ?_
      rintro e w2 ⟨R, rc, V, vc, O, oc, I, ic, A, ac, B, bn, bc, rfl, hr, hrn, hds, hg⟩
      have HPX := Lib.hid (HPS.out D h R rc V vc O oc I ic A ac B bn bc w2 hds hr (fun hA => by have := hrn hA; have := HDL.out; omega) (by omega))
      have HRB := Lib.hid (fun hA => Nat.le_trans HBr.out.size (hrn hA))
      have HB2 := Lib.hid (HBr.out.grown hg HBr.out.size (fun j e => by cases e; exact HD.out))
      clear hr hrn hds hg
      go_wp2_with fail
      refine HPX.out.mono ?_
      rintro e w3 ⟨rfl, hst, hrd, hc5, hg⟩
      have HS3 := Lib.hid hst
      have HR3 := Lib.hid hrd
      have HB3 := Lib.hid (HB2.out.grown hg HB2.out.size (fun j e => by cases e; exact HD.out))
      clear hst hrd hg
      obtain ⟨p, hp⟩ : ∃ p, p = okN kind vs k h := ⟨_, rfl⟩
      rw [← hp]
      have HP := Lib.hid hp
      clear hp
      cases p with
      | true =>
        go_wp2_with fail
        go_quiet (fail)
        go_wp2
        go_ret3
        exact ⟨HB3.out.trans (Qt.below ⟨nq, rfl⟩ _), .inl ⟨h, hlt, HP.out.symm, HNO.out, R, rc, rfl, Rdv.drewN HR3.out nq, HRB.out⟩⟩
      | false =>
        go_wp2
        go_roundw
        case rel => exact ⟨h + 1, by omega, by go_num, HS3.out, lt_succ_cases HNO.out HP.out.symm, HB3.out⟩
        case measure => simp [intOf]; omega
    · obtain rfl : h = most := by omega
      clear HX
      go_wp2
      go_ret3
      exact ⟨HBr.out, .inr ⟨HNO.out, rfl⟩⟩
end Go.Proofs.YtpdalbckmfadbaaGreat

namespace Go.Proofs.YtpdalbckmfadbaaGreat
open Go.RowKit
set_option linter.unusedVariables false
attribute [local go_sem] Oper.semAt_some
/-- the block size of so many values -/
def kOf (vs : List Int) : Nat := vs.length / 3 - 4
/-- the first half-iteration that passes -/
noncomputable def fdN (vs : List Int) (kind : Int) (most : Int) : Option Nat := (List.range most.toNat).find? (okN kind vs (kOf vs))
noncomputable def itE (vs : List Int) (kind most : Int) : Int := if wrE vs kind most = 0 then (match fdN vs kind most with | some _ => 0 | none => 11) else wrE vs kind most
noncomputable def itH (vs : List Int) (kind most : Int) : Int := if wrE vs kind most = 0 then (match fdN vs kind most with | some h => ((h + 1 : Nat) : Int) | none => 0) else 0
noncomputable def itD (vs : List Int) (kind most : Int) : List Int := if wrE vs kind most = 0 then (match fdN vs kind most with | some h => decN vs (kOf vs) h | none => []) else []
theorem wrE_zero {vs : List Int} {kind most : Int} (h : wrE vs kind most = 0) : vs.length % 3 = 0 ∧ Tu.validK ((vs.length : Int) / 3 - 4) = true ∧ (0 ≤ kind ∧ kind ≤ 4) ∧ (1 ≤ most ∧ most ≤ 64) ∧ SoftB vs = true := by
  unfold wrE at h
  split at h
  · cases h
  · rename_i hc
    split at h
    · rename_i hs
      refine ⟨by omega, ?_, by omega, by omega, hs⟩
      cases hv : Tu.validK ((vs.length : Int) / 3 - 4) with
      | true => rfl
      | false => exact absurd (.inr (.inl hv)) hc
    · cases h
theorem valid_szK {k : Nat} (h : Tu.validK (k : Int) = true) (hk : k ≤ 512) : ∃ u, k = Tu.szK u := by
  unfold Tu.validK at h
  rw [decide_eq_true_iff] at h
  refine ⟨(k - 40) / 8, ?_⟩
  unfold Tu.szK
  omega
def DcA (vs : List Int) (kind most : Int) (w : World) (e : Ending) (w' : World) : Prop :=
  ∃ R n rc, e = .returned (.tuple #[.slice R n rc, .int .i64 (itH vs kind most), .int .i64 (itE vs kind most)]) ∧ Rd .u8 w' R n rc (itD vs kind most) ∧ (R ≠ none → w.heap.size ≤ blk R) ∧ Below w.heap.size w w'
set_option maxRecDepth 100000 in
set_option maxHeartbeats 1000000 in
theorem dec_any (S : Option Addr) (n cs : Nat) (vs : List Int) (kind most : Int) (w : World) (h : Rd .i64 w S n cs vs) (hn : n ≤ 600) :
    Calls Tryz.prog 15 #[.slice S n cs, .int .i64 kind, .int .i64 most] w (DcA vs kind most w) := by
  have hl := Rd.len h
  by_cases hE : wrE vs kind most = 0
  · obtain ⟨h3, hv, hk, hm, hs⟩ := wrE_zero hE
    have hkb := Tu.valid_bd hv
    have hkn : ((vs.length : Int) / 3 - 4) = ((kOf vs : Nat) : Int) := by unfold kOf; omega
    rw [hkn] at hv hkb
    have hn3 : n = 3 * (kOf vs + 4) := by omega
    obtain ⟨u, hu⟩ := valid_szK hv (by unfold kOf; omega)
    obtain ⟨m, rfl⟩ := Int.eq_ofNat_of_zero_le (show 0 ≤ most by omega)
    rw [hn3] at h ⊢
    refine (decode_half S (kOf vs) u cs vs kind m w h hu hk (by omega) hs).mono ?_
    rintro e w' ⟨hB, ⟨j, h1, h2, h3, R, rc, rfl, hR, hF⟩ | ⟨h1, rfl⟩⟩
    · have hf : fdN vs kind (m : Int) = some j := by
        unfold fdN
        rw [Int.toNat_natCast, List.find?_range_eq_some]
        exact ⟨h2, List.mem_range.2 h1, fun q hq => by rw [h3 q hq]; rfl⟩
      refine ⟨R, kOf vs, rc, ?_, ?_, hF, hB⟩
      · unfold itH itE; rw [if_pos hE, if_pos hE, hf]
      · unfold itD; rw [if_pos hE, hf]; exact hR
    · have hf : fdN vs kind (m : Int) = none := by
        unfold fdN
        rw [Int.toNat_natCast, List.find?_eq_none]
        intro q hq
        rw [h1 q (List.mem_range.1 hq)]; decide
      refine ⟨none, 0, 0, ?_, ?_, fun h => absurd rfl h, hB⟩
      · unfold itH itE; rw [if_pos hE, if_pos hE, hf]
      · unfold itD; rw [if_pos hE, hf]; exact Rd.nilv .u8 _
  · have e1 : itH vs kind most = 0 := by unfold itH; rw [if_neg hE]
    have e2 : itE vs kind most = wrE vs kind most := by unfold itE; rw [if_neg hE]
    have e3 : itD vs kind most = [] := by unfold itD; rw [if_neg hE]
    unfold DcA
    rw [e1, e2, e3]
    clear e1 e2 e3
    have HBG : ∃ E : Int, wrE vs kind most = E ∧ E ≠ 0 ∧ Calls Tryz.prog 49 #[.slice S n cs, .int .i64 kind, .int .i64 most] w fun e w' => e = .returned (.tuple #[.pointer none, .int .i64 E]) ∧ Below w.heap.size w w' := by
      by_cases hc : vs.length % 3 ≠ 0 ∨ Tu.validK ((vs.length : Int) / 3 - 4) = false ∨ kind < 0 ∨ 4 < kind ∨ most < 1 ∨ 64 < most
      · exact ⟨2, by unfold wrE; rw [if_pos hc], by decide, begun_bad S n cs vs kind most w h (by omega) hc⟩
      · by_cases hs : SoftB vs = true
        · exact absurd (by unfold wrE; rw [if_neg hc, if_pos hs]) hE
        · refine ⟨6, by unfold wrE; rw [if_neg hc, if_neg hs], by decide, begun_soft S n cs vs kind most w h (by omega) (by omega) ?_ (by omega) (by omega) (by simpa using hs)⟩
          rw [← hl]
          cases hv : Tu.validK ((vs.length : Int) / 3 - 4) with
          | true => rfl
          | false => exact absurd (.inr (.inl hv)) hc
    obtain ⟨E, hEe, hE0, hcall⟩ := HBG
    have HC := Lib.hid hcall
    have q := bne_t hE0
    rw [hEe]
    clear hcall hE0 hEe hE h hl
    go_enter Tryz.func15, Tryz.ntmps15
    go_wp2_with fail
    refine HC.out.mono ?_
    rintro e w1 ⟨rfl, hB⟩
    go_wp2
    go_ret3
    exact ⟨none, 0, 0, rfl, Rd.nilv .u8 _, fun h => absurd rfl h, hB⟩
end Go.Proofs.YtpdalbckmfadbaaGreat

namespace Go.Proofs.YtpdalbckmfadbaaGreat
open Go.RowKit
set_option linter.unusedVariables false
theorem gi_app_l {a b : List Int} {j : Nat} (h : j < a.length) : gi (a ++ b) j = gi a j := by
  unfold gi; rw [List.getD_eq_getElem?_getD, List.getD_eq_getElem?_getD, List.getElem?_append_left h]
end Go.Proofs.YtpdalbckmfadbaaGreat

namespace Go.Proofs.YtpdalbckmfadbaaGreat
open Go.RowKit
set_option linter.unusedVariables false
attribute [local go_sem] Oper.semAt_some
def FvI (w : World) (n : Nat) (Am : Option Addr) (i : Value) (wr : World) : Prop := ∃ (j : Nat) (cur : List Int), j ≤ n ∧ i = .int .i64 (j : Int) ∧ Own .i64 3 wr w.heap.size Am n n cur ∧ (∀ q, q < j → gi cur q = 5) ∧ Below w.heap.size w wr
set_option maxRecDepth 100000 in
theorem fives_any (n : Nat) (w : World) (hn : n ≤ 100000) : Calls Tryz.prog 52 #[.int .i64 (n : Int)] w fun e w' => ∃ A', e = .returned (.slice A' n n) ∧ Own .i64 3 w' w.heap.size A' n n (List.replicate n 5) ∧ Below w.heap.size w w' := by
  go_enter Tryz.func52, Tryz.ntmps52
  go_wp2_with (at_make; refine list_of rfl fun K hK => wp_mk (n := n) _ _ 34 rfl el22 rfl rfl (by omega) (by unfold maxLen; omega) ?_
               intro Am w3 hO3 hB3 hA
               have HO3 := Lib.hid hO3
               have HB3 := Lib.hid hB3
               clear hO3 hB3 hA
               refine hK _ _ ?_
               clear hK K)
  go_loopw [4] (fun i wr => FvI w n Am i wr) (fun i _ => n - (intOf i).toNat)
  case atStart => exact ⟨0, List.replicate n 0, Nat.zero_le _, rfl, by have := HO3.out; unfold Own; simpa using this, fun q hq => by omega, HB3.out⟩
  case round =>
    obtain ⟨j, cur, hj, rfl, hO, hsame, hB⟩ := hrel
    have HB := Lib.hid hB
    have HS := Lib.hid hsame
    by_cases hlt : j < n
    · have hcu := Rd.cell (Own.rd hO) hlt
      have hfu := Ownv.frozen hO (by omega) j
      have hiu := fun W => Rdv.ix (Own.rd hO) el22 hlt .i64 W
      have HST := Lib.hid (Own.set_ hO hlt 5)
      have hbA := (Ownv.blk_ge hO (by omega)).1
      have HB2 := Lib.hid (hB.grown (Own.set_ hO hlt 5).2 hB.size (fun k e => by cases e; exact hbA))
      have hcl := Rd.len (Own.rd hO)
      clear hO hB hsame
      go_wp2
      go_roundw
      case rel => exact ⟨j + 1, cur.set j 5, by omega, by go_num, HST.out.1, lt_succ_cases (fun q hq => by rw [gi_set' _ _ _ _ (by omega), if_neg (by omega)]; exact HS.out q hq) (by rw [gi_set' _ _ _ _ (by omega), if_pos rfl]), HB2.out⟩
      case measure => simp [intOf]; omega
    · obtain rfl : j = n := by omega
      have hle := Rd.len (Own.rd hO)
      have HLE := Lib.hid (show cur = List.replicate j 5 from ext_gi (by simp [hle]) fun q hq => by
        rw [hsame q (by omega), gi_eq _ q (by rw [List.length_replicate]; omega), List.getElem_replicate])
      have HO9 := Lib.hid hO
      clear hO hsame hle hB
      go_wp2
      go_ret
      exact ⟨Am, rfl, by rw [← HLE.out]; exact HO9.out, HB.out⟩
/-! ### the examples -/
def v5 : List Int := List.replicate 132 5
theorem fd_of {vs : List Int} {kind : Int} {m h k : Nat} (hk : kOf vs = k) (hh : h < m) (h1 : okN kind vs k h = true) (h2 : ∀ q, q < h → okN kind vs k q = false) : fdN vs kind (m : Int) = some h := by
  unfold fdN
  rw [Int.toNat_natCast, List.find?_range_eq_some, hk]
  exact ⟨h1, List.mem_range.2 hh, fun q hq => by rw [h2 q hq]; rfl⟩
theorem it_of {vs : List Int} {kind most : Int} {h k : Nat} (hk : kOf vs = k) (hE : wrE vs kind most = 0) (hf : fdN vs kind most = some h) : itE vs kind most = 0 ∧ itH vs kind most = ((h + 1 : Nat) : Int) ∧ itD vs kind most = decN vs k h := by
  unfold itE itH itD
  rw [if_pos hE, if_pos hE, if_pos hE, hf, hk]
  exact ⟨rfl, rfl, rfl⟩
end Go.Proofs.YtpdalbckmfadbaaGreat

namespace Go.Proofs.YtpdalbckmfadbaaGreat
open Go.RowKit
set_option linter.unusedVariables false
attribute [local go_sem] Oper.semAt_some
theorem rd_lt {k : IntKind} {w : World} {A : Option Addr} {n c : Nat} {xs : List Int} (h : Rd k w A n c xs) (hn : 0 < n) : blk A < w.heap.size := by
  have hle := Rdv.le h
  obtain ⟨b, o, rfl, hb⟩ := Rdv.ptr h (by omega)
  exact hb
theorem f132 (W : World) : Calls Tryz.prog 52 #[.int .i64 132] W fun e w' => ∃ A', e = .returned (.slice A' 132 132) ∧ Own .i64 3 w' W.heap.size A' 132 132 v5 ∧ Below W.heap.size W w' := fives_any 132 W (by omega)
end Go.Proofs.YtpdalbckmfadbaaGreat

namespace Go.Proofs.YtpdalbckmfadbaaGreat
open Go.RowKit
set_option linter.unusedVariables false
theorem info2i : (Tryz.prog.info? 83).map (·.size) = some 2 := by kernel_rfl
set_option maxRecDepth 100000 in
theorem bounds_any (w : World) : Calls Tryz.prog 127 #[] w fun e w' => e = .returned (.agg #[.int .i64 (-127), .int .i64 127]) ∧ Below w.heap.size w w' := by
  have hx : Blk (w.alloc (.cells #[.int .i64 0, .int .i64 0] 83)) w.heap.size 83 [.int .i64 0, .int .i64 0] := Blk.new w [.int .i64 0, .int .i64 0] _ rfl
  have hq : Below w.heap.size w (w.alloc (.cells #[.int .i64 0, .int .i64 0] 83)) := (Below.refl _ w).alloc (Nat.le_refl _) _
  go_enter Tryz.func127, Tryz.ntmps127
  go_wp2_with (refine strow (cs := [.int .i64 (-127), .int .i64 127]) rfl 83 (.tmp 0) (.tmp 1) rfl rfl rfl hx rfl (by kernel_rfl) (by simp [Value.oneCell']) ?_
               intro W' h1 h2
               have H1 := Lib.hid h1
               have H2 := Lib.hid (hq.grown h2 hq.size (fun k e => by cases e; exact Nat.le_refl _))
               clear h1 h2 hx hq)
  have l1 : (loadVar 83 ⟨w.heap.size, 0, none⟩).run Tryz.prog W' = .ok (.agg [.int .i64 (-127), .int .i64 127].toArray) W' := run_loadVar_row (P := Tryz.prog) W' _ 83 83 _ (0, 0) _ H1.out Tryz.underlying83 rfl (by rw [info2i]; rfl)
  refine bodyPost_ret (v := .agg [.int .i64 (-127), .int .i64 127].toArray) ?_ rfl ⟨rfl, H2.out⟩
  rw [results_c rfl]
  simp [asAddr, Act.put, l1, Sem.run_pure]
/-- a value of at most the greatest magnitude -/
def clI (v : Int) : Int := if v < -127 then -127 else if 127 < v then 127 else v
set_option maxRecDepth 100000 in
theorem clamp_any (v : Int) (w : World) : Calls Tryz.prog 85 #[.int .i64 v] w fun e w' => e = .returned (.int .i64 (clI v)) ∧ Below w.heap.size w w' := by
  obtain ⟨u, hu⟩ : ∃ u, u = clI v := ⟨_, rfl⟩
  rw [← hu]
  rcases (by omega : v < -127 ∨ 127 < v ∨ (-127 < v ∧ v < 127) ∨ v = -127 ∨ v = 127) with h | h | ⟨h1, h2⟩ | rfl | rfl
  case' inl => have e1 : u = -127 := by rw [hu]; unfold clI; rw [if_pos h]
  case' inr.inl => have e1 : u = 127 := by rw [hu]; unfold clI; rw [if_neg (by omega), if_pos h]
  case' inr.inr.inl => have e1 : u = v := by rw [hu]; unfold clI; rw [if_neg (by omega), if_neg (by omega)]
  case' inr.inr.inr.inl => have e1 : u = -127 := by rw [hu]; decide
  case' inr.inr.inr.inr => have e1 : u = 127 := by rw [hu]; decide
  all_goals
    rw [e1]
    clear hu e1
    go_enter Tryz.func85, Tryz.ntmps85
    go_wp2_with fail
    refine (bounds_any w).mono ?_
    rintro e w1 ⟨rfl, hB⟩
    have HB := Lib.hid ((hB.alloc hB.size (.cells #[.int .i64 (-127), .int .i64 127] 83)))
    clear hB
    go_wp2
    go_ret
    exact ⟨rfl, HB.out⟩
theorem clI_bd (v : Int) : -127 ≤ clI v ∧ clI v ≤ 127 := by unfold clI; split <;> (try split) <;> omega
theorem clI_in {v : Int} (h : -127 ≤ v ∧ v ≤ 127) : clI v = v := by unfold clI; rw [if_neg (by omega), if_neg (by omega)]
/-- the sum of two soft values -/
def addI (a b : Int) : Int := clI (clI a + clI b)
theorem sadd_any (a b : Int) (w : World) : Calls Tryz.prog 46 #[.int .i64 a, .int .i64 b] w fun e w' => e = .returned (.int .i64 (addI a b)) ∧ Below w.heap.size w w' := by
  have ha := clI_bd a
  have hb := clI_bd b
  have q : IntKind.i64.wrap (clI a + clI b) = clI a + clI b := IntWalk.i64_in _ (by omega)
  have HA := Lib.hid (fun W => clamp_any a W)
  have HB := Lib.hid (fun W => clamp_any b W)
  have HC := Lib.hid (fun W => clamp_any (clI a + clI b) W)
  have HE := Lib.hid (show addI a b = clI (clI a + clI b) from rfl)
  rw [HE.out]
  generalize clI (clI a + clI b) = z at *
  generalize clI a = x at *
  generalize clI b = y at *
  clear HE
  go_enter Tryz.func46, Tryz.ntmps46
  go_wp2_with fail
  refine (HA.out _).mono ?_
  rintro e w1 ⟨rfl, hB1⟩
  have H1 := Lib.hid hB1
  clear hB1
  go_wp2_with fail
  refine (HB.out _).mono ?_
  rintro e w2 ⟨rfl, hB2⟩
  have H2 := Lib.hid (H1.out.trans (hB2.mono H1.out.size))
  clear hB2
  go_wp2_with fail
  refine (HC.out _).mono ?_
  rintro e w3 ⟨rfl, hB3⟩
  have H3 := Lib.hid (H2.out.trans (hB3.mono H2.out.size))
  clear hB3
  go_wp2
  go_ret
  exact ⟨rfl, H3.out⟩
theorem svalid1_any (v : Int) (w : World) : Calls Tryz.prog 126 #[.int .i64 v] w fun e w' => e = .returned (.bool (!decide (-127 ≤ v ∧ v ≤ 127))) ∧ Below w.heap.size w w' := by
  have HA := Lib.hid (fun W => clamp_any v W)
  have HE : Hid ((clI v != v) = (!decide (-127 ≤ v ∧ v ≤ 127))) := Lib.hid (by
    by_cases h : -127 ≤ v ∧ v ≤ 127
    · rw [clI_in h]; simp [h]
    · have hb := clI_bd v
      have hne : clI v ≠ v := fun e => h (by rw [← e]; exact hb)
      simp [h, hne])
  rw [← HE.out]
  generalize clI v = z at *
  go_enter Tryz.func126, Tryz.ntmps126
  go_wp2_with fail
  refine (HA.out _).mono ?_
  rintro e w1 ⟨rfl, hB1⟩
  have H1 := Lib.hid hB1
  clear hB1
  go_wp2
  go_ret
  exact ⟨rfl, H1.out⟩
theorem elL : El Tryz.prog 140 3 (.int .i64 0) 8 := ⟨by kernel_rfl, by kernel_rfl, fun _ => by kernel_rfl, rfl⟩
end Go.Proofs.YtpdalbckmfadbaaGreat

namespace Go.Proofs.YtpdalbckmfadbaaGreat
open Go.RowKit
set_option linter.unusedVariables false
def SdI (w : World) (n : Nat) (xs : List Int) (i : Value) (wr : World) : Prop := ∃ j : Nat, j ≤ n ∧ i = .int .i64 (j : Int) ∧ (∀ q, q < j → -127 ≤ gi xs q ∧ gi xs q ≤ 127) ∧ Below w.heap.size w wr
def SdP (b : Bool) (w : World) (e : Ending) (w' : World) : Prop := ∃ r : Int, e = .returned (.int .i64 r) ∧ (decide (0 ≤ r) = !b) ∧ Below w.heap.size w w'
set_option maxHeartbeats 400000 in
theorem soidx_any (A : Option Addr) (n c : Nat) (xs : List Int) (w : World) (h : Rd .i64 w A n c xs) :
    Calls Tryz.prog 154 #[.slice A n c, .func (.func 126) #[] #[]] w (SdP (SoftB xs) w) := by
  have hbd := h.bd.1
  have HR := Lib.hid h
  have HL := Lib.hid h.len
  have HV1 := Lib.hid (fun v W => svalid1_any v W)
  clear h
  go_enter Tryz.func154, Tryz.ntmps154
  go_wp2
  go_loopw [8] (fun i wr => SdI w n xs i wr) (fun i _ => n - (intOf i).toNat)
  case atStart => exact ⟨0, by omega, rfl, (by intro q hq; omega), Below.refl _ _⟩
  case round =>
    obtain ⟨j, hj, rfl, hv, hB⟩ := hrel
    have HV := Lib.hid hv
    have HB := Lib.hid hB
    by_cases hlt : j < n
    · have hr := Rdv.below HR.out hB
      have hc := Rd.cell hr hlt
      have hix := fun W => Rdv.ix hr elL hlt .i64 W
      clear hv hB hr
      by_cases h1 : -127 ≤ gi xs j ∧ gi xs j ≤ 127
      · have h1' : (!decide (-127 ≤ gi xs j ∧ gi xs j ≤ 127)) = false := by simp; omega
        have H1 := Lib.hid h1; clear h1
        have HW := Lib.hid (HV1.out (gi xs j) wr)
        rw [h1'] at HW
        clear h1'
        obtain ⟨v, hve⟩ : ∃ v, v = gi xs j := ⟨_, rfl⟩
        rw [← hve] at hc HW
        have HVE := Lib.hid hve
        clear hve
        go_wp2_with fail
        refine HW.out.mono ?_
        rintro e w1 ⟨rfl, hB1⟩
        have HB1 := Lib.hid (HB.out.trans (hB1.mono HB.out.size))
        clear hB1
        go_wp2
        go_roundw
        case rel => exact ⟨j + 1, by omega, by go_num, (fun q hq => lt_succ_cases HV.out H1.out q hq), HB1.out⟩
        case measure => simp [intOf]; omega
      · have h1' : (!decide (-127 ≤ gi xs j ∧ gi xs j ≤ 127)) = true := by simp; omega
        have hf := Lib.hid (softB_f (by rw [HL.out]; exact hlt) h1)
        have HW := Lib.hid (HV1.out (gi xs j) wr)
        rw [h1'] at HW
        clear h1' h1
        generalize gi xs j = v at *
        go_wp2_with fail
        refine HW.out.mono ?_
        rintro e w1 ⟨rfl, hB1⟩
        have HB1 := Lib.hid (HB.out.trans (hB1.mono HB.out.size))
        clear hB1
        go_wp2
        go_ret
        exact ⟨_, rfl, by rw [hf.out]; simp, HB1.out⟩
    · have hf := Lib.hid (softB_t (xs := xs) (by rw [HL.out]; intro q hq; exact hv q (by omega)))
      clear hv hB
      go_wp2
      go_ret
      exact ⟨_, rfl, by rw [hf.out]; simp, HB.out⟩
theorem socont_any (A : Option Addr) (n c : Nat) (xs : List Int) (w : World) (h : Rd .i64 w A n c xs) :
    Calls Tryz.prog 125 #[.slice A n c, .func (.func 126) #[] #[]] w fun e w' => e = .returned (.bool (!SoftB xs)) ∧ Below w.heap.size w w' := by
  have HI := Lib.hid (soidx_any A n c xs w h)
  generalize SoftB xs = b at *
  clear h
  go_enter Tryz.func125, Tryz.ntmps125
  go_wp2_with fail
  refine HI.out.mono ?_
  rintro e w1 ⟨r, rfl, hr, hB⟩
  have HB := Lib.hid hB
  have HR := Lib.hid hr
  clear hB hr
  go_wp2
  go_ret
  refine ⟨ret_bool ?_, HB.out⟩
  have := HR.out
  cases b <;> simp_all
theorem slval_any (A : Option Addr) (n c : Nat) (xs : List Int) (w : World) (h : Rd .i64 w A n c xs) :
    Calls Tryz.prog 84 #[.slice A n c] w fun e w' => e = .returned (.bool (SoftB xs)) ∧ Below w.heap.size w w' := by
  have HI := Lib.hid (socont_any A n c xs w h)
  generalize SoftB xs = b at *
  clear h
  go_enter Tryz.func84, Tryz.ntmps84
  go_wp2_with fail
  refine HI.out.mono ?_
  rintro e w1 ⟨rfl, hB⟩
  have HB := Lib.hid hB
  clear hB
  go_wp2
  go_ret
  exact ⟨ret_bool (by simp), HB.out⟩
set_option maxRecDepth 100000 in
theorem svalid_any (A : Option Addr) (n c : Nat) (xs : List Int) (w : World) (h : Rd .i64 w A n c xs) :
    Calls Tryz.prog 43 #[.slice A n c] w fun e w' => e = .returned (.bool (SoftB xs)) ∧ Below w.heap.size w w' := by
  have HI := Lib.hid (slval_any A n c xs w h)
  have hfld : ∀ W, (Instr.field 142 (.agg #[.slice A n c]) 0).run Tryz.prog W = .ok (.slice A n c) W := fun _ => by kernel_rfl
  generalize SoftB xs = b at *
  clear h
  go_enter Tryz.func43, Tryz.ntmps43
  go_wp2_with fail
  refine HI.out.mono ?_
  rintro e w1 ⟨rfl, hB⟩
  have HB := Lib.hid hB
  clear hB
  go_wp2
  go_ret
  exact ⟨rfl, HB.out⟩
theorem ssign_any (v : Int) (w : World) : Calls Tryz.prog 47 #[.int .i64 v] w fun e w' => e = .returned (.int .u8 (if v < 0 then 1 else 0)) ∧ w = w' := by
  by_cases h : v < 0
  · rw [if_pos h]
    go_enter Tryz.func47, Tryz.ntmps47
    go_wp2
    go_ret
    exact ⟨rfl, rfl⟩
  · rw [if_neg h]
    go_enter Tryz.func47, Tryz.ntmps47
    go_wp2
    go_ret
    exact ⟨rfl, rfl⟩
theorem sarg_any (b : Bool) (w : World) : Calls Tryz.prog 38 #[.bool b] w fun e w' => e = .returned (.int .i64 (if b = true then 0 else 2)) ∧ w = w' := by
  cases b <;> simp only [if_true, Bool.false_eq_true, if_false] <;> (
    go_enter Tryz.func38, Tryz.ntmps38
    go_wp2
    go_ret
    exact ⟨rfl, rfl⟩)
end Go.Proofs.YtpdalbckmfadbaaGreat

namespace Go.Proofs.YtpdalbckmfadbaaGreat.CM
/-! Plain arithmetic of the checksum: no program in sight. -/
/-- One bit into the register. -/
def st (L p r : Nat) (b : Bool) : Nat := ((2 * r) % 2 ^ L) ^^^ (if (r.testBit (L - 1)) ^^ b then p else 0)
def run (L p r : Nat) (bs : List Bool) : Nat := bs.foldl (st L p) r
section
variable {L p : Nat}
theorem st_lt (hp : p < 2 ^ L) (r : Nat) (b : Bool) : st L p r b < 2 ^ L := by
  unfold st
  refine Nat.xor_lt_two_pow (Nat.mod_lt _ (Nat.two_pow_pos L)) ?_
  split
  · exact hp
  · exact Nat.two_pow_pos L
theorem run_lt (hp : p < 2 ^ L) : ∀ (bs : List Bool) (r : Nat), r < 2 ^ L → run L p r bs < 2 ^ L
  | [], _, h => h
  | x :: bs, r, _ => run_lt hp bs _ (st_lt hp r x)
/-- The bits of a register, the most significant first. -/
def bitsOf (L r : Nat) : List Bool := (List.range L).map fun t => r.testBit (L - 1 - t)
/-- A list of L bits is the bits of a number. -/
def val : List Bool → Nat
  | [] => 0
  | b :: bs => (if b then 2 ^ bs.length else 0) + val bs
end
end Go.Proofs.YtpdalbckmfadbaaGreat.CM

namespace Go.Proofs.YtpdalbckmfadbaaGreat.Cr
open Go.RowKit CM
def ib (b : Bool) : Int := if b then 1 else 0
def bl (xs : List Int) : List Bool := xs.map fun x => decide (x = 1)
def Bit (xs : List Int) : Prop := ∀ x ∈ xs, x = 0 ∨ x = 1
theorem ib_bl {xs : List Int} (h : Bit xs) : (bl xs).map ib = xs := by
  unfold bl; rw [List.map_map]
  conv => rhs; rw [← List.map_id xs]
  apply List.map_congr_left
  intro x hx
  rcases h x hx with rfl | rfl <;> rfl
theorem bit_ib (bs : List Bool) : Bit (bs.map ib) := by
  intro x hx
  obtain ⟨b, _, rfl⟩ := List.mem_map.1 hx
  cases b <;> simp [ib]
theorem bit_valid {xs : List Int} (h : Bit xs) : ValidB xs = true := by
  unfold ValidB; rw [List.all_eq_true]; intro x hx
  rcases h x hx with rfl | rfl <;> rfl
theorem ofInt_u32 (a : Nat) (ha : a < 4294967296) : (BitVec.ofInt 32 (a : Int)).toNat = a := by
  rw [BitVec.ofInt_natCast, BitVec.toNat_ofNat]; exact Nat.mod_eq_of_lt (by omega)
theorem u32_and_nat (a b : Nat) (ha : a < 4294967296) (hb : b < 4294967296) : bits .and .u32 (a : Int) (b : Int) = ((a &&& b : Nat) : Int) := by
  have hx : a &&& b < 2 ^ 32 := Nat.and_lt_two_pow _ (by omega)
  show IntKind.u32.wrap ((BitVec.ofInt 32 (a : Int) &&& BitVec.ofInt 32 (b : Int)).toNat : Int) = _
  rw [BitVec.toNat_and, ofInt_u32 a ha, ofInt_u32 b hb, IntKind.wrap_u32]
  omega
theorem u32_xor_nat (a b : Nat) (ha : a < 4294967296) (hb : b < 4294967296) : bits .xor .u32 (a : Int) (b : Int) = ((a ^^^ b : Nat) : Int) := by
  have hx : a ^^^ b < 2 ^ 32 := Nat.xor_lt_two_pow (by omega) (by omega)
  show IntKind.u32.wrap ((BitVec.ofInt 32 (a : Int) ^^^ BitVec.ofInt 32 (b : Int)).toNat : Int) = _
  rw [BitVec.toNat_xor, ofInt_u32 a ha, ofInt_u32 b hb, IntKind.wrap_u32]
  omega
theorem u32_xor_ib (a b : Bool) : bits .xor .u32 (ib a) (ib b) = ib (a ^^ b) := by cases a <;> cases b <;> decide
theorem u32_and_one (x : Nat) (hx : x < 4294967296) : bits .and .u32 (x : Int) 1 = ib (x.testBit 0) := by
  have := u32_and_nat x 1 hx (by decide)
  rw [show ((1 : Nat) : Int) = 1 from rfl] at this
  rw [this, Nat.and_one_is_mod, Nat.testBit_zero]
  rcases Nat.mod_two_eq_zero_or_one x with h | h <;> rw [h] <;> rfl
theorem two_pow_le {L : Nat} (hL : L ≤ 31) : 2 ^ L ≤ 2147483648 := Nat.pow_le_pow_right (n := 2) (by decide) hL
theorem div_pow_bit (r j : Nat) : (r / 2 ^ j).testBit 0 = r.testBit j := by
  rw [← Nat.shiftRight_eq_div_pow, Nat.testBit_shiftRight, Nat.add_zero]
theorem crcStep_nat {L p r : Nat} (_ : 1 ≤ L) (hL2 : L ≤ 31) (hp : p < 2 ^ L) (hr : r < 2 ^ L) (b : Bool) : crcStep L (p : Int) (r : Int) (ib b) = (st L p r b : Int) := by
  have h2 := two_pow_le hL2
  have hpos := Nat.two_pow_pos L
  unfold crcStep
  have e1 : (r : Int) * 2 % 4294967296 = ((2 * r : Nat) : Int) := by omega
  have e2 : ((2 : Int) ^ L % 4294967296 - 1) % 4294967296 = ((2 ^ L - 1 : Nat) : Int) := by
    have : (2 : Int) ^ L = ((2 ^ L : Nat) : Int) := by simp
    rw [this]; omega
  have e3 : (r : Int) / 2 ^ (L - 1) = ((r / 2 ^ (L - 1) : Nat) : Int) := by simp
  have e4 : (ib b) % 4294967296 = ib b := by cases b <;> rfl
  have hq : r / 2 ^ (L - 1) < 4294967296 := Nat.lt_of_le_of_lt (Nat.div_le_self _ _) (by omega)
  rw [e1, e2, e3, e4, u32_and_nat _ _ (by omega) (by omega), Nat.and_two_pow_sub_one_eq_mod, u32_and_one _ hq, div_pow_bit, u32_xor_ib]
  have e5 : ib (r.testBit (L - 1) ^^ b) * (p : Int) % 4294967296 = (((if (r.testBit (L - 1) ^^ b) then p else 0) : Nat) : Int) := by
    cases (r.testBit (L - 1) ^^ b)
    · simp [ib]
    · simp only [ib, if_true]; omega
  rw [e5, u32_xor_nat _ _ (Nat.lt_of_lt_of_le (Nat.mod_lt _ hpos) (by omega)) (by split <;> omega)]
  rfl
theorem crcFold_nat {L p : Nat} (hL : 1 ≤ L) (hL2 : L ≤ 31) (hp : p < 2 ^ L) (bs : List Bool) : crcFold L (p : Int) (bs.map ib) = (run L p 0 bs : Int) := by
  have key : ∀ (bs : List Bool) (r : Nat), r < 2 ^ L → (bs.map ib).foldl (crcStep L (p : Int)) (r : Int) = (run L p r bs : Int) := by
    intro bs
    induction bs with
    | nil => intro r _; rfl
    | cons b bs ih =>
      intro r hr
      rw [List.map_cons, List.foldl_cons, crcStep_nat hL hL2 hp hr]
      exact ih _ (st_lt hp r b)
  exact key bs 0 (Nat.two_pow_pos L)
theorem splitL_nat {L r : Nat} (hr : r < 4294967296) : splitL (r : Int) L = (bitsOf L r).map ib := by
  unfold splitL bitsOf
  rw [List.map_map]
  apply List.map_congr_left
  intro j hj
  have e3 : (r : Int) / 2 ^ (L - 1 - j) = ((r / 2 ^ (L - 1 - j) : Nat) : Int) := by simp
  have hq : r / 2 ^ (L - 1 - j) < 4294967296 := Nat.lt_of_le_of_lt (Nat.div_le_self _ _) hr
  rw [e3, u32_and_one _ hq, div_pow_bit]
  simp only [Function.comp]
  cases r.testBit (L - 1 - j) <;> decide
def nPoly (k : Int) : Nat := if k = 1 then 0x864cfb else if k = 2 then 0x800063 else if k = 3 then 0x1021 else if k = 4 then 0x9b else 0
theorem sPoly_nat (k : Int) : sPoly k = (nPoly k : Int) := by unfold sPoly nPoly; repeat (split <;> try rfl)
theorem nPoly_ok {k : Int} (h : sLen k ≠ 0) : 1 ≤ sLen k ∧ sLen k ≤ 31 ∧ nPoly k < 2 ^ sLen k ∧ (nPoly k).testBit 0 = true := by
  unfold sLen at h
  by_cases h1 : k = 1
  · subst h1; decide
  by_cases h2 : k = 2
  · subst h2; decide
  by_cases h3 : k = 3
  · subst h3; decide
  by_cases h4 : k = 4
  · subst h4; decide
  · exfalso; apply h; simp [h1, h2, h3, h4]
theorem crcSum_bits {k : Int} (h : sLen k ≠ 0) (bs : List Bool) : crcSum k (bs.map ib) = (bitsOf (sLen k) (run (sLen k) (nPoly k) 0 bs)).map ib := by
  obtain ⟨h1, h2, h3, h4⟩ := nPoly_ok h
  unfold crcSum
  rw [sPoly_nat, crcFold_nat h1 h2 h3, splitL_nat]
  have := run_lt h3 bs 0 (Nat.two_pow_pos _)
  have := two_pow_le h2
  omega
/-! ### the reference's long division -/
theorem gi_set (m : List Int) (i t : Nat) (v : Int) (hi : i < m.length) : gi (m.set i v) t = if i = t then v else gi m t := by
  unfold gi
  simp only [List.getD_eq_getElem?_getD, List.getElem?_set]
  split
  · rename_i h; subst h; simp
  · rfl
end Go.Proofs.YtpdalbckmfadbaaGreat.Cr

namespace Go.Proofs.YtpdalbckmfadbaaGreat.Cr
open Go.RowKit CM
set_option linter.unusedVariables false
theorem crcSum_len (k : Int) (xs : List Int) : (crcSum k xs).length = sLen k := by unfold crcSum; rw [splitL_len]
theorem bit_sum {k : Int} (h : sLen k ≠ 0) {xs : List Int} (hx : Bit xs) : Bit (crcSum k xs) := by
  rw [← ib_bl hx, crcSum_bits h]; exact bit_ib _
theorem bit_app {xs ys : List Int} (hx : Bit xs) (hy : Bit ys) : Bit (xs ++ ys) := by
  intro x h; rcases List.mem_append.1 h with h | h
  · exact hx x h
  · exact hy x h
theorem gi_ib (bs : List Bool) (j : Nat) (h : j < bs.length) : gi (bs.map ib) j = ib bs[j] := by
  rw [gi_eq _ _ (by simpa using h)]; simp
theorem back {k : Int} (h : sLen k ≠ 0) {xs : List Int} (hx : Bit xs) : chkErr k (xs ++ crcSum k xs) = 0 ∧ chkRes k (xs ++ crcSum k xs) = xs := by
  have hl := crcSum_len k xs
  have e1 : (xs ++ crcSum k xs).length - sLen k = xs.length := by rw [List.length_append, hl]; omega
  have e : chkErr k (xs ++ crcSum k xs) = 0 := by
    unfold chkErr
    rw [if_neg h, if_pos (bit_valid (bit_app hx (bit_sum h hx))), if_neg (by rw [List.length_append, hl]; omega), e1, List.take_left, List.drop_left, if_pos rfl]
  refine ⟨e, ?_⟩
  unfold chkRes
  rw [if_pos e, e1, List.take_left]
end Go.Proofs.YtpdalbckmfadbaaGreat.Cr

