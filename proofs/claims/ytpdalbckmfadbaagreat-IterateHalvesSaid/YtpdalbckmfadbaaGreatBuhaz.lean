/-
  Bundle of the texts Rh. Conditions: none.
-/
import Derived.Test.YtpdalbckmfadbaaGreatBuhay
namespace Go.Proofs.YtpdalbckmfadbaaGreat
open Go.RowKit
set_option linter.unusedVariables false
attribute [local go_sem] Oper.semAt_some
theorem decN_u8 (vs : List Int) (k h : Nat) : ∀ x ∈ decN vs k h, 0 ≤ x ∧ x < 256 := by
  have hb : ∀ o : Ob, ∀ x ∈ o.dB, 0 ≤ x ∧ x < 256 := fun o x hx => by
    unfold Ob.dB at hx
    split at hx
    · exact bT_u8 o x hx
    · simp at hx
  intro x hx
  unfold decN at hx
  split at hx
  · exact hb _ x hx
  · unfold pk at hx
    obtain ⟨i, -, rfl⟩ := List.mem_map.1 hx
    rcases Nat.lt_or_ge i.toNat (obN vs k h).dB.length with h1 | h1
    · exact hb _ _ (gi_mem _ _ h1)
    · rw [gi_over h1]; omega
theorem befN_u8 (vs : List Int) (k : Nat) : ∀ h, ∀ x ∈ befN vs k h, 0 ≤ x ∧ x < 256
  | 0, x, hx => by simp [befN] at hx
  | h + 1, x, hx => decN_u8 vs k h x hx
theorem rows_ne2 {w : World} {e1 e2 : TypeId} {b1 b2 n1 c1 n2 c2 : Nat} {A1 A2 : Option Addr} {v1 v2 : List Value} (h1 : Ownv e1 w b1 A1 n1 c1 v1) (h2 : Ownv e2 w b2 A2 n2 c2 v2) (hne : e1 ≠ e2) (hA2 : A2 ≠ none) (hA : A1 ≠ none) : some (blk A1) ≠ some (blk A2) := by
  obtain ⟨-, g2⟩ := h2.cases
  rcases g2 with ⟨h, -⟩ | ⟨g', cur', rfl, -⟩
  · exact absurd h hA2
  · exact rows_ne h1 h2 hne hA
/-- the halves so far -/
def RhI (w : World) (k : Nat) (vs : List Int) (kind : Int) (most : Nat) (OR : Option Addr) (oo : Nat) (ap out half : Value) (wr : World) : Prop :=
  ∃ (h : Nat) (A : Option Addr) (ac : Nat) (O : Option Addr) (oc : Nat) (L : List Sv), h ≤ most ∧ half = .int .i64 ((h : Int) + 1) ∧ ap = .slice A k ac ∧ Own .i64 3 wr w.heap.size A k ac (apN vs k h) ∧ out = .slice O L.length oc ∧ BL wr w.heap.size O oc L ∧ L.length = h ∧
    (∀ q s, L[q]? = some s → s.n = k ∧ s.xs = decN vs k q) ∧ (∀ q, q < h → okN kind vs k q = false) ∧ Below w.heap.size w wr ∧ Own .i64 3 wr w.heap.size OR k oo (Tu.ordL k)
/-- what Halves gives -/
def RhP (k : Nat) (vs : List Int) (kind : Int) (most : Nat) (w : World) (e : Ending) (w' : World) : Prop :=
  ∃ (O : Option Addr) (oc : Nat) (L : List Sv) (b : Bool), e = .returned (.tuple #[.slice O L.length oc, .bool b]) ∧ BL w' w.heap.size O oc L ∧ (∀ q s, L[q]? = some s → s.n = k ∧ s.xs = decN vs k q) ∧ Below w.heap.size w w' ∧
    ((b = true ∧ ∃ h, L.length = h + 1 ∧ h < most ∧ okN kind vs k h = true ∧ ∀ q, q < h → okN kind vs k q = false) ∨ (b = false ∧ L.length = most ∧ ∀ q, q < most → okN kind vs k q = false))
theorem own_some3 {w : World} {base : Nat} {A : Option Addr} {n c : Nat} {vs : List Int} (h : Own .i64 3 w base A n c vs) {q : Nat} (hq : q < n) : A ≠ none := by
  intro hA
  subst hA
  obtain ⟨hl, h2⟩ := Ownv.cases h
  rcases h2 with ⟨_, rfl, _⟩ | ⟨g, cur, h3, _⟩
  · omega
  · cases h3
/-- the two new rows -/
def RhX (k : Nat) (w1 : World) (v20 v21 : Value) (wx : World) : Prop :=
  ∃ B A, v20 = .slice B k k ∧ v21 = .slice A k k ∧ Own .u8 5 wx w1.heap.size B k k (List.replicate k 0) ∧ Own .i64 3 wx w1.heap.size A k k (List.replicate k 0) ∧ Below w1.heap.size w1 wx
/-- the rows being filled, as they stand -/
def RhJ1 (k : Nat) (o : Ob) (w1 : World) (B A : Option Addr) (i : Value) (wr : World) : Prop :=
  ∃ (j : Nat) (cb ca : List Int), j ≤ k ∧ i = .int .i64 (j : Int) ∧ Own .u8 5 wr w1.heap.size B k k cb ∧ Own .i64 3 wr w1.heap.size A k k ca ∧ (∀ q, q < j → gi cb q = gi o.dB q ∧ gi ca q = gi o.dE (Tu.piN k q)) ∧ Below w1.heap.size w1 wr
def RhJ2 (k : Nat) (o : Ob) (w1 : World) (B A : Option Addr) (i : Value) (wr : World) : Prop :=
  ∃ (j : Nat) (cb ca : List Int), j ≤ k ∧ i = .int .i64 (j : Int) ∧ Own .u8 5 wr w1.heap.size B k k cb ∧ Own .i64 3 wr w1.heap.size A k k ca ∧ (∀ q, q < j → gi cb (Tu.piN k q) = gi o.dB q ∧ gi ca (Tu.piN k q) = gi o.dE q) ∧ Below w1.heap.size w1 wr

/-- what the reference's Decode gives, told by what it is -/
theorem rdecF_any (S P A : Option Addr) (cs cp ca : Nat) (o : Ob) (w : World) (h : In3 w o S P A cs cp ca) (ho : o.ok) :
    Calls Tryz.prog 56 #[.slice S o.s.length cs, .slice P o.p.length cp, .slice A o.a.length ca] w fun e w' => ∃ A1 A2 A3 c1 c2 c3, e = .returned (.tuple #[.agg #[.slice A1 o.a.length c1, .slice A2 o.a.length c2, .slice A3 o.a.length c3], .int .i64 0]) ∧
      Own .i64 3 w' w.heap.size A2 o.a.length c2 o.dE ∧ Own .u8 5 w' w.heap.size A3 o.a.length c3 o.dB ∧ Below w.heap.size w w' := by
  refine (rdecode_ok S P A cs cp ca o w h ho).mono ?_
  rintro e w' ⟨A1, A2, A3, c1, c2, c3, rfl, h1, h2, h3, hB⟩
  exact ⟨A1, A2, A3, c1, c2, c3, rfl, by unfold Ob.dE; rw [if_pos ho]; exact h2, by unfold Ob.dB; rw [if_pos ho]; exact h3, hB⟩
set_option maxRecDepth 100000 in
set_option maxHeartbeats 2000000 in
theorem rhalves_any (S : Option Addr) (k u cs : Nat) (vs : List Int) (kind : Int) (most : Nat) (w : World) (h : Rd .i64 w S (3 * (k + 4)) cs vs) (hu : k = Tu.szK u) (hm : 1 ≤ most ∧ most ≤ 64) (hs : SoftB vs = true) :
    Calls Tryz.prog 21 #[.slice S (3 * (k + 4)) cs, .int .i64 kind, .int .i64 (most : Int)] w (RhP k vs kind most w) := by
  have hval : Tu.validK (k : Int) = true := by rw [hu]; exact Tu.szK_valid u
  have hb := Tu.szK_bd u
  rw [← hu] at hb
  have HU := Lib.hid hu
  have HVL := Lib.hid hval
  have HON := Lib.hid (fun h => obN_ok (vs := vs) (k := k) hs ⟨by omega, by omega⟩ h)
  have HR := Lib.hid h
  have HM := Lib.hid hm
  have hk9 : k ≤ 6144 := by omega
  have hk0 : 0 < k := by omega
  have HRO := Lib.hid (fun W => Tu.rorder_any (k : Int) W)
  rw [show Tu.permE (k : Int) = 0 from by unfold Tu.permE; rw [if_pos hval], show Tu.ordR (k : Int) = Tu.ordL k from by unfold Tu.ordR; rw [if_pos hval, Int.toNat_natCast]] at HRO
  have a1 : (((3 * (k + 4) : Nat) : Int)).tdiv 3 = (k : Int) + 4 := by rw [Int.tdiv_eq_ediv_of_nonneg (by omega)]; omega
  have a3 : IntKind.i64.wrap ((k : Int) + 4) = (k : Int) + 4 := IntWalk.i64_in _ (by omega)
  have a4 : IntKind.i64.wrap ((k : Int) + 4 - 4) = (k : Int) := by rw [IntWalk.i64_in _ (by omega)]; omega
  clear h hu hs hval hb hm
  go_enter Tryz.func21, Tryz.ntmps21
  obtain ⟨N, hN⟩ : ∃ N : Nat, N = 3 * (k + 4) := ⟨_, rfl⟩
  rw [← hN] at a1 ⊢
  go_wp2_with (first
    | (go_at_call 54; refine (HRO.out _).mono ?_; rintro e w1 ⟨OR, on, oo, rfl, hO, hB⟩; have hon := Rd.len (Own.rd hO); rw [Tu.ordL_len] at hon; subst hon; have HOR := Lib.hid hO; have HB1 := Lib.hid hB; clear hO hB)
    | (at_make; refine list_of rfl fun K hK => wp_mk (n := k) _ _ 34 rfl el22 rfl rfl (by omega) (by unfold maxLen; omega) ?_
       intro Am w3 hO3 hB3 hA
       have HO3 : Hid (Own .i64 3 w3 w1.heap.size Am k k (List.replicate k 0)) := Lib.hid (by unfold Own; simpa using hO3)
       have HOR := Lib.hid (Ownv.below HOR.out hB3)
       have HB3 := Lib.hid (HB1.out.trans (hB3.mono HB1.out.size))
       clear hO3 hB3 hA
       refine hK _ _ ?_
       clear hK K))
  clear a1 a3 a4 HRO
  go_loopw [11, 12, 13] (fun ap out half wr => RhI w k vs kind most OR oo ap out half wr) (fun _ _ half _ => most + 1 - (intOf half).toNat)
  case atStart => exact ⟨0, Am, k, none, 0, [], by omega, rfl, rfl, Ownv.mono HO3.out HB1.out.size, rfl, BL.nil _ _, rfl, fun q s h => by simp at h, fun q hq => by omega, HB3.out, HOR.out⟩
  case round =>
    obtain ⟨h, A, ac, O, oc, L, hh, rfl, rfl, hA, rfl, hBL, hLl, hrows, hno, hB, hOR⟩ := hrel
    have HA := Lib.hid hA
    have HBL := Lib.hid hBL
    have HRW := Lib.hid hrows
    have HNO := Lib.hid hno
    have HB := Lib.hid hB
    have HOR := Lib.hid hOR
    subst hLl
    clear hA hBL hrows hno hB hOR
    have hm2 : most ≤ 64 := HM.out.2
    by_cases hLm : L.length < most
    · rcases Nat.mod_two_eq_zero_or_one (L.length + 1) with par | par
      · skip
        have q2 : ((L.length : Int) + 1).tmod 2 = 0 := by rw [Int.tmod_eq_emod_of_nonneg (by omega)]; omega
        have q3 : ((L.length : Int) + 1) % 2 = 0 := by omega
        have HLY := Lib.hid (fun W => Tu.rlay2_any k W HVL.out)
        have eo : obN vs k L.length = obH vs k 2 (apN vs k L.length) := by unfold obN; rw [cd_even par]
        have HOK := Lib.hid (HON.out L.length)
        rw [eo] at HOK
        have hal := (apN_ok vs k L.length).1
        have els : (obH vs k 2 (apN vs k L.length)).s.length = k + 3 := by show (pk _ _).length = _; rw [pk_len, sys_len]
        have elp : (obH vs k 2 (apN vs k L.length)).p.length = k + 3 := by show (pk _ _).length = _; rw [pk_len, par_len]
        have ela : (obH vs k 2 (apN vs k L.length)).a.length = k := hal
        have EDN : Hid (decN vs k L.length = pk (obH vs k 2 (apN vs k L.length)).dB (Tu.invL k)) := Lib.hid (by unfold decN; rw [cd_even par, eo]; rfl)
        have EAN : Hid (apN vs k (L.length + 1) = pk (obH vs k 2 (apN vs k L.length)).dE (Tu.invL k)) := Lib.hid (by show pk (obH vs k (cdN (L.length + 1)) (apN vs k L.length)).dE (bkL k (cdN (L.length + 1))) = _; rw [cd_even par]; rfl)
        generalize hoo : obH vs k 2 (apN vs k L.length) = o at *
        have ES := Lib.hid (show pk vs (Tu.sysL k 2) = o.s by rw [← hoo]; rfl)
        have EP := Lib.hid (show pk vs (Tu.parI k 2) = o.p by rw [← hoo]; rfl)
        have EA := Lib.hid (show apN vs k L.length = o.a by rw [← hoo]; rfl)
        have EL := Lib.hid (And.intro els (And.intro elp ela))
        have HBD := Lib.hid (fun j (hj : j < k + 3) => And.intro (sys_bd HU.out (code := 2) (.inr rfl) hj) (par_bd (k := k) (code := 2) (.inr rfl) hj))
        clear hoo els elp ela hal eo par
        go_wp2_with (go_at_call 55; refine (HLY.out _).mono ?_; rintro e w1 ⟨SA, sc, PA, pc, rfl, hSA, hPA, hB1⟩; have HSA := Lib.hid (Own.rd hSA); have HPA := Lib.hid (Own.rd hPA); have HBw := Lib.hid hB1; clear hSA hPA hB1)
        clear q2 q3 HLY
        have HV1 := Lib.hid (Rdv.below HR.out (HB.out.trans (HBw.out.mono HB.out.size)))
        refine (rpicked_any S (3 * (k + 4)) cs vs SA (k + 3) sc (Tu.sysL k 2) w1 HV1.out HSA.out (fun j hj => (HBD.out j hj).1) (by omega)).mono ?_
        rintro e w2 ⟨R1, c1, rfl, hR1, hB2⟩
        rw [ES.out] at hR1
        have HR1 := Lib.hid (Own.rd hR1)
        have HV2 := Lib.hid (Rdv.below HV1.out hB2)
        have HPA2 := Lib.hid (Rdv.below HPA.out hB2)
        have HBw2 := Lib.hid (HBw.out.trans (hB2.mono HBw.out.size))
        clear hR1 hB2
        go_wp2_with fail
        refine (rpicked_any S (3 * (k + 4)) cs vs PA (k + 3) pc (Tu.parI k 2) w2 HV2.out HPA2.out (fun j hj => (HBD.out j hj).2) (by omega)).mono ?_
        rintro e w3 ⟨R2, c2, rfl, hR2, hB2⟩
        rw [EP.out] at hR2
        have HR2 := Lib.hid (Own.rd hR2)
        have HR13 := Lib.hid (Rdv.below HR1.out hB2)
        have HBw3 := Lib.hid (HBw2.out.trans (hB2.mono HBw2.out.size))
        clear hR2 hB2
        have HA3 := Lib.hid (Own.rd (Ownv.below HA.out HBw3.out))
        have HDC : Hid (Calls Tryz.prog 56 #[.slice R1 (k + 3) c1, .slice R2 (k + 3) c2, .slice A k ac] w3 (fun e w' => ∃ A1 A2 A3 c1 c2 c3, e = .returned (.tuple #[.agg #[.slice A1 k c1, .slice A2 k c2, .slice A3 k c3], .int .i64 0]) ∧ Own .i64 3 w' w3.heap.size A2 k c2 o.dE ∧ Own .u8 5 w' w3.heap.size A3 k c3 o.dB ∧ Below w3.heap.size w3 w')) := Lib.hid (by
          have h3 : Rd .i64 w3 A k ac o.a := by have := HA3.out; rw [EA.out] at this; exact this
          have h4 := rdecF_any R1 R2 A c1 c2 ac o w3 ⟨by rw [EL.out.1]; exact HR13.out, by rw [EL.out.2.1]; exact HR2.out, by rw [EL.out.2.2]; exact h3⟩ HOK.out
          rw [EL.out.1, EL.out.2.1, EL.out.2.2] at h4
          exact h4)
        go_wp2_with fail
        refine HDC.out.mono ?_
        rintro e w4 ⟨A1, A2, A3, d1, d2, d3, rfl, hE, hD, hB4⟩
        have HE4 := Lib.hid hE
        have HD4 := Lib.hid hD
        have HBw4 := Lib.hid (HBw3.out.trans (hB4.mono HBw3.out.size))
        clear hE hD hB4 HDC
        go_wp2_with fail
        have HX5a : Hid (Blk (w4.alloc (.cells #[.slice A1 k d1, .slice A2 k d2, .slice A3 k d3] 104)) w4.heap.size 104 [.slice A1 k d1, .slice A2 k d2, .slice A3 k d3]) := Lib.hid (Blk.new w4 _ 104 rfl)
        have HE5a := Lib.hid (Rdv.alloc (Own.rd HE4.out) (.cells #[.slice A1 k d1, .slice A2 k d2, .slice A3 k d3] 104))
        have HD5a := Lib.hid (Rdv.alloc (Own.rd HD4.out) (.cells #[.slice A1 k d1, .slice A2 k d2, .slice A3 k d3] 104))
        have HBw5a := Lib.hid (HBw4.out.alloc HBw4.out.size (.cells #[.slice A1 k d1, .slice A2 k d2, .slice A3 k d3] 104))
        obtain ⟨X, hX⟩ : ∃ X, X = w4.heap.size := ⟨_, rfl⟩
        obtain ⟨w5, hwa⟩ : ∃ wa, wa = w4.alloc (.cells #[.slice A1 k d1, .slice A2 k d2, .slice A3 k d3] 104) := ⟨_, rfl⟩
        rw [← hX] at HX5a
        rw [← hwa] at HX5a HE5a HD5a HBw5a
        try rw [← hX]
        try rw [← hwa]
        have HX5 := Lib.hid HX5a.out
        have HE5 := Lib.hid HE5a.out
        have HD5 := Lib.hid HD5a.out
        have HBw5 : Hid (Below wr.heap.size wr w5) := Lib.hid HBw5a.out
        clear hX hwa HX5a HE5a HD5a HBw5a
        obtain ⟨wr0, hwr0⟩ : ∃ wr0, wr0 = wr := ⟨_, rfl⟩
        rw [← hwr0] at HBw5 HBL HOR HB
        clear hwr0
        have HS : Hid (Below w5.heap.size w5 w5.drew) := Lib.hid (Below.refl _ _).drew
        go_cut [20, 21] from 61 to 64 (fun v20 v21 wx => RhX k w5 v20 v21 wx)
        case first =>
          refine Q_start (fun W => Below w5.heap.size w5 W) 1 6 ?_
          refine Q_W 0 61 1 (.int .i64 (k : Int)) rfl HS.out ?_
          simp only [z0, z1, z2]
          refine Q_W 2 63 5 (.int .i64 (k : Int)) rfl HS.out ?_
          simp only [z0, z1, z2]
          generalize w5.drew = wd at *
          refine Q_2S 1 3 7 13 rfl rfl (fun K hK => ?_) (fun K hK => ?_)
          · refine wp_mkd 62 (.tmp 61) (.tmp 61) 22 rfl rfl el26 rfl rfl (by omega) (by unfold maxLen; omega) ?_
            intro B wa hO hB1 hA0
            have HB9 : Hid (Own .u8 5 wa wd.heap.size B k k (List.replicate k 0)) := Lib.hid (by unfold Own; simpa using hO)
            have HSm := Lib.hid (HS.out.trans (hB1.mono HS.out.size))
            clear hB1 hO hA0
            refine hK _ _ HSm.out ?_
            clear hK K
            simp only [z0, z1, z2]
            refine Q_W 4 20 23 (.slice B k k) rfl HSm.out ?_
            simp only [z0, z1, z2]
            refine Q_1S 3 31 rfl (fun K hK => ?_)
            refine wp_mkd 64 (.tmp 63) (.tmp 63) 34 rfl rfl el22 rfl rfl (by omega) (by unfold maxLen; omega) ?_
            intro A9 wb hO hB1 hA0
            have HA9 : Hid (Own .i64 3 wb wa.heap.size A9 k k (List.replicate k 0)) := Lib.hid (by unfold Own; simpa using hO)
            have HB9 := Lib.hid (Ownv.below HB9.out hB1)
            have HSmm := Lib.hid (HSm.out.trans (hB1.mono HSm.out.size))
            clear hB1 hO hA0
            refine hK _ _ HSmm.out ?_
            clear hK K
            simp only [z0, z1, z2]
            have HF : Hid (RhX k w5 (.slice B k k) (.slice A9 k k) wb) := Lib.hid ⟨B, A9, rfl, rfl, Ownv.mono HB9.out HS.out.size, Ownv.mono HA9.out HSm.out.size, HSmm.out⟩
            refine Q_1 5 63 rfl (fun K hK => ?_)
            go_simp
            refine hK _ _ ?_
            clear hK K
            refine Q_end ?_
            go_wp2_with fail
            go_meet
            exact HF.out
          · refine wp_mkd 64 (.tmp 63) (.tmp 63) 34 rfl rfl el22 rfl rfl (by omega) (by unfold maxLen; omega) ?_
            intro A9 wa hO hB1 hA0
            have HA9 : Hid (Own .i64 3 wa wd.heap.size A9 k k (List.replicate k 0)) := Lib.hid (by unfold Own; simpa using hO)
            have HSm := Lib.hid (HS.out.trans (hB1.mono HS.out.size))
            clear hB1 hO hA0
            refine hK _ _ HSm.out ?_
            clear hK K
            simp only [z0, z1, z2]
            refine Q_1S 1 15 rfl (fun K hK => ?_)
            refine wp_mkd 62 (.tmp 61) (.tmp 61) 22 rfl rfl el26 rfl rfl (by omega) (by unfold maxLen; omega) ?_
            intro B wb hO hB1 hA0
            have HB9 : Hid (Own .u8 5 wb wa.heap.size B k k (List.replicate k 0)) := Lib.hid (by unfold Own; simpa using hO)
            have HA9 := Lib.hid (Ownv.below HA9.out hB1)
            have HSmm := Lib.hid (HSm.out.trans (hB1.mono HSm.out.size))
            clear hB1 hO hA0
            refine hK _ _ HSmm.out ?_
            clear hK K
            simp only [z0, z1, z2]
            have HF : Hid (RhX k w5 (.slice B k k) (.slice A9 k k) wb) := Lib.hid ⟨B, A9, rfl, rfl, Ownv.mono HB9.out HSm.out.size, Ownv.mono HA9.out HS.out.size, HSmm.out⟩
            refine Q_1 4 31 rfl (fun K hK => ?_)
            go_simp
            refine hK _ _ ?_
            clear hK K
            refine Q_1 5 63 rfl (fun K hK => ?_)
            go_simp
            refine hK _ _ ?_
            clear hK K
            refine Q_end ?_
            go_wp2_with fail
            go_meet
            exact HF.out
        case rest =>
          obtain ⟨B, A9, rfl, rfl, hBO, hAO, hB6⟩ := hcut
          have HBO := Lib.hid hBO
          have HAO := Lib.hid hAO
          have HB6 := Lib.hid hB6
          clear hBO hAO hB6
          go_wp2_with fail
          go_loopw [22] (fun i wr => RhJ2 k o w5 B A9 i wr) (fun i _ => k - (intOf i).toNat)
          case atStart => exact ⟨0, _, _, Nat.zero_le _, rfl, HBO.out, HAO.out, fun q hq => by omega, HB6.out⟩
          case round =>
            obtain ⟨j, cb, ca, hj, rfl, hcb, hca, hq, hB7⟩ := hrel
            have HQ := Lib.hid hq
            by_cases hlt : j < k
            · have hX := HX5.out.below hB7
              have kx1 := hX.cell (j := 1) (v := .slice A2 k d2) rfl
              have kx2 := hX.cell (j := 2) (v := .slice A3 k d3) rfl
              have hro := Own.rd (Ownv.below (Ownv.below HOR.out HBw5.out) hB7)
              have hco := Rd.cell hro hlt
              have hio := fun W => Rdv.ix hro el22 hlt .i64 W
              have hpl := (Tu.perm_map HU.out).1 j hlt
              have hgo : gi (Tu.ordL k) j = ((Tu.piN k j : Nat) : Int) := by rw [gi_eq _ _ (by rw [Tu.ordL_len]; exact hlt)]; simp [Tu.ordL]
              rw [hgo] at hco
              have HINJ : Hid (∀ q, q < j → Tu.piN k q ≠ Tu.piN k j) := Lib.hid (fun q hq e => absurd (pi_inj HU.out q j (by omega) hlt e) (by omega))
              obtain ⟨p, hp⟩ : ∃ p, p = Tu.piN k j := ⟨_, rfl⟩
              rw [← hp] at hpl hco HINJ
              have HP := Lib.hid hp
              have HP8 : gi (Tu.ordL k) j = ((p : Nat) : Int) := by rw [hp]; exact hgo
              clear hp hgo
              have hrb := Rdv.below HD5.out hB7
              have hre := Rdv.below HE5.out hB7
              have hcb2 := Rd.cell hrb hlt
              have hib2 := fun W => Rdv.ix hrb el26 hlt .i64 W
              have hce := Rd.cell hre hlt
              have hie := fun W => Rdv.ix hre el22 hlt .i64 W
              obtain ⟨u, hu⟩ : ∃ u, u = gi o.dB j := ⟨_, rfl⟩
              obtain ⟨v, hv⟩ : ∃ v, v = gi o.dE j := ⟨_, rfl⟩
              rw [← hu] at hcb2
              rw [← hv] at hce
              have hfb := Ownv.frozen hcb (by omega) p
              have hib := fun W => Rdv.ix (Own.rd hcb) el26 (j := p) hpl .i64 W
              have hcbc := Rd.cell (Own.rd hcb) (j := p) hpl
              have hcl := Rd.len (Own.rd hcb)
              have hal := Rd.len (Own.rd hca)
              have hBn : B ≠ none := own_some hcb hk0
              have hS1 := Own.set_ hcb (j := p) hpl u
              have hAn : A9 ≠ none := own_some3 hca hk0
              have hB8 : Below w5.heap.size w5 (wr.setCell (adr B p) (.int .u8 u)).drew := (hB7.grown hS1.2 hB7.size (fun k9 e => by cases e; exact (Ownv.blk_ge hcb (by omega)).1)).drew
              have hA8 : Own .i64 3 (wr.setCell (adr B p) (.int .u8 u)).drew w5.heap.size A9 k k ca := Ownv.drew (Ownv.grown hca hS1.2 (rows_ne2 hca hcb (by decide) hBn))
              have hC8 : Own .u8 5 (wr.setCell (adr B p) (.int .u8 u)).drew w5.heap.size B k k (cb.set p u) := Ownv.drew hS1.1
              have hS2 := Own.set_ hA8 (j := p) hpl v
              have hre8 := Rdv.below HE5.out hB8
              have hro8 := Own.rd (Ownv.below (Ownv.below HOR.out HBw5.out) hB8)
              have kx18 := (HX5.out.below hB8).cell (j := 1) (v := .slice A2 k d2) rfl
              have hco8 := Rd.cell hro8 hlt
              rw [HP8] at hco8
              have hce8 := Rd.cell hre8 hlt
              rw [← hv] at hce8
              have hfa8 := Ownv.frozen hA8 (by omega) p
              have hia := fun W => Rdv.ix (Own.rd hA8) el22 (j := p) hpl .i64 W
              have hcac := Rd.cell (Own.rd hA8) (j := p) hpl
              have HC9 := Lib.hid (Ownv.drew (Ownv.grown hC8 hS2.2 (rows_ne2 hC8 hA8 (by decide) hAn)))
              have HA9 := Lib.hid (Ownv.drew hS2.1)
              have HB9 := Lib.hid (hB8.grown hS2.2 hB8.size (fun k9 e => by cases e; exact (Ownv.blk_ge hA8 (by omega)).1)).drew
              have HU9 := Lib.hid hu
              have HV9 := Lib.hid hv
              have HCL := Lib.hid hcl
              have HAL := Lib.hid hal
              clear hS1 hS2 hB8 hA8 hC8 hre8 hro8 hre hro hrb hX hcb hca hq hB7 hu hv hcl hal HP8
              go_wp2_with fail
              go_still_tail 11, (by kernel_rfl)
              simp only [World.drew_eq]
              go_wp2_with fail
              generalize (wr.setCell (adr B p) (Value.int .u8 u)).drew = W1 at *
              go_still_tail 11, (by kernel_rfl)
              simp only [World.drew_eq]
              go_wp2
              go_roundw
              case rel => exact ⟨j + 1, cb.set p u, ca.set p v, by omega, by go_num, HC9.out, HA9.out, lt_succ_cases (fun q hq => by
                  have h7 := HQ.out q hq
                  rw [gi_set' _ _ _ _ (by rw [HCL.out]; exact (Tu.perm_map HU.out).1 q (by omega)), if_neg (fun e => HINJ.out q hq e.symm), gi_set' _ _ _ _ (by rw [HAL.out]; exact (Tu.perm_map HU.out).1 q (by omega)), if_neg (fun e => HINJ.out q hq e.symm)]; exact h7) (by
                  rw [← HP.out, gi_set' _ _ _ _ (by rw [HCL.out]; exact hpl), if_pos rfl, gi_set' _ _ _ _ (by rw [HAL.out]; exact hpl), if_pos rfl]; exact ⟨HU9.out, HV9.out⟩), HB9.out⟩
              case measure => simp [intOf]; omega
            · obtain rfl : j = k := by omega
              have hBn : B ≠ none := own_some hcb hk0
              have hAn : A9 ≠ none := own_some3 hca hk0
              have hcl := Rd.len (Own.rd hcb)
              have hal := Rd.len (Own.rd hca)
              have hdl := Rd.len HD5.out
              have hel := Rd.len HE5.out
              have hEB : cb = decN vs j L.length := by
                rw [EDN.out]
                exact ext_gi (by rw [hcl, pk_len, inv_len]) fun q hq9 => by
                  obtain ⟨i9, h1, h2, h3⟩ := pi_inv HU.out q (by omega)
                  rw [gi_pk (by rw [inv_len]; omega), h3, Int.toNat_natCast, ← (hq i9 h1).1, h2]
              have hEA : ca = apN vs j (L.length + 1) := by
                rw [EAN.out]
                exact ext_gi (by rw [hal, pk_len, inv_len]) fun q hq9 => by
                  obtain ⟨i9, h1, h2, h3⟩ := pi_inv HU.out q (by omega)
                  rw [gi_pk (by rw [inv_len]; omega), h3, Int.toNat_natCast, ← (hq i9 h1).2, h2]
              rw [hEB] at hcb
              rw [hEA] at hca
              have HCB := Lib.hid hcb
              have HCA := Lib.hid hca
              have hBW : Below wr0.heap.size wr0 wr := HBw5.out.trans (hB7.mono HBw5.out.size)
              have HBL7 := Lib.hid (BL.below HBL.out hBW)
              have HOR7 := Lib.hid (Ownv.below HOR.out hBW)
              have HB7 := Lib.hid (HB.out.trans (hBW.mono HB.out.size))
              have HSZ := Lib.hid (Nat.le_trans HB.out.size HBw5.out.size)
              have HBGE := Lib.hid (Nat.le_trans HBw5.out.size (Ownv.blk_of hcb hBn).1)
              have HBN := Lib.hid hBn
              have HAN := Lib.hid hAn
              clear hcb hca hq HQ hB7 hBW hcl hal hdl hel hEB hEA hBn hAn HD5 HE5 HX5 HBO HAO HB6 HOR HBw5 EDN EAN
              obtain ⟨p, hp⟩ : ∃ p, p = okN kind vs j L.length := ⟨_, rfl⟩
              have HP := Lib.hid hp
              have hps : psN kind (decN vs j L.length) (befN vs j L.length) (L.length + 1) = p := by rw [hp]; rfl
              clear hp
              have HDU := Lib.hid (decN_u8 vs j L.length)
              have HBU := Lib.hid (befN_u8 vs j L.length)
              have HAPP := Lib.hid (fun W (hW : Ownv 22 W w.heap.size O L.length oc (L.map Sv.v)) => hW)
              have hob : ∀ q, (Value.slice O L.length oc).ownBlock = some q → w.heap.size ≤ q := fun q hq => Ownv.ob' HBL7.out.o hq
              have HOB := Lib.hid hob
              have hlw : w.heap.size ≤ wr.heap.size := HB7.out.size
              have HPUSH : Hid (∀ (O2 : Option Addr) (c2 : Nat) (W2 : World), Ownv 22 W2 w.heap.size O2 (L.length + 1) c2 (L.map Sv.v ++ [.slice B j j]) → wr.grownBy W2 ((Value.slice O L.length oc).ownBlock) → BL W2 w.heap.size O2 c2 (L ++ [⟨B, j, j, decN vs j L.length⟩]) ∧ Own .i64 3 W2 w.heap.size A9 j j (apN vs j (L.length + 1)) ∧ Own .i64 3 W2 w.heap.size OR j oo (Tu.ordL j) ∧ Below w.heap.size w W2) := Lib.hid (fun O2 c2 W2 hO2 hg2 => ⟨BL.push HBL7.out (s := ⟨B, j, j, decN vs j L.length⟩) (Ownv.mono HCB.out HSZ.out) HBN.out (fun t ht => by
                  have h8 := (Ownv.blk_of (HBL.out.r t ht).1 (HBL.out.r t ht).2).2
                  have h9 := HBGE.out
                  show blk t.A ≠ blk B
                  omega) hO2 hg2, Ownv.mono (Ownv.grown HCA.out hg2 (rows_ne HCA.out HBL7.out.o (by decide))) HSZ.out, Ownv.grown HOR7.out hg2 (rows_ne HOR7.out HBL7.out.o (by decide)), HB7.out.grown hg2 hlw hob⟩)
              clear hob hlw HAPP
              by_cases h0 : L.length = 0
              · have q4 : decide (((L.length : Int) + 1) > 1) = false := by simp; omega
                have HBF : Hid (befN vs j L.length = []) := Lib.hid (by rw [h0]; rfl)
                have H0 := Lib.hid h0
                clear h0
                go_wp2_with (at_builtin; refine list_of rfl fun K hK => wp_app1 (w := wr) (base := w.heap.size) _ _ 49 rfl el100 rfl (.slice B j j) rfl rfl HBL7.out.o (by omega) (by omega) HB7.out.size ?_; intro O2 c2 w2 hO2 hg2; have HQ2 := Lib.hid (HPUSH.out O2 c2 w2 hO2 hg2); clear hO2 hg2; refine hK _ _ ?_; clear hK K)
                have HPS := Lib.hid (rpasses_any B j j (decN vs j L.length) none 0 0 (befN vs j L.length) kind (L.length + 1) w2 (Own.rd (HQ2.out.1.r ⟨B, j, j, decN vs j L.length⟩ (by simp)).1) (by rw [HBF.out]; exact Rd.nilv .u8 _) HDU.out HBU.out (by omega))
                rw [hps] at HPS
                have HRW2 : Hid (∀ q t, (L ++ [(⟨B, j, j, decN vs j L.length⟩ : Sv)])[q]? = some t → t.n = j ∧ t.xs = decN vs j q) := Lib.hid (fun q t ht => by
                  rcases Nat.lt_or_ge q L.length with h8 | h8
                  · rw [List.getElem?_append_left h8] at ht
                    exact HRW.out q t ht
                  · rw [List.getElem?_append_right h8] at ht
                    have h7 : q - L.length = 0 := by
                      rcases Nat.eq_zero_or_pos (q - L.length) with h | h
                      · exact h
                      · rw [List.getElem?_eq_none (by simp; omega)] at ht; cases ht
                    have h6 : q = L.length := by omega
                    rw [h7] at ht
                    simp at ht
                    rw [← ht, h6]
                    exact ⟨rfl, rfl⟩)
                go_wp2_with fail
                refine HPS.out.mono ?_
                rintro e w9 ⟨rfl, hB9⟩
                have HQ9 := Lib.hid (And.intro (BL.below HQ2.out.1 hB9) (And.intro (Ownv.below HQ2.out.2.1 hB9) (And.intro (Ownv.below HQ2.out.2.2.1 hB9) (HQ2.out.2.2.2.trans (hB9.mono HQ2.out.2.2.2.size)))))
                clear hB9
                have hLE : (L ++ [(⟨B, j, j, decN vs j L.length⟩ : Sv)]).length = L.length + 1 := by simp
                cases p with
                | true =>
                  go_wp2
                  go_ret2
                  exact ⟨O2, c2, L ++ [⟨B, j, j, decN vs j L.length⟩], true, by rw [hLE]; rfl, HQ9.out.1, HRW2.out, HQ9.out.2.2.2, .inl ⟨rfl, L.length, hLE, hLm, HP.out.symm, HNO.out⟩⟩
                | false =>
                  go_wp2
                  go_roundw
                  case rel => exact ⟨L.length + 1, A9, j, O2, c2, L ++ [⟨B, j, j, decN vs j L.length⟩], by omega, by go_num, rfl, HQ9.out.2.1, by rw [hLE], HQ9.out.1, hLE, HRW2.out, lt_succ_cases HNO.out HP.out.symm, HQ9.out.2.2.2, HQ9.out.2.2.1⟩
                  case measure => simp [intOf]; omega
              · have q4 : decide (((L.length : Int) + 1) > 1) = true := by simp; omega
                obtain ⟨I, hI⟩ : ∃ I, L.length = I + 1 := ⟨L.length - 1, by omega⟩
                obtain ⟨s, hs⟩ : ∃ s, L[I]? = some s := ⟨_, List.getElem?_eq_getElem (by omega)⟩
                have hsr := HRW.out I s hs
                have hc22 : wr.cell? (adr O I) = some (.slice s.A s.n s.c) := HBL7.out.o.rd.at_ I s.v (by rw [List.getElem?_map, hs]; rfl)
                have e22 : IntKind.i64.wrap ((L.length : Int) + 1 - 2) = (I : Int) := by rw [IntWalk.i64_in _ (by omega)]; omega
                have hi22 := fun W => Rdv.ix HBL7.out.o.rd el100 (j := I) (by omega) .i64 W
                have HBF : Hid (befN vs j L.length = s.xs) := Lib.hid (by rw [hI, hsr.2]; rfl)
                have HSM := Lib.hid (List.mem_of_getElem? hs)
                have H0 := Lib.hid hI
                clear h0 hI hs hsr
                go_wp2_with (at_builtin; refine list_of rfl fun K hK => wp_app1 (w := wr) (base := w.heap.size) _ _ 49 rfl el100 rfl (.slice B j j) rfl rfl HBL7.out.o (by omega) (by omega) HB7.out.size ?_; intro O2 c2 w2 hO2 hg2; have HQ2 := Lib.hid (HPUSH.out O2 c2 w2 hO2 hg2); clear hO2 hg2; refine hK _ _ ?_; clear hK K)
                have HPS := Lib.hid (rpasses_any B j j (decN vs j L.length) s.A s.n s.c (befN vs j L.length) kind (L.length + 1) w2 (Own.rd (HQ2.out.1.r ⟨B, j, j, decN vs j L.length⟩ (by simp)).1) (by rw [HBF.out]; exact Own.rd (HQ2.out.1.r s (by simp [HSM.out])).1) HDU.out HBU.out (by omega))
                rw [hps] at HPS
                have HRW2 : Hid (∀ q t, (L ++ [(⟨B, j, j, decN vs j L.length⟩ : Sv)])[q]? = some t → t.n = j ∧ t.xs = decN vs j q) := Lib.hid (fun q t ht => by
                  rcases Nat.lt_or_ge q L.length with h8 | h8
                  · rw [List.getElem?_append_left h8] at ht
                    exact HRW.out q t ht
                  · rw [List.getElem?_append_right h8] at ht
                    have h7 : q - L.length = 0 := by
                      rcases Nat.eq_zero_or_pos (q - L.length) with h | h
                      · exact h
                      · rw [List.getElem?_eq_none (by simp; omega)] at ht; cases ht
                    have h6 : q = L.length := by omega
                    rw [h7] at ht
                    simp at ht
                    rw [← ht, h6]
                    exact ⟨rfl, rfl⟩)
                go_wp2_with fail
                refine HPS.out.mono ?_
                rintro e w9 ⟨rfl, hB9⟩
                have HQ9 := Lib.hid (And.intro (BL.below HQ2.out.1 hB9) (And.intro (Ownv.below HQ2.out.2.1 hB9) (And.intro (Ownv.below HQ2.out.2.2.1 hB9) (HQ2.out.2.2.2.trans (hB9.mono HQ2.out.2.2.2.size)))))
                clear hB9
                have hLE : (L ++ [(⟨B, j, j, decN vs j L.length⟩ : Sv)]).length = L.length + 1 := by simp
                cases p with
                | true =>
                  go_wp2
                  go_ret2
                  exact ⟨O2, c2, L ++ [⟨B, j, j, decN vs j L.length⟩], true, by rw [hLE]; rfl, HQ9.out.1, HRW2.out, HQ9.out.2.2.2, .inl ⟨rfl, L.length, hLE, hLm, HP.out.symm, HNO.out⟩⟩
                | false =>
                  go_wp2
                  go_roundw
                  case rel => exact ⟨L.length + 1, A9, j, O2, c2, L ++ [⟨B, j, j, decN vs j L.length⟩], by omega, by go_num, rfl, HQ9.out.2.1, by rw [hLE], HQ9.out.1, hLE, HRW2.out, lt_succ_cases HNO.out HP.out.symm, HQ9.out.2.2.2, HQ9.out.2.2.1⟩
                  case measure => simp [intOf]; omega
      · skip
        have q2 : ((L.length : Int) + 1).tmod 2 = 1 := by rw [Int.tmod_eq_emod_of_nonneg (by omega)]; omega
        have q3 : ((L.length : Int) + 1) % 2 = 1 := by omega
        have HLY := Lib.hid (fun W => Tu.rlay1_any k W HVL.out)
        have eo : obN vs k L.length = obH vs k 1 (apN vs k L.length) := by unfold obN; rw [cd_odd par]
        have HOK := Lib.hid (HON.out L.length)
        rw [eo] at HOK
        have hal := (apN_ok vs k L.length).1
        have els : (obH vs k 1 (apN vs k L.length)).s.length = k + 3 := by show (pk _ _).length = _; rw [pk_len, sys_len]
        have elp : (obH vs k 1 (apN vs k L.length)).p.length = k + 3 := by show (pk _ _).length = _; rw [pk_len, par_len]
        have ela : (obH vs k 1 (apN vs k L.length)).a.length = k := hal
        have EDN : Hid (decN vs k L.length = (obH vs k 1 (apN vs k L.length)).dB) := Lib.hid (by unfold decN; rw [cd_odd par, eo]; rfl)
        have EAN : Hid (apN vs k (L.length + 1) = pk (obH vs k 1 (apN vs k L.length)).dE (Tu.ordL k)) := Lib.hid (by show pk (obH vs k (cdN (L.length + 1)) (apN vs k L.length)).dE (bkL k (cdN (L.length + 1))) = _; rw [cd_odd par]; rfl)
        generalize hoo : obH vs k 1 (apN vs k L.length) = o at *
        have ES := Lib.hid (show pk vs (Tu.sysL k 1) = o.s by rw [← hoo]; rfl)
        have EP := Lib.hid (show pk vs (Tu.parI k 1) = o.p by rw [← hoo]; rfl)
        have EA := Lib.hid (show apN vs k L.length = o.a by rw [← hoo]; rfl)
        have EL := Lib.hid (And.intro els (And.intro elp ela))
        have HBD := Lib.hid (fun j (hj : j < k + 3) => And.intro (sys_bd HU.out (code := 1) (.inl rfl) hj) (par_bd (k := k) (code := 1) (.inl rfl) hj))
        clear hoo els elp ela hal eo par
        go_wp2_with (go_at_call 55; refine (HLY.out _).mono ?_; rintro e w1 ⟨SA, sc, PA, pc, rfl, hSA, hPA, hB1⟩; have HSA := Lib.hid (Own.rd hSA); have HPA := Lib.hid (Own.rd hPA); have HBw := Lib.hid hB1; clear hSA hPA hB1)
        clear q2 q3 HLY
        have HV1 := Lib.hid (Rdv.below HR.out (HB.out.trans (HBw.out.mono HB.out.size)))
        refine (rpicked_any S (3 * (k + 4)) cs vs SA (k + 3) sc (Tu.sysL k 1) w1 HV1.out HSA.out (fun j hj => (HBD.out j hj).1) (by omega)).mono ?_
        rintro e w2 ⟨R1, c1, rfl, hR1, hB2⟩
        rw [ES.out] at hR1
        have HR1 := Lib.hid (Own.rd hR1)
        have HV2 := Lib.hid (Rdv.below HV1.out hB2)
        have HPA2 := Lib.hid (Rdv.below HPA.out hB2)
        have HBw2 := Lib.hid (HBw.out.trans (hB2.mono HBw.out.size))
        clear hR1 hB2
        go_wp2_with fail
        refine (rpicked_any S (3 * (k + 4)) cs vs PA (k + 3) pc (Tu.parI k 1) w2 HV2.out HPA2.out (fun j hj => (HBD.out j hj).2) (by omega)).mono ?_
        rintro e w3 ⟨R2, c2, rfl, hR2, hB2⟩
        rw [EP.out] at hR2
        have HR2 := Lib.hid (Own.rd hR2)
        have HR13 := Lib.hid (Rdv.below HR1.out hB2)
        have HBw3 := Lib.hid (HBw2.out.trans (hB2.mono HBw2.out.size))
        clear hR2 hB2
        have HA3 := Lib.hid (Own.rd (Ownv.below HA.out HBw3.out))
        have HDC : Hid (Calls Tryz.prog 56 #[.slice R1 (k + 3) c1, .slice R2 (k + 3) c2, .slice A k ac] w3 (fun e w' => ∃ A1 A2 A3 c1 c2 c3, e = .returned (.tuple #[.agg #[.slice A1 k c1, .slice A2 k c2, .slice A3 k c3], .int .i64 0]) ∧ Own .i64 3 w' w3.heap.size A2 k c2 o.dE ∧ Own .u8 5 w' w3.heap.size A3 k c3 o.dB ∧ Below w3.heap.size w3 w')) := Lib.hid (by
          have h3 : Rd .i64 w3 A k ac o.a := by have := HA3.out; rw [EA.out] at this; exact this
          have h4 := rdecF_any R1 R2 A c1 c2 ac o w3 ⟨by rw [EL.out.1]; exact HR13.out, by rw [EL.out.2.1]; exact HR2.out, by rw [EL.out.2.2]; exact h3⟩ HOK.out
          rw [EL.out.1, EL.out.2.1, EL.out.2.2] at h4
          exact h4)
        go_wp2_with fail
        refine HDC.out.mono ?_
        rintro e w4 ⟨A1, A2, A3, d1, d2, d3, rfl, hE, hD, hB4⟩
        have HE4 := Lib.hid hE
        have HD4 := Lib.hid hD
        have HBw4 := Lib.hid (HBw3.out.trans (hB4.mono HBw3.out.size))
        clear hE hD hB4 HDC
        go_wp2_with fail
        have HX5a : Hid (Blk (w4.alloc (.cells #[.slice A1 k d1, .slice A2 k d2, .slice A3 k d3] 104)) w4.heap.size 104 [.slice A1 k d1, .slice A2 k d2, .slice A3 k d3]) := Lib.hid (Blk.new w4 _ 104 rfl)
        have HE5a := Lib.hid (Rdv.alloc (Own.rd HE4.out) (.cells #[.slice A1 k d1, .slice A2 k d2, .slice A3 k d3] 104))
        have HD5a := Lib.hid (Rdv.alloc (Own.rd HD4.out) (.cells #[.slice A1 k d1, .slice A2 k d2, .slice A3 k d3] 104))
        have HBw5a := Lib.hid (HBw4.out.alloc HBw4.out.size (.cells #[.slice A1 k d1, .slice A2 k d2, .slice A3 k d3] 104))
        obtain ⟨X, hX⟩ : ∃ X, X = w4.heap.size := ⟨_, rfl⟩
        obtain ⟨w5, hwa⟩ : ∃ wa, wa = w4.alloc (.cells #[.slice A1 k d1, .slice A2 k d2, .slice A3 k d3] 104) := ⟨_, rfl⟩
        rw [← hX] at HX5a
        rw [← hwa] at HX5a HE5a HD5a HBw5a
        try rw [← hX]
        try rw [← hwa]
        have HX5 := Lib.hid HX5a.out
        have HE5 := Lib.hid HE5a.out
        have HD5 := Lib.hid HD5a.out
        have HBw5 : Hid (Below wr.heap.size wr w5) := Lib.hid HBw5a.out
        clear hX hwa HX5a HE5a HD5a HBw5a
        obtain ⟨wr0, hwr0⟩ : ∃ wr0, wr0 = wr := ⟨_, rfl⟩
        rw [← hwr0] at HBw5 HBL HOR HB
        clear hwr0
        have HS : Hid (Below w5.heap.size w5 w5.drew) := Lib.hid (Below.refl _ _).drew
        go_cut [20, 21] from 61 to 64 (fun v20 v21 wx => RhX k w5 v20 v21 wx)
        case first =>
          refine Q_start (fun W => Below w5.heap.size w5 W) 1 6 ?_
          refine Q_W 0 61 1 (.int .i64 (k : Int)) rfl HS.out ?_
          simp only [z0, z1, z2]
          refine Q_W 2 63 5 (.int .i64 (k : Int)) rfl HS.out ?_
          simp only [z0, z1, z2]
          generalize w5.drew = wd at *
          refine Q_2S 1 3 7 13 rfl rfl (fun K hK => ?_) (fun K hK => ?_)
          · refine wp_mkd 62 (.tmp 61) (.tmp 61) 22 rfl rfl el26 rfl rfl (by omega) (by unfold maxLen; omega) ?_
            intro B wa hO hB1 hA0
            have HB9 : Hid (Own .u8 5 wa wd.heap.size B k k (List.replicate k 0)) := Lib.hid (by unfold Own; simpa using hO)
            have HSm := Lib.hid (HS.out.trans (hB1.mono HS.out.size))
            clear hB1 hO hA0
            refine hK _ _ HSm.out ?_
            clear hK K
            simp only [z0, z1, z2]
            refine Q_W 4 20 23 (.slice B k k) rfl HSm.out ?_
            simp only [z0, z1, z2]
            refine Q_1S 3 31 rfl (fun K hK => ?_)
            refine wp_mkd 64 (.tmp 63) (.tmp 63) 34 rfl rfl el22 rfl rfl (by omega) (by unfold maxLen; omega) ?_
            intro A9 wb hO hB1 hA0
            have HA9 : Hid (Own .i64 3 wb wa.heap.size A9 k k (List.replicate k 0)) := Lib.hid (by unfold Own; simpa using hO)
            have HB9 := Lib.hid (Ownv.below HB9.out hB1)
            have HSmm := Lib.hid (HSm.out.trans (hB1.mono HSm.out.size))
            clear hB1 hO hA0
            refine hK _ _ HSmm.out ?_
            clear hK K
            simp only [z0, z1, z2]
            have HF : Hid (RhX k w5 (.slice B k k) (.slice A9 k k) wb) := Lib.hid ⟨B, A9, rfl, rfl, Ownv.mono HB9.out HS.out.size, Ownv.mono HA9.out HSm.out.size, HSmm.out⟩
            refine Q_1 5 63 rfl (fun K hK => ?_)
            go_simp
            refine hK _ _ ?_
            clear hK K
            refine Q_end ?_
            go_wp2_with fail
            go_meet
            exact HF.out
          · refine wp_mkd 64 (.tmp 63) (.tmp 63) 34 rfl rfl el22 rfl rfl (by omega) (by unfold maxLen; omega) ?_
            intro A9 wa hO hB1 hA0
            have HA9 : Hid (Own .i64 3 wa wd.heap.size A9 k k (List.replicate k 0)) := Lib.hid (by unfold Own; simpa using hO)
            have HSm := Lib.hid (HS.out.trans (hB1.mono HS.out.size))
            clear hB1 hO hA0
            refine hK _ _ HSm.out ?_
            clear hK K
            simp only [z0, z1, z2]
            refine Q_1S 1 15 rfl (fun K hK => ?_)
            refine wp_mkd 62 (.tmp 61) (.tmp 61) 22 rfl rfl el26 rfl rfl (by omega) (by unfold maxLen; omega) ?_
            intro B wb hO hB1 hA0
            have HB9 : Hid (Own .u8 5 wb wa.heap.size B k k (List.replicate k 0)) := Lib.hid (by unfold Own; simpa using hO)
            have HA9 := Lib.hid (Ownv.below HA9.out hB1)
            have HSmm := Lib.hid (HSm.out.trans (hB1.mono HSm.out.size))
            clear hB1 hO hA0
            refine hK _ _ HSmm.out ?_
            clear hK K
            simp only [z0, z1, z2]
            have HF : Hid (RhX k w5 (.slice B k k) (.slice A9 k k) wb) := Lib.hid ⟨B, A9, rfl, rfl, Ownv.mono HB9.out HSm.out.size, Ownv.mono HA9.out HS.out.size, HSmm.out⟩
            refine Q_1 4 31 rfl (fun K hK => ?_)
            go_simp
            refine hK _ _ ?_
            clear hK K
            refine Q_1 5 63 rfl (fun K hK => ?_)
            go_simp
            refine hK _ _ ?_
            clear hK K
            refine Q_end ?_
            go_wp2_with fail
            go_meet
            exact HF.out
        case rest =>
          obtain ⟨B, A9, rfl, rfl, hBO, hAO, hB6⟩ := hcut
          have HBO := Lib.hid hBO
          have HAO := Lib.hid hAO
          have HB6 := Lib.hid hB6
          clear hBO hAO hB6
          go_wp2_with fail
          go_loopw [22] (fun i wr => RhJ1 k o w5 B A9 i wr) (fun i _ => k - (intOf i).toNat)
          case atStart => exact ⟨0, _, _, Nat.zero_le _, rfl, HBO.out, HAO.out, fun q hq => by omega, HB6.out⟩
          case round =>
            obtain ⟨j, cb, ca, hj, rfl, hcb, hca, hq, hB7⟩ := hrel
            have HQ := Lib.hid hq
            by_cases hlt : j < k
            · have hX := HX5.out.below hB7
              have kx1 := hX.cell (j := 1) (v := .slice A2 k d2) rfl
              have kx2 := hX.cell (j := 2) (v := .slice A3 k d3) rfl
              have hro := Own.rd (Ownv.below (Ownv.below HOR.out HBw5.out) hB7)
              have hco := Rd.cell hro hlt
              have hio := fun W => Rdv.ix hro el22 hlt .i64 W
              have hpl := (Tu.perm_map HU.out).1 j hlt
              have hgo : gi (Tu.ordL k) j = ((Tu.piN k j : Nat) : Int) := by rw [gi_eq _ _ (by rw [Tu.ordL_len]; exact hlt)]; simp [Tu.ordL]
              rw [hgo] at hco
              have HINJ : Hid (∀ q, q < j → Tu.piN k q ≠ Tu.piN k j) := Lib.hid (fun q hq e => absurd (pi_inj HU.out q j (by omega) hlt e) (by omega))
              obtain ⟨p, hp⟩ : ∃ p, p = Tu.piN k j := ⟨_, rfl⟩
              rw [← hp] at hpl hco HINJ
              have HP := Lib.hid hp
              have HP8 : gi (Tu.ordL k) j = ((p : Nat) : Int) := by rw [hp]; exact hgo
              clear hp hgo
              have hrb := Rdv.below HD5.out hB7
              have hre := Rdv.below HE5.out hB7
              have hcb2 := Rd.cell hrb hlt
              have hib2 := fun W => Rdv.ix hrb el26 hlt .i64 W
              have hce := Rd.cell hre hpl
              have hie := fun W => Rdv.ix hre el22 hpl .i64 W
              obtain ⟨u, hu⟩ : ∃ u, u = gi o.dB j := ⟨_, rfl⟩
              obtain ⟨v, hv⟩ : ∃ v, v = gi o.dE p := ⟨_, rfl⟩
              rw [← hu] at hcb2
              rw [← hv] at hce
              have hfb := Ownv.frozen hcb (by omega) j
              have hib := fun W => Rdv.ix (Own.rd hcb) el26 (j := j) hlt .i64 W
              have hcbc := Rd.cell (Own.rd hcb) (j := j) hlt
              have hcl := Rd.len (Own.rd hcb)
              have hal := Rd.len (Own.rd hca)
              have hBn : B ≠ none := own_some hcb hk0
              have hS1 := Own.set_ hcb (j := j) hlt u
              have hAn : A9 ≠ none := own_some3 hca hk0
              have hB8 : Below w5.heap.size w5 (wr.setCell (adr B j) (.int .u8 u)) := (hB7.grown hS1.2 hB7.size (fun k9 e => by cases e; exact (Ownv.blk_ge hcb (by omega)).1))
              have hA8 : Own .i64 3 (wr.setCell (adr B j) (.int .u8 u)) w5.heap.size A9 k k ca := Ownv.grown hca hS1.2 (rows_ne2 hca hcb (by decide) hBn)
              have hC8 : Own .u8 5 (wr.setCell (adr B j) (.int .u8 u)) w5.heap.size B k k (cb.set j u) := hS1.1
              have hS2 := Own.set_ hA8 (j := j) hlt v
              have hre8 := Rdv.below HE5.out hB8
              have hro8 := Own.rd (Ownv.below (Ownv.below HOR.out HBw5.out) hB8)
              have kx18 := (HX5.out.below hB8).cell (j := 1) (v := .slice A2 k d2) rfl
              have hco8 := Rd.cell hro8 hlt
              rw [HP8] at hco8
              have hce8 := Rd.cell hre8 hpl
              rw [← hv] at hce8
              have hfa8 := Ownv.frozen hA8 (by omega) j
              have hia := fun W => Rdv.ix (Own.rd hA8) el22 (j := j) hlt .i64 W
              have hcac := Rd.cell (Own.rd hA8) (j := j) hlt
              have HC9 := Lib.hid (Ownv.drew (Ownv.grown hC8 hS2.2 (rows_ne2 hC8 hA8 (by decide) hAn)))
              have HA9 := Lib.hid (Ownv.drew hS2.1)
              have HB9 := Lib.hid (hB8.grown hS2.2 hB8.size (fun k9 e => by cases e; exact (Ownv.blk_ge hA8 (by omega)).1)).drew
              have HU9 := Lib.hid hu
              have HV9 := Lib.hid hv
              have HCL := Lib.hid hcl
              have HAL := Lib.hid hal
              clear hS1 hS2 hB8 hA8 hC8 hre8 hro8 hre hro hrb hX hcb hca hq hB7 hu hv hcl hal HP8
              go_wp2_with fail
              generalize wr.setCell (adr B j) (Value.int .u8 u) = W1 at *
              go_still_tail 11, (by kernel_rfl)
              simp only [World.drew_eq]
              go_wp2
              go_roundw
              case rel => exact ⟨j + 1, cb.set j u, ca.set j v, by omega, by go_num, HC9.out, HA9.out, lt_succ_cases (fun q hq => by
                  have h7 := HQ.out q hq
                  rw [gi_set' _ _ _ _ (by rw [HCL.out]; omega), if_neg (by omega), gi_set' _ _ _ _ (by rw [HAL.out]; omega), if_neg (by omega)]; exact h7) (by
                  rw [gi_set' _ _ _ _ (by rw [HCL.out]; omega), if_pos rfl, gi_set' _ _ _ _ (by rw [HAL.out]; omega), if_pos rfl, ← HP.out]; exact ⟨HU9.out, HV9.out⟩), HB9.out⟩
              case measure => simp [intOf]; omega
            · obtain rfl : j = k := by omega
              have hBn : B ≠ none := own_some hcb hk0
              have hAn : A9 ≠ none := own_some3 hca hk0
              have hcl := Rd.len (Own.rd hcb)
              have hal := Rd.len (Own.rd hca)
              have hdl := Rd.len HD5.out
              have hel := Rd.len HE5.out
              have hEB : cb = decN vs j L.length := by
                rw [EDN.out]
                exact ext_gi (by rw [hcl, hdl]) fun q hq9 => (hq q (by omega)).1
              have hEA : ca = apN vs j (L.length + 1) := by
                rw [EAN.out]
                exact ext_gi (by rw [hal, pk_len, Tu.ordL_len]) fun q hq9 => by
                  have hq8 : q < j := by omega
                  rw [(hq q hq8).2, gi_pk (by rw [Tu.ordL_len]; exact hq8), gi_eq (Tu.ordL j) q (by rw [Tu.ordL_len]; exact hq8)]
                  simp [Tu.ordL]
              rw [hEB] at hcb
              rw [hEA] at hca
              have HCB := Lib.hid hcb
              have HCA := Lib.hid hca
              have hBW : Below wr0.heap.size wr0 wr := HBw5.out.trans (hB7.mono HBw5.out.size)
              have HBL7 := Lib.hid (BL.below HBL.out hBW)
              have HOR7 := Lib.hid (Ownv.below HOR.out hBW)
              have HB7 := Lib.hid (HB.out.trans (hBW.mono HB.out.size))
              have HSZ := Lib.hid (Nat.le_trans HB.out.size HBw5.out.size)
              have HBGE := Lib.hid (Nat.le_trans HBw5.out.size (Ownv.blk_of hcb hBn).1)
              have HBN := Lib.hid hBn
              have HAN := Lib.hid hAn
              clear hcb hca hq HQ hB7 hBW hcl hal hdl hel hEB hEA hBn hAn HD5 HE5 HX5 HBO HAO HB6 HOR HBw5 EDN EAN
              obtain ⟨p, hp⟩ : ∃ p, p = okN kind vs j L.length := ⟨_, rfl⟩
              have HP := Lib.hid hp
              have hps : psN kind (decN vs j L.length) (befN vs j L.length) (L.length + 1) = p := by rw [hp]; rfl
              clear hp
              have HDU := Lib.hid (decN_u8 vs j L.length)
              have HBU := Lib.hid (befN_u8 vs j L.length)
              have HAPP := Lib.hid (fun W (hW : Ownv 22 W w.heap.size O L.length oc (L.map Sv.v)) => hW)
              have hob : ∀ q, (Value.slice O L.length oc).ownBlock = some q → w.heap.size ≤ q := fun q hq => Ownv.ob' HBL7.out.o hq
              have HOB := Lib.hid hob
              have hlw : w.heap.size ≤ wr.heap.size := HB7.out.size
              have HPUSH : Hid (∀ (O2 : Option Addr) (c2 : Nat) (W2 : World), Ownv 22 W2 w.heap.size O2 (L.length + 1) c2 (L.map Sv.v ++ [.slice B j j]) → wr.grownBy W2 ((Value.slice O L.length oc).ownBlock) → BL W2 w.heap.size O2 c2 (L ++ [⟨B, j, j, decN vs j L.length⟩]) ∧ Own .i64 3 W2 w.heap.size A9 j j (apN vs j (L.length + 1)) ∧ Own .i64 3 W2 w.heap.size OR j oo (Tu.ordL j) ∧ Below w.heap.size w W2) := Lib.hid (fun O2 c2 W2 hO2 hg2 => ⟨BL.push HBL7.out (s := ⟨B, j, j, decN vs j L.length⟩) (Ownv.mono HCB.out HSZ.out) HBN.out (fun t ht => by
                  have h8 := (Ownv.blk_of (HBL.out.r t ht).1 (HBL.out.r t ht).2).2
                  have h9 := HBGE.out
                  show blk t.A ≠ blk B
                  omega) hO2 hg2, Ownv.mono (Ownv.grown HCA.out hg2 (rows_ne HCA.out HBL7.out.o (by decide))) HSZ.out, Ownv.grown HOR7.out hg2 (rows_ne HOR7.out HBL7.out.o (by decide)), HB7.out.grown hg2 hlw hob⟩)
              clear hob hlw HAPP
              by_cases h0 : L.length = 0
              · have q4 : decide (((L.length : Int) + 1) > 1) = false := by simp; omega
                have HBF : Hid (befN vs j L.length = []) := Lib.hid (by rw [h0]; rfl)
                have H0 := Lib.hid h0
                clear h0
                go_wp2_with (at_builtin; refine list_of rfl fun K hK => wp_app1 (w := wr) (base := w.heap.size) _ _ 49 rfl el100 rfl (.slice B j j) rfl rfl HBL7.out.o (by omega) (by omega) HB7.out.size ?_; intro O2 c2 w2 hO2 hg2; have HQ2 := Lib.hid (HPUSH.out O2 c2 w2 hO2 hg2); clear hO2 hg2; refine hK _ _ ?_; clear hK K)
                have HPS := Lib.hid (rpasses_any B j j (decN vs j L.length) none 0 0 (befN vs j L.length) kind (L.length + 1) w2 (Own.rd (HQ2.out.1.r ⟨B, j, j, decN vs j L.length⟩ (by simp)).1) (by rw [HBF.out]; exact Rd.nilv .u8 _) HDU.out HBU.out (by omega))
                rw [hps] at HPS
                have HRW2 : Hid (∀ q t, (L ++ [(⟨B, j, j, decN vs j L.length⟩ : Sv)])[q]? = some t → t.n = j ∧ t.xs = decN vs j q) := Lib.hid (fun q t ht => by
                  rcases Nat.lt_or_ge q L.length with h8 | h8
                  · rw [List.getElem?_append_left h8] at ht
                    exact HRW.out q t ht
                  · rw [List.getElem?_append_right h8] at ht
                    have h7 : q - L.length = 0 := by
                      rcases Nat.eq_zero_or_pos (q - L.length) with h | h
                      · exact h
                      · rw [List.getElem?_eq_none (by simp; omega)] at ht; cases ht
                    have h6 : q = L.length := by omega
                    rw [h7] at ht
                    simp at ht
                    rw [← ht, h6]
                    exact ⟨rfl, rfl⟩)
                go_wp2_with fail
                refine HPS.out.mono ?_
                rintro e w9 ⟨rfl, hB9⟩
                have HQ9 := Lib.hid (And.intro (BL.below HQ2.out.1 hB9) (And.intro (Ownv.below HQ2.out.2.1 hB9) (And.intro (Ownv.below HQ2.out.2.2.1 hB9) (HQ2.out.2.2.2.trans (hB9.mono HQ2.out.2.2.2.size)))))
                clear hB9
                have hLE : (L ++ [(⟨B, j, j, decN vs j L.length⟩ : Sv)]).length = L.length + 1 := by simp
                cases p with
                | true =>
                  go_wp2
                  go_ret2
                  exact ⟨O2, c2, L ++ [⟨B, j, j, decN vs j L.length⟩], true, by rw [hLE]; rfl, HQ9.out.1, HRW2.out, HQ9.out.2.2.2, .inl ⟨rfl, L.length, hLE, hLm, HP.out.symm, HNO.out⟩⟩
                | false =>
                  go_wp2
                  go_roundw
                  case rel => exact ⟨L.length + 1, A9, j, O2, c2, L ++ [⟨B, j, j, decN vs j L.length⟩], by omega, by go_num, rfl, HQ9.out.2.1, by rw [hLE], HQ9.out.1, hLE, HRW2.out, lt_succ_cases HNO.out HP.out.symm, HQ9.out.2.2.2, HQ9.out.2.2.1⟩
                  case measure => simp [intOf]; omega
              · have q4 : decide (((L.length : Int) + 1) > 1) = true := by simp; omega
                obtain ⟨I, hI⟩ : ∃ I, L.length = I + 1 := ⟨L.length - 1, by omega⟩
                obtain ⟨s, hs⟩ : ∃ s, L[I]? = some s := ⟨_, List.getElem?_eq_getElem (by omega)⟩
                have hsr := HRW.out I s hs
                have hc22 : wr.cell? (adr O I) = some (.slice s.A s.n s.c) := HBL7.out.o.rd.at_ I s.v (by rw [List.getElem?_map, hs]; rfl)
                have e22 : IntKind.i64.wrap ((L.length : Int) + 1 - 2) = (I : Int) := by rw [IntWalk.i64_in _ (by omega)]; omega
                have hi22 := fun W => Rdv.ix HBL7.out.o.rd el100 (j := I) (by omega) .i64 W
                have HBF : Hid (befN vs j L.length = s.xs) := Lib.hid (by rw [hI, hsr.2]; rfl)
                have HSM := Lib.hid (List.mem_of_getElem? hs)
                have H0 := Lib.hid hI
                clear h0 hI hs hsr
                go_wp2_with (at_builtin; refine list_of rfl fun K hK => wp_app1 (w := wr) (base := w.heap.size) _ _ 49 rfl el100 rfl (.slice B j j) rfl rfl HBL7.out.o (by omega) (by omega) HB7.out.size ?_; intro O2 c2 w2 hO2 hg2; have HQ2 := Lib.hid (HPUSH.out O2 c2 w2 hO2 hg2); clear hO2 hg2; refine hK _ _ ?_; clear hK K)
                have HPS := Lib.hid (rpasses_any B j j (decN vs j L.length) s.A s.n s.c (befN vs j L.length) kind (L.length + 1) w2 (Own.rd (HQ2.out.1.r ⟨B, j, j, decN vs j L.length⟩ (by simp)).1) (by rw [HBF.out]; exact Own.rd (HQ2.out.1.r s (by simp [HSM.out])).1) HDU.out HBU.out (by omega))
                rw [hps] at HPS
                have HRW2 : Hid (∀ q t, (L ++ [(⟨B, j, j, decN vs j L.length⟩ : Sv)])[q]? = some t → t.n = j ∧ t.xs = decN vs j q) := Lib.hid (fun q t ht => by
                  rcases Nat.lt_or_ge q L.length with h8 | h8
                  · rw [List.getElem?_append_left h8] at ht
                    exact HRW.out q t ht
                  · rw [List.getElem?_append_right h8] at ht
                    have h7 : q - L.length = 0 := by
                      rcases Nat.eq_zero_or_pos (q - L.length) with h | h
                      · exact h
                      · rw [List.getElem?_eq_none (by simp; omega)] at ht; cases ht
                    have h6 : q = L.length := by omega
                    rw [h7] at ht
                    simp at ht
                    rw [← ht, h6]
                    exact ⟨rfl, rfl⟩)
                go_wp2_with fail
                refine HPS.out.mono ?_
                rintro e w9 ⟨rfl, hB9⟩
                have HQ9 := Lib.hid (And.intro (BL.below HQ2.out.1 hB9) (And.intro (Ownv.below HQ2.out.2.1 hB9) (And.intro (Ownv.below HQ2.out.2.2.1 hB9) (HQ2.out.2.2.2.trans (hB9.mono HQ2.out.2.2.2.size)))))
                clear hB9
                have hLE : (L ++ [(⟨B, j, j, decN vs j L.length⟩ : Sv)]).length = L.length + 1 := by simp
                cases p with
                | true =>
                  go_wp2
                  go_ret2
                  exact ⟨O2, c2, L ++ [⟨B, j, j, decN vs j L.length⟩], true, by rw [hLE]; rfl, HQ9.out.1, HRW2.out, HQ9.out.2.2.2, .inl ⟨rfl, L.length, hLE, hLm, HP.out.symm, HNO.out⟩⟩
                | false =>
                  go_wp2
                  go_roundw
                  case rel => exact ⟨L.length + 1, A9, j, O2, c2, L ++ [⟨B, j, j, decN vs j L.length⟩], by omega, by go_num, rfl, HQ9.out.2.1, by rw [hLE], HQ9.out.1, hLE, HRW2.out, lt_succ_cases HNO.out HP.out.symm, HQ9.out.2.2.2, HQ9.out.2.2.1⟩
                  case measure => simp [intOf]; omega
    · obtain hEq : L.length = most := by omega
      go_wp2
      go_ret2
      exact ⟨O, oc, L, false, rfl, HBL.out, HRW.out, HB.out, .inr ⟨rfl, hEq, fun q hq => HNO.out q (by omega)⟩⟩
end Go.Proofs.YtpdalbckmfadbaaGreat

