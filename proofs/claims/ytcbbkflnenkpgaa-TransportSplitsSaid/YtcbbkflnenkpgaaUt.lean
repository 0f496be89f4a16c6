/-
  Contract of the reference's Shares. Condition: none.
-/
import Derived.Test.YtcbbkflnenkpgaaUr
namespace Go.Proofs.Ytcbbkflnenkpgaa
open Go.RowKit Go.Shelf
set_option linter.unusedVariables false
theorem rshares_bad (sz bt md lm rv : Int) (w : World) (hV : VC sz bt md lm rv = false) : Calls Try.prog 18 #[.agg #[.int .i64 sz, .int .i64 bt, .int .i64 md, .int .i64 lm, .int .i64 rv]] w fun e w' => e = .returned (.tuple #[.slice none 0 0, .int .i64 2]) ∧ Below w.heap.size w w' := by
  have HV := Lib.hid (fun W => rvalc_any sz bt md lm rv W)
  rw [hV] at HV
  clear hV
  have hc0 := Blk.new w [.int .i64 sz, .int .i64 bt, .int .i64 md, .int .i64 lm, .int .i64 rv] 33 rfl
  have HB0 := Lib.hid (bal (Below.refl _ w) (.cells [Value.int .i64 sz, .int .i64 bt, .int .i64 md, .int .i64 lm, .int .i64 rv].toArray 33))
  go_enter Try.func18, Try.ntmps18
  go_wp2_with (first
    | (refine ldrow (cs := [.int .i64 sz, .int .i64 bt, .int .i64 md, .int .i64 lm, .int .i64 rv]) rfl 33 (.tmp 1) rfl rfl hc0 _ Try.underlying33 rfl (by kernel_rfl) ?_)
    | (go_at_call 48; refine (HV.out _).mono ?_; rintro e w3 ⟨rfl, hB3⟩; have HB3 := Lib.hid (HB0.out.trans (hB3.mono HB0.out.size)); clear hB3))
  go_ret2
  exact ⟨rfl, HB3.out⟩
def RsI (w : World) (C g m CB LB : Nat) (cs ls : List Value) (o i : Value) (wr : World) : Prop := ∃ (j : Nat) (A : Option Addr) (c : Nat), j ≤ C ∧ i = .int .i64 j ∧ o = .slice A j c ∧ Own .i64 3 wr w.heap.size A j c (shT C g m j) ∧ Blk wr CB 33 cs ∧ Blk wr LB 23 ls ∧ Below w.heap.size w wr
set_option maxRecDepth 100000 in
set_option maxHeartbeats 2000000 in
theorem rshares_ok (s C g m : Nat) (lm rv : Int) (w : World) (hs1 : 1 ≤ s) (hs2 : s ≤ 79536) (hCe : C = bC (s + 24)) (hmm : m = 2 ∨ m = 4 ∨ m = 6) (hgm : m * g ≤ 131072) (hlm : 1 ≤ lm) (hrv : 0 ≤ rv ∧ rv ≤ 3) :
    Calls Try.prog 18 #[.agg #[.int .i64 s, .int .i64 ((m * g : Nat) : Int), .int .i64 m, .int .i64 lm, .int .i64 rv]] w fun e w' => ∃ A c, e = .returned (.tuple #[.slice A C c, .int .i64 0]) ∧ Own .i64 3 w' w.heap.size A C c (shT C g m C) ∧ Below w.heap.size w w' := by
  have hg : g ≤ 65536 := by rcases hmm with rfl | rfl | rfl <;> omega
  have hC1 : 1 ≤ C := by rw [hCe]; exact bC_pos
  have hC2 : C ≤ 13 := by rw [hCe]; exact bC_le (by omega)
  have hV : VC s ((m * g : Nat) : Int) m lm rv = true := by
    unfold VC
    rw [decide_eq_true_iff]
    refine ⟨by omega, by omega, by omega, by omega, by omega, ?_, hlm, hrv.1, hrv.2⟩
    rw [Int.natCast_mul]; exact Int.mul_emod_right _ _
  have HV := Lib.hid (fun W => rvalc_any s ((m * g : Nat) : Int) m lm rv W)
  rw [hV] at HV
  have HLY := Lib.hid (fun W => rlay_any s W)
  have hly : ly15 s = (LY (s + 24), 0) := by unfold ly15; rw [if_neg (by omega)]; rfl
  rw [hly] at HLY
  obtain ⟨ly, hly⟩ : ∃ ly, ly = LY (s + 24) := ⟨_, rfl⟩
  have hl7 : ly.length = 7 := by rw [hly]; rfl
  have hl1 : (ints8 ly)[1]? = some (.int .i64 C) := by rw [hly, hCe]; rfl
  rw [← hly] at HLY
  obtain ⟨bt, hbt⟩ : ∃ bt, bt = ((m * g : Nat) : Int) := ⟨_, rfl⟩
  have hm0 : 2 ≤ m ∧ m ≤ 6 := by omega
  have hgt : IntKind.i64.wrap (bt.tdiv (m : Int)) = (g : Int) := by
    rw [Int.tdiv_eq_ediv_of_nonneg (by rw [hbt]; omega), hbt, Int.natCast_mul, Int.mul_ediv_cancel_left _ (by omega), IntKind.wrap_i64]; omega
  rw [← hbt] at HV ⊢
  have HMM := Lib.hid hmm
  clear hly hbt hV hCe hmm hlm hrv hs1 hs2
  obtain ⟨a, ha⟩ : ∃ a, a = g / C := ⟨_, rfl⟩
  obtain ⟨r, hr⟩ : ∃ r, r = g % C := ⟨_, rfl⟩
  have hrC : r < C := by rw [hr]; exact Nat.mod_lt _ (by omega)
  have hdm : C * a + r = g := by rw [ha, hr]; exact Nat.div_add_mod g C
  have hag : a ≤ g := by rw [ha]; exact Nat.div_le_self _ _
  have hrt : IntKind.i64.wrap ((C : Int) - (g : Int).tmod (C : Int)) = (C : Int) - r := by
    rw [Int.tmod_eq_emod_of_nonneg (by omega), show (g : Int) % (C : Int) = (r : Int) by rw [hr]; rfl, IntKind.wrap_i64]; omega
  have hrt0 : (g : Int).tmod (C : Int) = (r : Int) := by rw [Int.tmod_eq_emod_of_nonneg (by omega), hr]; rfl
  have hq : IntKind.i64.wrap ((g : Int).tdiv (C : Int)) = (a : Int) := by
    rw [Int.tdiv_eq_ediv_of_nonneg (by omega), ← Int.natCast_ediv, ← ha, IntKind.wrap_i64]; omega
  have hcr : IntKind.i64.wrap ((C : Int) - (r : Int)) = (C : Int) - r := by rw [IntKind.wrap_i64]; omega
  have hmne : ¬ m = 0 := by omega
  have hCne : ¬ C = 0 := by omega
  have HC0 := Lib.hid (Blk.new w [.int .i64 s, .int .i64 bt, .int .i64 m, .int .i64 lm, .int .i64 rv] 33 rfl)
  have HB0 := Lib.hid (bal (Below.refl _ w) (.cells [Value.int .i64 s, .int .i64 bt, .int .i64 m, .int .i64 lm, .int .i64 rv].toArray 33))
  have hc0 := HC0.out
  have hcl0 := HC0.out.lt
  go_enter Try.func18, Try.ntmps18
  go_wp2_with (first
    | (refine ldrow (cs := [.int .i64 s, .int .i64 bt, .int .i64 m, .int .i64 lm, .int .i64 rv]) rfl 33 (.tmp 1) rfl rfl hc0 _ Try.underlying33 rfl (by kernel_rfl) ?_)
    | (go_at_call 48; refine (HV.out _).mono ?_; rintro e w1 ⟨rfl, hB1⟩; have HC1 := Lib.hid (HC0.out.below hB1); have HB1 := Lib.hid (HB0.out.trans (hB1.mono HB0.out.size)); have k0 := HC1.out.cell (j := 0) (v := .int .i64 s) rfl; clear hB1 hc0 HC0 HB0)
    | (go_at_call 15; refine (HLY.out _).mono ?_; rintro e w2 ⟨rfl, hB2⟩; have hL0 : Blk (w2.alloc (.cells (ints8 zero7).toArray 23)) w2.heap.size 23 (ints8 zero7) := Blk.new w2 _ 23 rfl; have HC2 := Lib.hid ((HC1.out.below hB2).alloc (.cells #[.int .i64 0, .int .i64 0, .int .i64 0, .int .i64 0, .int .i64 0, .int .i64 0, .int .i64 0] 23)); have HB2 := Lib.hid (bal (HB1.out.trans (hB2.mono HB1.out.size)) (.cells #[.int .i64 0, .int .i64 0, .int .i64 0, .int .i64 0, .int .i64 0, .int .i64 0, .int .i64 0] 23)); have HLC := Lib.hid (Nat.lt_of_lt_of_le HC1.out.lt hB2.size); have HWL := Lib.hid (Nat.le_trans HB1.out.size hB2.size); clear hB2 k0; simp only [ints8, zero7, List.map_cons, List.map_nil] at hL0)
    | (refine strow (cs := ints8 ly) rfl 23 (.tmp 4) (.tmp 17) rfl rfl rfl hL0 (by simp [ints8, hl7]) (by rw [info23]; simp [ints8, hl7]) (ints8_one _) ?_
       intro W3 g1 g2
       have HC3 := Lib.hid (HC2.out.grown g2 (fun e => by have h7 := HLC.out; have h8 := Option.some.inj e; omega))
       have HB3 := Lib.hid (HB2.out.grown g2 HB2.out.size (fun k hk => by cases hk; exact HWL.out))
       have HL3 := Lib.hid g1
       have k1 := HC3.out.cell (j := 1) (v := .int .i64 bt) rfl
       have k2 := HC3.out.cell (j := 2) (v := .int .i64 m) rfl
       have k3 := g1.cell (j := 1) hl1
       clear g1 g2 hL0)
    | go_quiet (fail))
  have hgm : (g : Int) % (C : Int) = (r : Int) := by rw [hr]; rfl
  simp only [hgm]
  have HC4 : Hid (Blk (W3.drewN nq) w.heap.size 33 [.int .i64 s, .int .i64 bt, .int .i64 m, .int .i64 lm, .int .i64 rv]) := Lib.hid (HC3.out.drewN nq)
  have HL4 : Hid (Blk (W3.drewN nq) w2.heap.size 23 (ints8 ly)) := Lib.hid (HL3.out.drewN nq)
  have HB4 : Hid (Below w.heap.size w (W3.drewN nq)) := Lib.hid (HB3.out.trans (Qt.below ⟨nq, rfl⟩ _))
  have haw0 : IntKind.i64.wrap (a : Int) = (a : Int) := by rw [IntKind.wrap_i64]; omega
  have hgq : (g : Int) / (C : Int) = (a : Int) := by rw [ha]; rfl
  have HA := Lib.hid ha
  have HR := Lib.hid hr
  clear ha hr hq
  clear k1 k2 k3 hrt hrt0 hgt HC3 HL3 HB3 HC2 HB2 HC1 HB1 HWL HLY HV HMM
  obtain ⟨LB, hLB⟩ : ∃ LB, LB = w2.heap.size := ⟨_, rfl⟩
  obtain ⟨CB, hCB⟩ : ∃ CB, CB = w.heap.size := ⟨_, rfl⟩
  rw [← hLB] at HL4 ⊢
  have HC5 : Hid (Blk (W3.drewN nq) CB 33 [.int .i64 s, .int .i64 bt, .int .i64 m, .int .i64 lm, .int .i64 rv]) := Lib.hid (by rw [hCB]; exact HC4.out)
  rw [← hCB]
  clear HC4 hCB hLB HLC
  generalize W3.drewN nq = W4 at *
  go_loopw [8, 9] (fun o i wr => RsI w C g m CB LB [.int .i64 s, .int .i64 bt, .int .i64 m, .int .i64 lm, .int .i64 rv] (ints8 ly) o i wr) (fun _ i _ => C - (intOf i).toNat)
  case atStart => exact ⟨0, none, 0, by omega, rfl, rfl, Own.nilv _ _ _ _, HC5.out, HL4.out, HB4.out⟩
  case round =>
    obtain ⟨j, A, c, hj, rfl, rfl, hO, hcb, hlb, hB⟩ := hrel
    have HO := Lib.hid hO
    have HCB := Lib.hid hcb
    have HLB := Lib.hid hlb
    have HB := Lib.hid hB
    have k2 := hcb.cell (j := 2) (v := .int .i64 m) rfl
    have k3 := hlb.cell (j := 1) hl1
    have HS : Hid (wr.drew.cell? ⟨CB, 2, none⟩ = some (.int .i64 m) ∧ wr.drew.cell? ⟨LB, 1, none⟩ = some (.int .i64 C)) := Lib.hid ⟨k2, k3⟩
    clear hO hcb hlb hB
    by_cases hlt : j < C
    · by_cases hlo : j + r < C
      · obtain ⟨u, hu⟩ : ∃ u : Nat, u = shN C g m j := ⟨_, rfl⟩
        have hue : u = m * a := by rw [hu, shN, if_pos (by rw [← HR.out]; omega), ← HA.out, Nat.mul_comm]
        have hub : u ≤ 131072 + 6 := by rw [hue]; have h7 : m * a ≤ m * g := Nat.mul_le_mul_left m hag; omega
        have hmw : IntKind.i64.wrap ((m : Int) * (a : Int)) = (u : Int) := by
          have e9 : (m : Int) * (a : Int) = ((u : Nat) : Int) := by rw [hue]; push_cast; rfl
          rw [e9, IntKind.wrap_i64]; omega
        have hlw : decide ((j : Int) < (C : Int) - r) = true := by simp; omega
        have HUE := Lib.hid (show shr C g m j = (u : Int) by rw [shr_cast, hu])
        clear hu hue hj
        go_wp2_with fail
        refine wp_nopanic ?_
        refine P_start (fun W => W.cell? ⟨CB, 2, none⟩ = some (.int .i64 m) ∧ W.cell? ⟨LB, 1, none⟩ = some (.int .i64 C)) 8 11 #[false, false, false, false, false, false, false, false, false, false, false] (by kernel_rfl) (by kernel_rfl) (by kernel_rfl) ?_
        refine P_takeW 0 40 (.slice A j c) #[true, false, false, false, false, false, false, false, false, false, false] rfl rfl (by kernel_rfl) (by kernel_rfl) (by kernel_rfl) (by kernel_rfl) (by decide) (fun _ _ _ h => h) (Or.inl ⟨by rfl, fun W hS => by go_simp⟩) HS.out ?_
        simp only [List.setIfInBounds_toArray, List.set_cons_zero, List.set_cons_succ]
        refine P_takeW 1 41 (.pointer (some ⟨CB, 2, none⟩)) #[true, true, false, false, false, false, false, false, false, false, false] rfl rfl (by kernel_rfl) (by kernel_rfl) (by kernel_rfl) (by kernel_rfl) (by decide) (fun _ _ _ h => h) (Or.inl ⟨by rfl, fun W hS => by go_simp⟩) HS.out ?_
        simp only [List.setIfInBounds_toArray, List.set_cons_zero, List.set_cons_succ]
        refine P_takeT 2 42 (.int .i64 (m : Int)) #[true, true, true, false, false, false, false, false, false, false, false] [7] rfl rfl (by kernel_rfl) (by kernel_rfl) (by kernel_rfl) (by kernel_rfl) (by kernel_rfl) (by kernel_rfl) (by kernel_rfl) (by decide) (fun _ _ _ h => h) (Or.inl ⟨by rfl, fun W hS => by obtain ⟨hS1, hS2⟩ := hS; go_simp⟩) HS.out ?_
        simp only [List.setIfInBounds_toArray, List.set_cons_zero, List.set_cons_succ]
        refine P_takeW 3 43 (.int .i64 (g : Int)) #[true, true, true, true, false, false, false, false, false, false, false] rfl rfl (by kernel_rfl) (by kernel_rfl) (by kernel_rfl) (by kernel_rfl) (by decide) (fun _ _ _ h => h) (Or.inl ⟨by rfl, fun W hS => by go_simp⟩) HS.out ?_
        simp only [List.setIfInBounds_toArray, List.set_cons_zero, List.set_cons_succ]
        refine P_takeW 4 44 (.pointer (some ⟨LB, 1, none⟩)) #[true, true, true, true, true, false, false, false, false, false, false] rfl rfl (by kernel_rfl) (by kernel_rfl) (by kernel_rfl) (by kernel_rfl) (by decide) (fun _ _ _ h => h) (Or.inl ⟨by rfl, fun W hS => by go_simp⟩) HS.out ?_
        simp only [List.setIfInBounds_toArray, List.set_cons_zero, List.set_cons_succ]
        refine P_takeT 5 45 (.int .i64 (C : Int)) #[true, true, true, true, true, true, false, false, false, false, false] [7, 6] rfl rfl (by kernel_rfl) (by kernel_rfl) (by kernel_rfl) (by kernel_rfl) (by kernel_rfl) (by kernel_rfl) (by kernel_rfl) (by decide) (fun _ _ _ h => h) (Or.inl ⟨by rfl, fun W hS => by obtain ⟨hS1, hS2⟩ := hS; go_simp⟩) HS.out ?_
        simp only [List.setIfInBounds_toArray, List.set_cons_zero, List.set_cons_succ]
        refine P_takeW 6 46 (.int .i64 (a : Int)) #[true, true, true, true, true, true, true, false, false, false, false] rfl rfl (by kernel_rfl) (by kernel_rfl) (by kernel_rfl) (by kernel_rfl) (by decide) (fun _ _ _ h => h) (Or.inl ⟨by rfl, fun W hS => by go_simp; try simp only [hgq, haw0]⟩) HS.out ?_
        simp only [List.setIfInBounds_toArray, List.set_cons_zero, List.set_cons_succ]
        refine P_takeW 7 47 (.int .i64 (u : Int)) #[true, true, true, true, true, true, true, true, false, false, false] rfl rfl (by kernel_rfl) (by kernel_rfl) (by kernel_rfl) (by kernel_rfl) (by decide) (fun _ _ _ h => h) (Or.inl ⟨by rfl, fun W hS => by go_simp; try exact hmw⟩) HS.out ?_
        simp only [List.setIfInBounds_toArray, List.set_cons_zero, List.set_cons_succ]
        refine P_one 8 #[true, true, true, true, true, true, true, true, true, false, false] rfl (by kernel_rfl) (by kernel_rfl) rfl (by kernel_rfl) (fun K hK => ?_)
        go_simp
        refine hK _ _ ?_
        clear hK K
        refine P_one 9 #[true, true, true, true, true, true, true, true, true, true, false] rfl (by kernel_rfl) (by kernel_rfl) rfl (by kernel_rfl) (fun K hK => ?_)
        refine wp_app1d (w := wr) (base := w.heap.size) _ _ 34 rfl el34 rfl (.int .i64 (u : Int)) rfl rfl HO.out (by omega) (by omega) HB.out.size ?_
        intro A2 c2 w2 hO2 hg2
        have HO2 := Lib.hid hO2
        have HG2 := Lib.hid hg2
        clear hO2 hg2
        refine hK _ _ ?_
        clear hK K
        refine P_one 10 #[true, true, true, true, true, true, true, true, true, true, true] rfl (by kernel_rfl) (by kernel_rfl) rfl (by kernel_rfl) (fun K hK => ?_)
        go_simp
        refine hK _ _ ?_
        clear hK K
        refine P_done (by kernel_rfl) ?_ _
        refine noPanic_normal ?_
        have hcb2 : Blk w2 CB 33 [.int .i64 s, .int .i64 bt, .int .i64 m, .int .i64 lm, .int .i64 rv] := HCB.out.grown HG2.out (blk_ne_row HCB.out HO.out (by decide))
        have hlb2 : Blk w2 LB 23 (ints8 ly) := HLB.out.grown HG2.out (blk_ne_row HLB.out HO.out (by decide))
        have hb2 : Below w.heap.size w w2 := HB.out.grown HG2.out HB.out.size (fun k hk => Ownv.ob' HO.out hk)
        have hO9 : Own .i64 3 w2 w.heap.size A2 (j + 1) c2 (shT C g m (j + 1)) := by rw [shT_succ, HUE.out]; have := HO2.out; unfold Own; simpa using this
        go_wp2
        go_roundw
        case rel => exact ⟨j + 1, A2, c2, by omega, by go_num, rfl, hO9, hcb2, hlb2, hb2⟩
        case measure => simp [intOf]; omega
      · obtain ⟨u, hu⟩ : ∃ u : Nat, u = shN C g m j := ⟨_, rfl⟩
        have hue : u = m * (a + 1) := by rw [hu, shN, if_neg (by rw [← HR.out]; omega), ← HA.out, Nat.mul_comm]
        have hub : u ≤ 131072 + 6 := by rw [hue]; have h7 : m * a ≤ m * g := Nat.mul_le_mul_left m hag; rw [Nat.mul_add, Nat.mul_one]; omega
        have hmw : IntKind.i64.wrap ((m : Int) * ((a : Int) + 1)) = (u : Int) := by
          have e9 : (m : Int) * ((a : Int) + 1) = ((u : Nat) : Int) := by rw [hue]; push_cast; rfl
          rw [e9, IntKind.wrap_i64]; omega
        have hr0 : 0 < r := by omega
        have haw : IntKind.i64.wrap (((g : Int) + C - 1).tdiv C) = (a : Int) + 1 := by
          have e8 : (g : Int) + C - 1 = ((g + C - 1 : Nat) : Int) := by omega
          have e9 : (g + C - 1) / C = a + 1 := by
            have e10 : g + C - 1 = (r - 1) + C * (a + 1) := by rw [Nat.mul_add, Nat.mul_one]; omega
            rw [e10, Nat.add_mul_div_left _ _ (by omega), Nat.div_eq_of_lt (by omega), Nat.zero_add]
          rw [e8, Int.tdiv_eq_ediv_of_nonneg (by omega), ← Int.natCast_ediv, e9, IntKind.wrap_i64]; omega
        have hgc : IntKind.i64.wrap ((g : Int) + C) = (g : Int) + C := by rw [IntKind.wrap_i64]; omega
        have hgc1 : IntKind.i64.wrap ((g : Int) + C - 1) = (g : Int) + C - 1 := by rw [IntKind.wrap_i64]; omega
        have hlw : decide ((j : Int) < (C : Int) - r) = false := by simp; omega
        have HUE := Lib.hid (show shr C g m j = (u : Int) by rw [shr_cast, hu])
        clear hu hue hj
        go_wp2_with fail
        refine wp_nopanic ?_
        refine P_start (fun W => W.cell? ⟨CB, 2, none⟩ = some (.int .i64 m) ∧ W.cell? ⟨LB, 1, none⟩ = some (.int .i64 C)) 12 15 #[false, false, false, false, false, false, false, false, false, false, false, false, false, false, false] (by kernel_rfl) (by kernel_rfl) (by kernel_rfl) ?_
        refine P_takeW 0 50 (.slice A j c) #[true, false, false, false, false, false, false, false, false, false, false, false, false, false, false] rfl rfl (by kernel_rfl) (by kernel_rfl) (by kernel_rfl) (by kernel_rfl) (by decide) (fun _ _ _ h => h) (Or.inl ⟨by rfl, fun W hS => by go_simp⟩) HS.out ?_
        simp only [List.setIfInBounds_toArray, List.set_cons_zero, List.set_cons_succ]
        refine P_takeW 1 51 (.pointer (some ⟨CB, 2, none⟩)) #[true, true, false, false, false, false, false, false, false, false, false, false, false, false, false] rfl rfl (by kernel_rfl) (by kernel_rfl) (by kernel_rfl) (by kernel_rfl) (by decide) (fun _ _ _ h => h) (Or.inl ⟨by rfl, fun W hS => by go_simp⟩) HS.out ?_
        simp only [List.setIfInBounds_toArray, List.set_cons_zero, List.set_cons_succ]
        refine P_takeT 2 52 (.int .i64 (m : Int)) #[true, true, true, false, false, false, false, false, false, false, false, false, false, false, false] [11] rfl rfl (by kernel_rfl) (by kernel_rfl) (by kernel_rfl) (by kernel_rfl) (by kernel_rfl) (by kernel_rfl) (by kernel_rfl) (by decide) (fun _ _ _ h => h) (Or.inl ⟨by rfl, fun W hS => by obtain ⟨hS1, hS2⟩ := hS; go_simp⟩) HS.out ?_
        simp only [List.setIfInBounds_toArray, List.set_cons_zero, List.set_cons_succ]
        refine P_takeW 3 53 (.int .i64 (g : Int)) #[true, true, true, true, false, false, false, false, false, false, false, false, false, false, false] rfl rfl (by kernel_rfl) (by kernel_rfl) (by kernel_rfl) (by kernel_rfl) (by decide) (fun _ _ _ h => h) (Or.inl ⟨by rfl, fun W hS => by go_simp⟩) HS.out ?_
        simp only [List.setIfInBounds_toArray, List.set_cons_zero, List.set_cons_succ]
        refine P_takeW 4 54 (.pointer (some ⟨LB, 1, none⟩)) #[true, true, true, true, true, false, false, false, false, false, false, false, false, false, false] rfl rfl (by kernel_rfl) (by kernel_rfl) (by kernel_rfl) (by kernel_rfl) (by decide) (fun _ _ _ h => h) (Or.inl ⟨by rfl, fun W hS => by go_simp⟩) HS.out ?_
        simp only [List.setIfInBounds_toArray, List.set_cons_zero, List.set_cons_succ]
        refine P_takeT 5 55 (.int .i64 (C : Int)) #[true, true, true, true, true, true, false, false, false, false, false, false, false, false, false] [11, 10, 7, 6] rfl rfl (by kernel_rfl) (by kernel_rfl) (by kernel_rfl) (by kernel_rfl) (by kernel_rfl) (by kernel_rfl) (by kernel_rfl) (by decide) (fun _ _ _ h => h) (Or.inl ⟨by rfl, fun W hS => by obtain ⟨hS1, hS2⟩ := hS; go_simp⟩) HS.out ?_
        simp only [List.setIfInBounds_toArray, List.set_cons_zero, List.set_cons_succ]
        refine P_takeW 6 56 (.int .i64 ((g : Int) + C)) #[true, true, true, true, true, true, true, false, false, false, false, false, false, false, false] rfl rfl (by kernel_rfl) (by kernel_rfl) (by kernel_rfl) (by kernel_rfl) (by decide) (fun _ _ _ h => h) (Or.inl ⟨by rfl, fun W hS => by go_simp⟩) HS.out ?_
        simp only [List.setIfInBounds_toArray, List.set_cons_zero, List.set_cons_succ]
        refine P_takeW 7 57 (.int .i64 ((g : Int) + C - 1)) #[true, true, true, true, true, true, true, true, false, false, false, false, false, false, false] rfl rfl (by kernel_rfl) (by kernel_rfl) (by kernel_rfl) (by kernel_rfl) (by decide) (fun _ _ _ h => h) (Or.inl ⟨by rfl, fun W hS => by go_simp⟩) HS.out ?_
        simp only [List.setIfInBounds_toArray, List.set_cons_zero, List.set_cons_succ]
        refine P_takeW 8 58 (.pointer (some ⟨LB, 1, none⟩)) #[true, true, true, true, true, true, true, true, true, false, false, false, false, false, false] rfl rfl (by kernel_rfl) (by kernel_rfl) (by kernel_rfl) (by kernel_rfl) (by decide) (fun _ _ _ h => h) (Or.inl ⟨by rfl, fun W hS => by go_simp⟩) HS.out ?_
        simp only [List.setIfInBounds_toArray, List.set_cons_zero, List.set_cons_succ]
        refine P_takeT 9 59 (.int .i64 (C : Int)) #[true, true, true, true, true, true, true, true, true, true, false, false, false, false, false] [11, 10] rfl rfl (by kernel_rfl) (by kernel_rfl) (by kernel_rfl) (by kernel_rfl) (by kernel_rfl) (by kernel_rfl) (by kernel_rfl) (by decide) (fun _ _ _ h => h) (Or.inl ⟨by rfl, fun W hS => by obtain ⟨hS1, hS2⟩ := hS; go_simp⟩) HS.out ?_
        simp only [List.setIfInBounds_toArray, List.set_cons_zero, List.set_cons_succ]
        refine P_takeW 10 60 (.int .i64 ((a : Int) + 1)) #[true, true, true, true, true, true, true, true, true, true, true, false, false, false, false] rfl rfl (by kernel_rfl) (by kernel_rfl) (by kernel_rfl) (by kernel_rfl) (by decide) (fun _ _ _ h => h) (Or.inl ⟨by rfl, fun W hS => by go_simp; try exact haw⟩) HS.out ?_
        simp only [List.setIfInBounds_toArray, List.set_cons_zero, List.set_cons_succ]
        refine P_takeW 11 61 (.int .i64 (u : Int)) #[true, true, true, true, true, true, true, true, true, true, true, true, false, false, false] rfl rfl (by kernel_rfl) (by kernel_rfl) (by kernel_rfl) (by kernel_rfl) (by decide) (fun _ _ _ h => h) (Or.inl ⟨by rfl, fun W hS => by go_simp; try exact hmw⟩) HS.out ?_
        simp only [List.setIfInBounds_toArray, List.set_cons_zero, List.set_cons_succ]
        refine P_one 12 #[true, true, true, true, true, true, true, true, true, true, true, true, true, false, false] rfl (by kernel_rfl) (by kernel_rfl) rfl (by kernel_rfl) (fun K hK => ?_)
        go_simp
        refine hK _ _ ?_
        clear hK K
        refine P_one 13 #[true, true, true, true, true, true, true, true, true, true, true, true, true, true, false] rfl (by kernel_rfl) (by kernel_rfl) rfl (by kernel_rfl) (fun K hK => ?_)
        refine wp_app1d (w := wr) (base := w.heap.size) _ _ 34 rfl el34 rfl (.int .i64 (u : Int)) rfl rfl HO.out (by omega) (by omega) HB.out.size ?_
        intro A2 c2 w2 hO2 hg2
        have HO2 := Lib.hid hO2
        have HG2 := Lib.hid hg2
        clear hO2 hg2
        refine hK _ _ ?_
        clear hK K
        refine P_one 14 #[true, true, true, true, true, true, true, true, true, true, true, true, true, true, true] rfl (by kernel_rfl) (by kernel_rfl) rfl (by kernel_rfl) (fun K hK => ?_)
        go_simp
        refine hK _ _ ?_
        clear hK K
        refine P_done (by kernel_rfl) ?_ _
        refine noPanic_normal ?_
        have hcb2 : Blk w2 CB 33 [.int .i64 s, .int .i64 bt, .int .i64 m, .int .i64 lm, .int .i64 rv] := HCB.out.grown HG2.out (blk_ne_row HCB.out HO.out (by decide))
        have hlb2 : Blk w2 LB 23 (ints8 ly) := HLB.out.grown HG2.out (blk_ne_row HLB.out HO.out (by decide))
        have hb2 : Below w.heap.size w w2 := HB.out.grown HG2.out HB.out.size (fun k hk => Ownv.ob' HO.out hk)
        have hO9 : Own .i64 3 w2 w.heap.size A2 (j + 1) c2 (shT C g m (j + 1)) := by rw [shT_succ, HUE.out]; have := HO2.out; unfold Own; simpa using this
        go_wp2
        go_roundw
        case rel => exact ⟨j + 1, A2, c2, by omega, by go_num, rfl, hO9, hcb2, hlb2, hb2⟩
        case measure => simp [intOf]; omega
    · obtain rfl : j = C := by omega
      have hB9 := HB.out
      go_wp2
      go_ret2
      exact ⟨A, c, rfl, HO.out, HB.out⟩
end Go.Proofs.Ytcbbkflnenkpgaa
