/-
  Contracts of both Layouts, of both valids and of the reference's Same. Condition: slices that lie in memory.
-/
import Derived.Test.YtcbbkflnenkpgaaGreatSh
import Derived.Test.YtcbbkflnenkpgaaGreatSi
import Derived.Test.YtcbbkflnenkpgaaGreatSy
namespace Go.Proofs.YtcbbkflnenkpgaaGreat
open Go.RowKit
set_option linter.unusedVariables false
def ly15 (sz : Int) : List Int × Int := if sz < 1 ∨ 79536 < sz then (zero7, 2) else (LY (sz + 24).toNat, 0)
set_option maxRecDepth 100000 in
theorem lay_any (sz : Int) (w : World) : Calls Tryz.prog 17 #[.int .i64 sz] w fun e w' => e = .returned (.tuple #[.agg (ints8 (ly15 sz).1).toArray, .int .i64 (ly15 sz).2]) ∧ Below w.heap.size w w' := by
  have hr0 : Blk (w.alloc (.cells (ints8 zero7).toArray 51)) w.heap.size 51 (ints8 zero7) := Blk.new w _ 51 rfl
  have hb0 := bal (Below.refl _ w) (.cells (ints8 zero7).toArray 51)
  by_cases h : sz < 1 ∨ 79536 < sz
  · have e : ly15 sz = (zero7, 2) := by unfold ly15; rw [if_pos h]
    rw [e]
    simp only [ints8, zero7, List.map_cons, List.map_nil] at hr0 hb0 ⊢
    by_cases h1 : sz < 1
    · have q : decide (sz < 1) = true := by simp [h1]
      clear h
      go_enter Tryz.func17, Tryz.ntmps17
      go_wp2_with (refine strow (cs := [.int .i64 0, .int .i64 0, .int .i64 0, .int .i64 0, .int .i64 0, .int .i64 0, .int .i64 0]) rfl 51 (.tmp 2) (.tmp 10) rfl rfl rfl hr0 rfl info23 (ints8_one zero7) ?_; intro W4 g1 g2; have H4 := Lib.hid g1; have HB4 := Lib.hid (hb0.grown g2 hb0.size (fun k hk => by cases hk; exact Nat.le_refl _)); clear g1 g2 hr0)
      refine bodyPost_ret (v := .tuple #[.agg #[.int .i64 0, .int .i64 0, .int .i64 0, .int .i64 0, .int .i64 0, .int .i64 0, .int .i64 0], .int .i64 2]) ?_ rfl ⟨rfl, HB4.out⟩
      have l1 := res23 (m := zero7) H4.out rfl
      simp only [ints8, zero7, List.map_cons, List.map_nil] at l1
      rw [results_ct rfl]
      simp [Act.put, asAddr, l1, Sem.run_pure, Result.andThen]
    · have q : decide (sz < 1) = false := by simp; omega
      have q2 : decide (79536 < sz) = true := by simp; omega
      clear h h1
      go_enter Tryz.func17, Tryz.ntmps17
      go_wp2_with (refine strow (cs := [.int .i64 0, .int .i64 0, .int .i64 0, .int .i64 0, .int .i64 0, .int .i64 0, .int .i64 0]) rfl 51 (.tmp 2) (.tmp 10) rfl rfl rfl hr0 rfl info23 (ints8_one zero7) ?_; intro W4 g1 g2; have H4 := Lib.hid g1; have HB4 := Lib.hid (hb0.grown g2 hb0.size (fun k hk => by cases hk; exact Nat.le_refl _)); clear g1 g2 hr0)
      refine bodyPost_ret (v := .tuple #[.agg #[.int .i64 0, .int .i64 0, .int .i64 0, .int .i64 0, .int .i64 0, .int .i64 0, .int .i64 0], .int .i64 2]) ?_ rfl ⟨rfl, HB4.out⟩
      have l1 := res23 (m := zero7) H4.out rfl
      simp only [ints8, zero7, List.map_cons, List.map_nil] at l1
      rw [results_ct rfl]
      simp [Act.put, asAddr, l1, Sem.run_pure, Result.andThen]
  · have e : ly15 sz = (LY (sz + 24).toNat, 0) := by unfold ly15; rw [if_neg h]
    obtain ⟨b, hb⟩ : ∃ b, b = (sz + 24).toNat := ⟨_, rfl⟩
    rw [e, ← hb]
    have HP := Lib.hid (fun W => plan_top b W (by omega) (by omega))
    skip
    have hbs : sz + 24 = (b : Int) := by omega
    have hbw : IntKind.i64.wrap (sz + 24) = (b : Int) := by rw [IntKind.wrap_i64]; omega
    have q : decide (sz < 1) = false := by simp; omega
    have q2 : decide (79536 < sz) = false := by simp; omega
    clear h e hb hbs
    obtain ⟨ly, hly⟩ : ∃ ly, ly = LY b := ⟨_, rfl⟩
    have hl7 : ly.length = 7 := by rw [hly]; rfl
    rw [← hly] at HP ⊢
    clear hly
    have HR0 := Lib.hid hr0
    have HB0 := Lib.hid hb0
    clear hr0 hb0
    simp only [ints8, zero7, List.map_cons, List.map_nil] at HR0 HB0
    go_enter Tryz.func17, Tryz.ntmps17
    go_wp2_with fail
    refine (HP.out _).mono ?_
    rintro e w1 ⟨rfl, hB1⟩
    have hr1 := HR0.out.below hB1
    have HB1 := Lib.hid (HB0.out.trans (hB1.mono HB0.out.size))
    clear hB1
    go_wp2_with (refine strow (cs := ints8 ly) rfl 51 (.tmp 2) (.tmp 14) rfl rfl rfl hr1 (by simp [ints8, hl7]) (by rw [info23]; simp [ints8, hl7]) (ints8_one ly) ?_; intro W4 g1 g2; have H4 := Lib.hid g1; have HB4 := Lib.hid (HB1.out.grown g2 HB1.out.size (fun k hk => by cases hk; exact Nat.le_refl _)); clear g1 g2 hr1)
    refine bodyPost_ret (v := .tuple #[.agg (ints8 ly).toArray, .int .i64 0]) ?_ rfl ⟨rfl, HB4.out⟩
    have l1 := res23 (m := ly) H4.out hl7
    rw [results_ct rfl]
    simp [Act.put, asAddr, l1, Sem.run_pure, Result.andThen]
set_option maxRecDepth 100000 in
theorem rlay_any (sz : Int) (w : World) : Calls Tryz.prog 34 #[.int .i64 sz] w fun e w' => e = .returned (.tuple #[.agg (ints8 (ly15 sz).1).toArray, .int .i64 (ly15 sz).2]) ∧ Below w.heap.size w w' := by
  have hr0 : Blk (w.alloc (.cells (ints8 zero7).toArray 51)) w.heap.size 51 (ints8 zero7) := Blk.new w _ 51 rfl
  have hb0 := bal (Below.refl _ w) (.cells (ints8 zero7).toArray 51)
  by_cases h : sz < 1 ∨ 79536 < sz
  · have e : ly15 sz = (zero7, 2) := by unfold ly15; rw [if_pos h]
    rw [e]
    simp only [ints8, zero7, List.map_cons, List.map_nil] at hr0 hb0 ⊢
    by_cases h1 : sz < 1
    · have q : decide (sz < 1) = true := by simp [h1]
      clear h
      go_enter Tryz.func34, Tryz.ntmps34
      go_wp2_with (refine strow (cs := [.int .i64 0, .int .i64 0, .int .i64 0, .int .i64 0, .int .i64 0, .int .i64 0, .int .i64 0]) rfl 51 (.tmp 2) (.tmp 10) rfl rfl rfl hr0 rfl info23 (ints8_one zero7) ?_; intro W4 g1 g2; have H4 := Lib.hid g1; have HB4 := Lib.hid (hb0.grown g2 hb0.size (fun k hk => by cases hk; exact Nat.le_refl _)); clear g1 g2 hr0)
      refine bodyPost_ret (v := .tuple #[.agg #[.int .i64 0, .int .i64 0, .int .i64 0, .int .i64 0, .int .i64 0, .int .i64 0, .int .i64 0], .int .i64 2]) ?_ rfl ⟨rfl, HB4.out⟩
      have l1 := res23 (m := zero7) H4.out rfl
      simp only [ints8, zero7, List.map_cons, List.map_nil] at l1
      rw [results_ct rfl]
      simp [Act.put, asAddr, l1, Sem.run_pure, Result.andThen]
    · have q : decide (sz < 1) = false := by simp; omega
      have q2 : decide (79536 < sz) = true := by simp; omega
      clear h h1
      go_enter Tryz.func34, Tryz.ntmps34
      go_wp2_with (refine strow (cs := [.int .i64 0, .int .i64 0, .int .i64 0, .int .i64 0, .int .i64 0, .int .i64 0, .int .i64 0]) rfl 51 (.tmp 2) (.tmp 10) rfl rfl rfl hr0 rfl info23 (ints8_one zero7) ?_; intro W4 g1 g2; have H4 := Lib.hid g1; have HB4 := Lib.hid (hb0.grown g2 hb0.size (fun k hk => by cases hk; exact Nat.le_refl _)); clear g1 g2 hr0)
      refine bodyPost_ret (v := .tuple #[.agg #[.int .i64 0, .int .i64 0, .int .i64 0, .int .i64 0, .int .i64 0, .int .i64 0, .int .i64 0], .int .i64 2]) ?_ rfl ⟨rfl, HB4.out⟩
      have l1 := res23 (m := zero7) H4.out rfl
      simp only [ints8, zero7, List.map_cons, List.map_nil] at l1
      rw [results_ct rfl]
      simp [Act.put, asAddr, l1, Sem.run_pure, Result.andThen]
  · have e : ly15 sz = (LY (sz + 24).toNat, 0) := by unfold ly15; rw [if_neg h]
    obtain ⟨b, hb⟩ : ∃ b, b = (sz + 24).toNat := ⟨_, rfl⟩
    rw [e, ← hb]
    have HP := Lib.hid (fun W => rplan_ok b W (by omega) (by omega))
    unfold RpPost at HP
    have hbs : sz + 24 = (b : Int) := by omega
    have hbw : IntKind.i64.wrap (sz + 24) = (b : Int) := by rw [IntKind.wrap_i64]; omega
    have q : decide (sz < 1) = false := by simp; omega
    have q2 : decide (79536 < sz) = false := by simp; omega
    clear h e hb hbs
    obtain ⟨ly, hly⟩ : ∃ ly, ly = LY b := ⟨_, rfl⟩
    have hl7 : ly.length = 7 := by rw [hly]; rfl
    rw [← hly] at HP ⊢
    clear hly
    have HR0 := Lib.hid hr0
    have HB0 := Lib.hid hb0
    clear hr0 hb0
    simp only [ints8, zero7, List.map_cons, List.map_nil] at HR0 HB0
    go_enter Tryz.func34, Tryz.ntmps34
    go_wp2_with fail
    refine (HP.out _).mono ?_
    rintro e w1 ⟨rfl, hB1⟩
    have hr1 := HR0.out.below hB1
    have HB1 := Lib.hid (HB0.out.trans (hB1.mono HB0.out.size))
    clear hB1
    go_wp2_with (refine strow (cs := ints8 ly) rfl 51 (.tmp 2) (.tmp 14) rfl rfl rfl hr1 (by simp [ints8, hl7]) (by rw [info23]; simp [ints8, hl7]) (ints8_one ly) ?_; intro W4 g1 g2; have H4 := Lib.hid g1; have HB4 := Lib.hid (HB1.out.grown g2 HB1.out.size (fun k hk => by cases hk; exact Nat.le_refl _)); clear g1 g2 hr1)
    refine bodyPost_ret (v := .tuple #[.agg (ints8 ly).toArray, .int .i64 0]) ?_ rfl ⟨rfl, HB4.out⟩
    have l1 := res23 (m := ly) H4.out hl7
    rw [results_ct rfl]
    simp [Act.put, asAddr, l1, Sem.run_pure, Result.andThen]
def IntsInw (w : World) (n : Nat) (xs ys : List Int) (i : Value) (wr : World) : Prop := ∃ j : Nat, j ≤ n ∧ i = .int .i64 j ∧ (∀ q, q < j → gi xs q = gi ys q) ∧ Qt w wr
set_option maxRecDepth 100000 in
set_option maxHeartbeats 400000 in
theorem same4_any (A B : Option Addr) (n c m d : Nat) (xs ys : List Int) (w : World) (hx : Rd .i64 w A n c xs) (hy : Rd .i64 w B m d ys) :
    Calls Tryz.prog 27 #[.slice A n c, .slice B m d] w fun e w' => e = .returned (.bool (decide (xs = ys))) ∧ Qt w w' := by
  have b1 := hx.bd.1
  have b2 := hy.bd.1
  by_cases hnm : n = m
  · subst hnm
    have hne : ((n : Int) != (n : Int)) = false := bne_f rfl
    go_enter Tryz.func27, Tryz.ntmps27
    go_wp2
    go_loopw [5] (fun i wr => IntsInw w n xs ys i wr) (fun i _ => n - (intOf i).toNat)
    case atStart => exact ⟨0, by omega, rfl, by intro q hq; omega, 0, rfl⟩
    case round =>
      obtain ⟨j, hj, rfl, hv, q0, rfl⟩ := hrel
      by_cases hlt : j < n
      · have hc := Rd.cell hx hlt
        have hd := Rd.cell hy hlt
        have hix := fun W => Rdv.ix hx el34 hlt .i64 W
        have hiy := fun W => Rdv.ix hy el34 hlt .i64 W
        have HV := Lib.hid hv; clear hv
        by_cases h1 : gi xs j = gi ys j
        · have h1' := bne_f h1
          have H1 := Lib.hid h1; clear h1
          go_wp2
          go_quiet (fail)
          go_wp2
          go_roundw
          case rel => exact ⟨j + 1, by omega, by go_num, fun q hq => lt_succ_cases HV.out H1.out q hq, by first | exact ⟨_, rfl⟩ | exact Qt.drewN ⟨_, rfl⟩ _⟩
          case measure => simp [intOf]; omega
        · have h1' := bne_t h1
          have hf : decide (xs = ys) = false := by simp; rintro rfl; exact h1 rfl
          go_wp2
          go_quiet (fail)
          go_wp2
          go_ret
          exact ⟨ret_bool hf.symm, by first | exact ⟨_, rfl⟩ | exact Qt.drewN ⟨_, rfl⟩ _⟩
      · have hf : decide (xs = ys) = true := by
          have hl1 := hx.len; have hl2 := hy.len
          simp only [decide_eq_true_eq]
          refine ext_gi (by rw [hl1, hl2]) fun q hq => hv q (by omega)
        go_wp2
        go_ret
        exact ⟨ret_bool hf.symm, by first | exact ⟨_, rfl⟩ | exact Qt.drewN ⟨_, rfl⟩ _⟩
  · have hne : ((n : Int) != (m : Int)) = true := bne_t (by omega)
    have hf : decide (xs = ys) = false := by
      simp; rintro rfl; have := hx.len; have := hy.len; omega
    go_enter Tryz.func27, Tryz.ntmps27
    go_wp2
    go_ret
    exact ⟨ret_bool hf.symm, 0, rfl⟩
end Go.Proofs.YtcbbkflnenkpgaaGreat
