/-
  Contract of plan. Condition: none.
-/
import Derived.Test.YtcbbkflnenkpgaaGreatSd
import Derived.Deep.RegionHeld3
namespace Go.Proofs.YtcbbkflnenkpgaaGreat
open Go.RowKit
set_option linter.unusedVariables false
/-- the layout for b bits, as numbers -/
def LY (b : Nat) : List Int := [(b : Int), (bC b : Int), (lo b : Int), (sh b : Int), (los b : Int), (shs b : Int), (fi b : Int)]
def PlPost (b : Nat) (w : World) (e : Ending) (w' : World) : Prop := e = .returned (.agg (ints8 (LY b)).toArray) ∧ Below w.heap.size w w'
theorem LY_one {b : Nat} (h1 : b ≤ 6144) : LY b = [(b : Int), 1, (nx b : Int), 0, 1, 0, (nx b : Int) - b] := by
  have e1 : bC b = 1 := bC_one h1
  have e2 : shs b = 0 := by unfold shs; rw [if_pos h1]
  have e3 : lo b = nx b := by unfold lo; rw [av_one h1]
  have e4 : sh b = 0 := by unfold sh; rw [if_pos h1]
  have e5 : los b = 1 := by unfold los; rw [e1, e2]
  have e6 : tl b = b := by unfold tl ck; rw [if_pos h1]; omega
  have e7 : fi b = nx b - b := by unfold fi; rw [e2, e3, e4, e5, e6]; omega
  have := nx_ge h1
  unfold LY
  rw [e1, e2, e3, e4, e5, e7]
  simp; omega
theorem info99 : (Tryz.prog.info? 79).map (·.size) = some 7 := by kernel_rfl
theorem info23 : (Tryz.prog.info? 51).map (·.size) = some 7 := by kernel_rfl
theorem res99 {W : World} {b : Nat} {m : List Int} (h : Blk W b 79 (ints8 m)) (hl : m.length = 7) : (loadVar 79 ⟨b, 0, none⟩).run Tryz.prog W = .ok (.agg (ints8 m).toArray) W :=
  run_loadVar_row (P := Tryz.prog) W b 79 79 _ (0, 0) _ h Tryz.underlying79 rfl (by rw [info99]; simp [ints8, hl])
theorem res23 {W : World} {b : Nat} {m : List Int} (h : Blk W b 51 (ints8 m)) (hl : m.length = 7) : (loadVar 51 ⟨b, 0, none⟩).run Tryz.prog W = .ok (.agg (ints8 m).toArray) W :=
  run_loadVar_row (P := Tryz.prog) W b 51 51 _ (0, 0) _ h Tryz.underlying51 rfl (by rw [info23]; simp [ints8, hl])
/-- the cells of a block of seven numbers -/
theorem Blk.seven {w : World} {b : Nat} {t : TypeId} {x0 x1 x2 x3 x4 x5 x6 : Int} (h : Blk w b t (ints8 [x0, x1, x2, x3, x4, x5, x6])) :
    (w.cell? ⟨b, 0, none⟩ = some (.int .i64 x0) ∧ w.cell? ⟨b, 1, none⟩ = some (.int .i64 x1) ∧ w.cell? ⟨b, 2, none⟩ = some (.int .i64 x2) ∧ w.cell? ⟨b, 3, none⟩ = some (.int .i64 x3) ∧ w.cell? ⟨b, 4, none⟩ = some (.int .i64 x4) ∧ w.cell? ⟨b, 5, none⟩ = some (.int .i64 x5) ∧ w.cell? ⟨b, 6, none⟩ = some (.int .i64 x6)) ∧
    (w.frozen? ⟨b, 0, none⟩ = false ∧ w.frozen? ⟨b, 1, none⟩ = false ∧ w.frozen? ⟨b, 2, none⟩ = false ∧ w.frozen? ⟨b, 3, none⟩ = false ∧ w.frozen? ⟨b, 4, none⟩ = false ∧ w.frozen? ⟨b, 5, none⟩ = false ∧ w.frozen? ⟨b, 6, none⟩ = false) :=
  ⟨⟨h.cell rfl, h.cell rfl, h.cell rfl, h.cell rfl, h.cell rfl, h.cell rfl, h.cell rfl⟩, h.frozen 0, h.frozen 1, h.frozen 2, h.frozen 3, h.frozen 4, h.frozen 5, h.frozen 6⟩
set_option maxRecDepth 100000 in
set_option maxHeartbeats 1000000 in
theorem plan_one (b : Nat) (w : World) (h1 : 1 ≤ b) (h2 : b ≤ 6144) : Calls Tryz.prog 43 #[.int .i64 b] w (PlPost b w) := by
  have hlt := ix_lt h2
  have hd : decide ((b : Int) ≤ 79560) = true := by simp; omega
  go_enter Tryz.func43, Tryz.ntmps43
  go_wp2_with (first
    | (go_at_call 44; refine (must_ok _ _).mono ?_; rintro e w' ⟨rfl, rfl⟩))
  have hR0 : Blk ((w.alloc (.cells (ints8 [0, 0, 0, 0, 0, 0, 0]).toArray 79)).alloc (.cells (ints8 [(b : Int), 1, 0, 0, 0, 0, 0]).toArray 79)) w.heap.size 79 (ints8 [0, 0, 0, 0, 0, 0, 0]) := (Blk.new w _ 79 rfl).alloc _
  have hL0 : Blk ((w.alloc (.cells (ints8 [0, 0, 0, 0, 0, 0, 0]).toArray 79)).alloc (.cells (ints8 [(b : Int), 1, 0, 0, 0, 0, 0]).toArray 79)) (w.heap.size + 1) 79 (ints8 [(b : Int), 1, 0, 0, 0, 0, 0]) := Blk.new _ _ 79 (by simp)
  have hB0 : Below w.heap.size w ((w.alloc (.cells (ints8 [0, 0, 0, 0, 0, 0, 0]).toArray 79)).alloc (.cells (ints8 [(b : Int), 1, 0, 0, 0, 0, 0]).toArray 79)) := ((Below.refl _ _).alloc (Nat.le_refl _) _).alloc (by simp) _
  simp only [ints8, List.map_cons, List.map_nil] at hR0 hL0 hB0
  generalize hW : (w.alloc (.cells #[.int .i64 0, .int .i64 0, .int .i64 0, .int .i64 0, .int .i64 0, .int .i64 0, .int .i64 0] 79)).alloc (.cells #[.int .i64 b, .int .i64 1, .int .i64 0, .int .i64 0, .int .i64 0, .int .i64 0, .int .i64 0] 79) = W at *
  obtain ⟨RB, hRB⟩ : ∃ RB, RB = w.heap.size := ⟨_, rfl⟩
  obtain ⟨LB, hLB⟩ : ∃ LB, LB = w.heap.size + 1 := ⟨_, rfl⟩
  rw [← hLB] at hL0 ⊢
  rw [← hRB] at hR0 ⊢
  have HRB := Lib.hid hRB
  have HLB := Lib.hid hLB
  have HW := Lib.hid hW
  clear hRB hLB hW
  obtain ⟨⟨c0, c1, c2, c3, c4, c5, c6⟩, -⟩ := Blk.seven hL0
  go_region_held3 (fun W => W.cell? ⟨LB, 0, none⟩ = some (.int .i64 b) ∧ W.cell? ⟨LB, 1, none⟩ = some (.int .i64 1) ∧ W.cell? ⟨LB, 2, none⟩ = some (.int .i64 0) ∧ W.cell? ⟨LB, 3, none⟩ = some (.int .i64 0) ∧ W.cell? ⟨LB, 4, none⟩ = some (.int .i64 0) ∧ W.cell? ⟨LB, 5, none⟩ = some (.int .i64 0) ∧ W.cell? ⟨LB, 6, none⟩ = some (.int .i64 0))
    (first | exact ⟨c0, c1, c2, c3, c4, c5, c6⟩ | exact (Blk.seven hL1).1)
    (first | (go_at_call 49; refine (check_lay _ _ _ _ _ _ _ _).mono ?_; rintro e w1 ⟨rfl, hB1⟩; have hL1 := (Blk.drew hL0).below hB1))
  clear c0 c1 c2 c3 c4 c5 c6
  have hR1 := Blk.below (Blk.drew hR0) hB1
  have HB1 := Lib.hid (hB0.trans (((Below.refl _ W).drew.trans hB1).mono hB0.size))
  clear hB0 hB1 hL0 hR0
  have hw0 : IntKind.i64.wrap ((b : Int) + IntKind.i64.wrap 0) = b := by rw [IntKind.wrap_i64, IntKind.wrap_i64]; omega
  have hw1 : IntKind.i64.wrap 0 = 0 := by decide
  rw [hw0, hw1]
  clear hw0 hw1
  have hne : LB ≠ RB := by rw [HLB.out, HRB.out]; omega
  have hne' : RB ≠ LB := hne.symm
  have hN1 := nx_ge h2
  have hN2 := nx_le h2
  have e1 : SZ (ix b) = nx b := rfl
  obtain ⟨N, hN⟩ : ∃ N, N = nx b := ⟨_, rfl⟩
  rw [← hN] at hN1 hN2 e1
  have HN := Lib.hid hN
  clear hN
  go_wp2_with (first
    | (go_at_call 89; refine (sizes_any _).mono ?_; rintro e w2 ⟨A, c, rfl, hO, hB2⟩; have hRd := Own.rd hO; have hc := Rd.cell hRd hlt; rw [gi_szL _ _ hlt, e1] at hc; have hix := fun W => Rdv.ix hRd el34 hlt .i64 W; have hL2 := hL1.below hB2; have hR2 := hR1.below hB2; obtain ⟨⟨c0, c1, c2, c3, c4, c5, c6⟩, f0, f1, f2, f3, f4, f5, f6⟩ := Blk.seven hL2; obtain ⟨⟨d0, d1, d2, d3, d4, d5, d6⟩, g0, g1, g2, g3, g4, g5, g6⟩ := Blk.seven hR2; have HB2 := Lib.hid (HB1.out.trans (hB2.mono HB1.out.size)); clear hB2 e1)
    | (go_at_call 90; refine (bsearch_any A c b _ h2 hRd).mono ?_; rintro e w3 ⟨⟨fnd, rfl⟩, rfl⟩))
  have hF : Blk ((((((((((w2.setCell ⟨LB, 2, none⟩ (.int .i64 N)).setCell ⟨LB, 4, none⟩ (.int .i64 1)).setCell ⟨LB, 6, none⟩ (.int .i64 ((N : Int) - b))).setCell ⟨RB, 0, none⟩ (.int .i64 b)).setCell ⟨RB, 1, none⟩ (.int .i64 1)).setCell ⟨RB, 2, none⟩ (.int .i64 N)).setCell ⟨RB, 3, none⟩ (.int .i64 0)).setCell ⟨RB, 4, none⟩ (.int .i64 1)).setCell ⟨RB, 5, none⟩ (.int .i64 0)).setCell ⟨RB, 6, none⟩ (.int .i64 ((N : Int) - b))) RB 79 (ints8 [(b : Int), 1, N, 0, 1, 0, (N : Int) - b]) :=
    (((((((((hR2.other hne _ _).other hne _ _).other hne _ _).set 0 _).set 1 _).set 2 _).set 3 _).set 4 _).set 5 _).set 6 _
  have hl1 : w.heap.size ≤ LB := by rw [HLB.out]; omega
  have hr1 : w.heap.size ≤ RB := by rw [HRB.out]; omega
  have hBe := (((((((((HB2.out.setCell (p := ⟨LB, 2, none⟩) hl1 (.int .i64 N)).setCell (p := ⟨LB, 4, none⟩) hl1 (.int .i64 1)).setCell (p := ⟨LB, 6, none⟩) hl1 (.int .i64 ((N : Int) - b))).setCell (p := ⟨RB, 0, none⟩) hr1 (.int .i64 b)).setCell (p := ⟨RB, 1, none⟩) hr1 (.int .i64 1)).setCell (p := ⟨RB, 2, none⟩) hr1 (.int .i64 N)).setCell (p := ⟨RB, 3, none⟩) hr1 (.int .i64 0)).setCell (p := ⟨RB, 4, none⟩) hr1 (.int .i64 1)).setCell (p := ⟨RB, 5, none⟩) hr1 (.int .i64 0)).setCell (p := ⟨RB, 6, none⟩) hr1 (.int .i64 ((N : Int) - b))
  have HF := Lib.hid hF
  have HBE := Lib.hid hBe
  clear hF hBe
  generalize (((((((((w2.setCell ⟨LB, 2, none⟩ (.int .i64 N)).setCell ⟨LB, 4, none⟩ (.int .i64 1)).setCell ⟨LB, 6, none⟩ (.int .i64 ((N : Int) - b))).setCell ⟨RB, 0, none⟩ (.int .i64 b)).setCell ⟨RB, 1, none⟩ (.int .i64 1)).setCell ⟨RB, 2, none⟩ (.int .i64 N)).setCell ⟨RB, 3, none⟩ (.int .i64 0)).setCell ⟨RB, 4, none⟩ (.int .i64 1)).setCell ⟨RB, 5, none⟩ (.int .i64 0)).setCell ⟨RB, 6, none⟩ (.int .i64 ((N : Int) - b)) = Wf at *
  refine bodyPost_ret (v := .agg (ints8 [(b : Int), 1, N, 0, 1, 0, (N : Int) - b]).toArray) ?_ rfl ⟨by rw [LY_one h2, HN.out], HBE.out⟩
  rw [results_c rfl]
  have l1 := res99 HF.out rfl
  simp [asAddr, l1, Sem.run_pure]
end Go.Proofs.YtcbbkflnenkpgaaGreat
