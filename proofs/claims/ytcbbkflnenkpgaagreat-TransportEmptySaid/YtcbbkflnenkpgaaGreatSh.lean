/-
  Contracts of Plan. Condition: none.
-/
import Derived.Test.YtcbbkflnenkpgaaGreatSg
namespace Go.Proofs.YtcbbkflnenkpgaaGreat
open Go.RowKit
set_option linter.unusedVariables false
theorem grown_trans {w w1 w2 : World} {row : Option Nat} (h1 : w.grownBy w1 row) (h2 : w1.grownBy w2 row) : w.grownBy w2 row :=
  ⟨h2.os.trans h1.os, h2.tape.trans h1.tape, h2.output.trans h1.output, Nat.le_trans h1.size h2.size, fun k hk hne => (h2.block k (Nat.lt_of_lt_of_le hk h1.size) hne).trans (h1.block k hk hne)⟩
def zero7 : List Int := [0, 0, 0, 0, 0, 0, 0]
set_option maxRecDepth 100000 in
theorem planc_any (p : Nat) (xs : List Int) (w : World) (hx : xs.length = 7) (h : Blk w p 51 (ints8 xs)) : Calls Tryz.prog 84 #[.pointer (some ⟨p, 0, none⟩)] w fun e w' => e = .returned (.tuple #[]) ∧ (Blk w' p 51 (ints8 zero7) ∧ w.grownBy w' (some p)) := by
  obtain ⟨x0, x1, x2, x3, x4, x5, x6, rfl⟩ : ∃ x0 x1 x2 x3 x4 x5 x6, xs = [x0, x1, x2, x3, x4, x5, x6] := by
    match xs, hx with
    | [x0, x1, x2, x3, x4, x5, x6], _ => exact ⟨x0, x1, x2, x3, x4, x5, x6, rfl⟩
  obtain ⟨⟨d0, d1, d2, d3, d4, d5, d6⟩, g0, g1, g2, g3, g4, g5, g6⟩ := Blk.seven h
  go_enter Tryz.func84, Tryz.ntmps84
  go_wp2
  have hF : Blk (((((((w.setCell ⟨p, 0, none⟩ (.int .i64 0)).setCell ⟨p, 1, none⟩ (.int .i64 0)).setCell ⟨p, 2, none⟩ (.int .i64 0)).setCell ⟨p, 3, none⟩ (.int .i64 0)).setCell ⟨p, 4, none⟩ (.int .i64 0)).setCell ⟨p, 5, none⟩ (.int .i64 0)).setCell ⟨p, 6, none⟩ (.int .i64 0)) p 51 (ints8 zero7) := ((((((h.set 0 _).set 1 _).set 2 _).set 3 _).set 4 _).set 5 _).set 6 _
  have hG : w.grownBy (((((((w.setCell ⟨p, 0, none⟩ (.int .i64 0)).setCell ⟨p, 1, none⟩ (.int .i64 0)).setCell ⟨p, 2, none⟩ (.int .i64 0)).setCell ⟨p, 3, none⟩ (.int .i64 0)).setCell ⟨p, 4, none⟩ (.int .i64 0)).setCell ⟨p, 5, none⟩ (.int .i64 0)).setCell ⟨p, 6, none⟩ (.int .i64 0)) (some p) :=
    grown_trans (grownBy_set _ _ _ _) (grown_trans (grownBy_set _ _ _ _) (grown_trans (grownBy_set _ _ _ _) (grown_trans (grownBy_set _ _ _ _) (grown_trans (grownBy_set _ _ _ _) (grown_trans (grownBy_set _ _ _ _) (grownBy_set _ _ _ _))))))
  go_end0
  exact ⟨rfl, hF, hG⟩
theorem lv24 {W : World} {b : Nat} {x : Int} (h : W.cell? ⟨b, 0, none⟩ = some (.int .i64 x)) : (loadVar 29 ⟨b, 0, none⟩).run Tryz.prog W = .ok (.int .i64 x) W := by
  simp [go_sem, h]
theorem plan_top (b : Nat) (w : World) (h1 : 1 ≤ b) (h2 : b ≤ 79560) : Calls Tryz.prog 39 #[.int .i64 b] w fun e w' => e = .returned (.tuple #[.agg (ints8 (LY b)).toArray, .int .i64 0]) ∧ Below w.heap.size w w' := by
  have hmf : ∀ (fn : Fn) (first cap : Array Value) (w : World), (Instr.makeFunc fn first cap).run Tryz.prog w = .ok (.func fn first cap) w := fun _ _ _ _ => rfl
  go_enter_defers Tryz.func39, Tryz.ntmps39
  have hR0 : Blk ((w.alloc (.cells (ints8 zero7).toArray 51)).alloc (.cells #[.int .i64 0] 29)) w.heap.size 51 (ints8 zero7) := (Blk.new w _ 51 rfl).alloc _
  have hE0 : Blk ((w.alloc (.cells (ints8 zero7).toArray 51)).alloc (.cells #[.int .i64 0] 29)) (w.heap.size + 1) 29 [.int .i64 0] := Blk.new _ [.int .i64 0] 29 (by simp)
  have hB0 : Below w.heap.size w ((w.alloc (.cells (ints8 zero7).toArray 51)).alloc (.cells #[.int .i64 0] 29)) := ((Below.refl _ _).alloc (Nat.le_refl _) _).alloc (by simp) _
  simp only [ints8, zero7, List.map_cons, List.map_nil] at hR0 hE0 hB0
  go_wp2_with fail
  generalize (w.alloc (.cells #[.int .i64 0, .int .i64 0, .int .i64 0, .int .i64 0, .int .i64 0, .int .i64 0, .int .i64 0] 51)).alloc (.cells #[.int .i64 0] 29) = W at *
  refine (plan_ok b W h1 h2).mono ?_
  rintro e w1 ⟨rfl, hB1⟩
  have hR1 := hR0.below hB1
  have hE1 := hE0.below hB1
  have HB1 := Lib.hid (hB0.trans (hB1.mono hB0.size))
  clear hR0 hE0 hB0 hB1
  obtain ⟨RB, hRB⟩ : ∃ RB, RB = w.heap.size := ⟨_, rfl⟩
  obtain ⟨EB, hEB⟩ : ∃ EB, EB = w.heap.size + 1 := ⟨_, rfl⟩
  rw [← hEB] at hE1 ⊢
  rw [← hRB] at hR1 ⊢
  have hne : RB ≠ EB := by omega
  have hne' : EB ≠ RB := by omega
  have HRB := Lib.hid hRB
  have HEB := Lib.hid hEB
  clear hRB hEB
  obtain ⟨⟨d0, d1, d2, d3, d4, d5, d6⟩, g0, g1, g2, g3, g4, g5, g6⟩ := Blk.seven hR1
  have e0 := hE1.cell (j := 0) rfl
  have e1 := hE1.frozen 0
  have hfld : ∀ W, (Instr.field 79 (.agg (ints8 (LY b)).toArray) 0).run Tryz.prog W = .ok (.agg (ints8 (LY b)).toArray) W := fun _ => by kernel_rfl
  have HLY := Lib.hid (show LY b = [(b : Int), (bC b : Int), (lo b : Int), (sh b : Int), (los b : Int), (shs b : Int), (fi b : Int)] from rfl)
  unfold LY at hfld ⊢
  simp only [ints8, List.map_cons, List.map_nil] at hfld ⊢
  generalize (bC b : Int) = x1 at *
  generalize (lo b : Int) = x2 at *
  generalize (sh b : Int) = x3 at *
  generalize (los b : Int) = x4 at *
  generalize (shs b : Int) = x5 at *
  generalize (fi b : Int) = x6 at *
  go_wp2
  have hF : Blk ((((((((w1.setCell ⟨RB, 0, none⟩ (.int .i64 (b : Int))).setCell ⟨RB, 1, none⟩ (.int .i64 x1)).setCell ⟨RB, 2, none⟩ (.int .i64 x2)).setCell ⟨RB, 3, none⟩ (.int .i64 x3)).setCell ⟨RB, 4, none⟩ (.int .i64 x4)).setCell ⟨RB, 5, none⟩ (.int .i64 x5)).setCell ⟨RB, 6, none⟩ (.int .i64 x6)).setCell ⟨EB, 0, none⟩ (.int .i64 0)) RB 51 (ints8 [(b : Int), x1, x2, x3, x4, x5, x6]) := ((((((((hR1.set 0 _).set 1 _).set 2 _).set 3 _).set 4 _).set 5 _).set 6 _).other hne' _ _)
  have hE : Blk ((((((((w1.setCell ⟨RB, 0, none⟩ (.int .i64 (b : Int))).setCell ⟨RB, 1, none⟩ (.int .i64 x1)).setCell ⟨RB, 2, none⟩ (.int .i64 x2)).setCell ⟨RB, 3, none⟩ (.int .i64 x3)).setCell ⟨RB, 4, none⟩ (.int .i64 x4)).setCell ⟨RB, 5, none⟩ (.int .i64 x5)).setCell ⟨RB, 6, none⟩ (.int .i64 x6)).setCell ⟨EB, 0, none⟩ (.int .i64 0)) EB 29 [.int .i64 0] := ((((((((hE1.other hne _ _).other hne _ _).other hne _ _).other hne _ _).other hne _ _).other hne _ _).other hne _ _).set 0 _)
  have hr1 : w.heap.size ≤ RB := by rw [HRB.out]; omega
  have hl1 : w.heap.size ≤ EB := by rw [HEB.out]; omega
  have hBe := ((((((((HB1.out.setCell (p := ⟨RB, 0, none⟩) hr1 (.int .i64 (b : Int))).setCell (p := ⟨RB, 1, none⟩) hr1 (.int .i64 x1)).setCell (p := ⟨RB, 2, none⟩) hr1 (.int .i64 x2)).setCell (p := ⟨RB, 3, none⟩) hr1 (.int .i64 x3)).setCell (p := ⟨RB, 4, none⟩) hr1 (.int .i64 x4)).setCell (p := ⟨RB, 5, none⟩) hr1 (.int .i64 x5)).setCell (p := ⟨RB, 6, none⟩) hr1 (.int .i64 x6)).setCell (p := ⟨EB, 0, none⟩) hl1 (.int .i64 0))
  have HF := Lib.hid hF
  have HE := Lib.hid hE
  have HBE := Lib.hid hBe
  clear hF hBe hE
  generalize ((((((((w1.setCell ⟨RB, 0, none⟩ (.int .i64 (b : Int))).setCell ⟨RB, 1, none⟩ (.int .i64 x1)).setCell ⟨RB, 2, none⟩ (.int .i64 x2)).setCell ⟨RB, 3, none⟩ (.int .i64 x3)).setCell ⟨RB, 4, none⟩ (.int .i64 x4)).setCell ⟨RB, 5, none⟩ (.int .i64 x5)).setCell ⟨RB, 6, none⟩ (.int .i64 x6)).setCell ⟨EB, 0, none⟩ (.int .i64 0)) = Wf at *
  refine leaves_cons (f := 41) (args := #[.pointer (some ⟨EB, 0, none⟩), .func (.func 84) #[] #[.pointer (some ⟨RB, 0, none⟩)]]) (by simp) (by simp [go_sem]) ?_
  refine (caught_idle ⟨EB, 0, none⟩ _ _).mono ?_
  rintro e u' w'' ⟨rfl, rfl, rfl⟩
  have l1 := res23 HF.out rfl
  have l2 := lv24 (HE.out.cell (j := 0) rfl)
  simp [Leaves, settle, results, Tryz.results39, asAddr, l1, l2, Sem.run_bind, Result.andThen]
  exact ⟨by rw [HLY.out], HBE.out⟩
theorem plan_top_bad (b : Int) (w : World) (h : b < 1 ∨ 79560 < b) : Calls Tryz.prog 39 #[.int .i64 b] w fun e w' => e = .returned (.tuple #[.agg (ints8 zero7).toArray, .int .i64 2]) ∧ Below w.heap.size w w' := by
  have hmf : ∀ (fn : Fn) (first cap : Array Value) (w : World), (Instr.makeFunc fn first cap).run Tryz.prog w = .ok (.func fn first cap) w := fun _ _ _ _ => rfl
  have HH := Lib.hid h
  clear h
  go_enter_defers Tryz.func39, Tryz.ntmps39
  have hR0 : Blk ((w.alloc (.cells (ints8 zero7).toArray 51)).alloc (.cells #[.int .i64 0] 29)) w.heap.size 51 (ints8 zero7) := (Blk.new w _ 51 rfl).alloc _
  have hE0 : Blk ((w.alloc (.cells (ints8 zero7).toArray 51)).alloc (.cells #[.int .i64 0] 29)) (w.heap.size + 1) 29 [.int .i64 0] := Blk.new _ [.int .i64 0] 29 (by simp)
  have hB0 : Below w.heap.size w ((w.alloc (.cells (ints8 zero7).toArray 51)).alloc (.cells #[.int .i64 0] 29)) := ((Below.refl _ _).alloc (Nat.le_refl _) _).alloc (by simp) _
  simp only [ints8, zero7, List.map_cons, List.map_nil] at hR0 hE0 hB0
  go_wp2_with fail
  generalize (w.alloc (.cells #[.int .i64 0, .int .i64 0, .int .i64 0, .int .i64 0, .int .i64 0, .int .i64 0, .int .i64 0] 51)).alloc (.cells #[.int .i64 0] 29) = W at *
  refine (plan_bad b W HH.out).mono ?_
  rintro e w1 ⟨rfl, hB1⟩
  have hR1 := hR0.below hB1
  have hE1 := hE0.below hB1
  have HB1 := Lib.hid (hB0.trans (hB1.mono hB0.size))
  clear hR0 hE0 hB0 hB1
  obtain ⟨RB, hRB⟩ : ∃ RB, RB = w.heap.size := ⟨_, rfl⟩
  obtain ⟨EB, hEB⟩ : ∃ EB, EB = w.heap.size + 1 := ⟨_, rfl⟩
  rw [← hEB] at hE1 ⊢
  rw [← hRB] at hR1 ⊢
  have hne : RB ≠ EB := by omega
  have hne' : EB ≠ RB := by omega
  have hr1 : w.heap.size ≤ RB := by omega
  have hl1 : w.heap.size ≤ EB := by omega
  clear hRB hEB
  refine leaves_cons (f := 41) (args := #[.pointer (some ⟨EB, 0, none⟩), .func (.func 84) #[] #[.pointer (some ⟨RB, 0, none⟩)]]) (by simp) (by simp [go_sem]) ?_
  refine (caught_pan63 ⟨EB, 0, none⟩ _ 2 _ (fun W => Blk W RB 51 (ints8 zero7) ∧ w1.grownBy W (some RB)) (planc_any RB zero7 w1 rfl hR1) (fun W hW => ?_)).mono ?_
  · have hE2 := hE1.grown hW.2 (by intro he; exact hne' (Option.some.inj he))
    exact ⟨⟨_, hE2.cell (j := 0) rfl⟩, hE2.frozen 0⟩
  rintro e u' w'' ⟨rfl, rfl, W2, hW2, rfl⟩
  have hE2 := hE1.grown hW2.2 (by intro he; exact hne' (Option.some.inj he))
  have l1 := res23 (hW2.1.other (g := EB) hne' 0 (.int .i64 2)) rfl
  have l2 := lv24 ((hE2.set 0 (.int .i64 2)).cell (j := 0) (v := .int .i64 2) rfl)
  have hBe := (HB1.out.grown hW2.2 HB1.out.size (fun k hk => by cases hk; exact hr1)).setCell (p := ⟨EB, 0, none⟩) hl1 (.int .i64 2)
  have HBE := Lib.hid hBe
  clear hBe hW2 hE2 hE1 hR1
  simp [Leaves, settle, results, Tryz.results39, asAddr, l1, l2, Sem.run_bind, Result.andThen]
  exact HBE.out
end Go.Proofs.YtcbbkflnenkpgaaGreat
