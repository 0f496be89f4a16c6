/-
  Contracts of trellis.at and of trellis.register.step, over bits. Condition: a state from 0 to 7 where a number is one.
-/
import Derived.Test.YtmdjclfmhndjnaaI
namespace Go.Proofs.Ytmdjclfmhndjnaa
open Go.RowKit
set_option linter.unusedVariables false
/-- An object of three ints with any tag. -/
def Obj3t (e : TypeId) (w : World) (base b : Nat) (x y z : Int) : Prop := Own .i64 e w base (some ⟨b, 0, none⟩) 3 3 [x, y, z]
theorem regRes (W : World) (b : Nat) (x y z : Int) (h : W.heap[b]? = some (.cells #[.int .i64 x, .int .i64 y, .int .i64 z] 117 (0, 0))) :
    (loadVar 117 ⟨b, 0, none⟩).run Try.prog W = .ok (.agg #[.int .i64 x, .int .i64 y, .int .i64 z]) W :=
  run_loadVar_row (P := Try.prog) W b 117 117 _ (0, 0) _ h Try.underlying117 rfl (by kernel_rfl)
set_option maxRecDepth 100000 in
set_option maxHeartbeats 1000000 in
theorem regat_any (a b c : Bool) (w : World) : Calls Try.prog 69 #[.int .i64 (stI a b c)] w fun e w' => e = .returned (regV a b c) ∧ Below w.heap.size w w' := by
  unfold regV
  cases a <;> cases b <;> cases c <;> (
    simp only [stI, ib, if_true, if_false, Bool.false_eq_true]
    go_enter Try.func69, Try.ntmps69
    go_wp2
    go_returns
    refine ⟨?_, (Below.refl _ w).alloc (Nat.le_refl _) _⟩
    try rfl
    try decide)
set_option maxRecDepth 100000 in
set_option maxHeartbeats 1000000 in
theorem step_any (a b c x : Bool) (w : World) : Calls Try.prog 74 #[regV a b c, .int .i64 (ib x)] w fun e w' => e = .returned (.tuple #[regV (x ^^ b ^^ c) a b, .int .i64 (ib (x ^^ b ^^ c ^^ a ^^ c))]) ∧ Below w.heap.size w w' := by
  have hx := xor_ib
  unfold regV
  go_enter Try.func74, Try.ntmps74
  go_wp2
  go_region
  go_wp2
  have e1 : (x != (b != c)) = (x ^^ b ^^ c) := by cases x <;> cases b <;> cases c <;> rfl
  have e2 : (x != (b != (c != (a != c)))) = (x ^^ b ^^ c ^^ a ^^ c) := by cases x <;> cases b <;> cases c <;> cases a <;> rfl
  go_returns
  exact ⟨by rw [e1, e2], ((((Below.refl _ w).alloc (Nat.le_refl _) _).alloc (by simp) _).trans (by first | exact Below.refl _ _ | exact Qt.below ⟨_, rfl⟩ _))⟩
end Go.Proofs.Ytmdjclfmhndjnaa
