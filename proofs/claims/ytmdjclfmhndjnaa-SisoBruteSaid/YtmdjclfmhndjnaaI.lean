/-
  Contracts of trellis.register's methods, of trellis.fits and trellis.at, over bits. Condition: none.
-/
import Derived.Test.YtmdjclfmhndjnaaA
import Derived.BigRegion
namespace Go.Proofs.Ytmdjclfmhndjnaa
open Go.RowKit
set_option linter.unusedVariables false
def ib (b : Bool) : Int := if b then 1 else 0
def regV (a b c : Bool) : Value := .agg #[.int .i64 (ib a), .int .i64 (ib b), .int .i64 (ib c)]
theorem xor_ib (a b : Bool) : bits .xor .i64 (ib a) (ib b) = ib (a ^^ b) := by cases a <;> cases b <;> decide
/-- the state's number -/
def stI (a b c : Bool) : Int := 4 * ib a + 2 * ib b + ib c
theorem fits_any (s : Int) (w : World) : Calls Try.prog 68 #[.int .i64 s, .int .i64 0] w fun e w' => e = .returned (.bool (decide (0 ≤ s ∧ s < 8))) ∧ w = w' := by
  rcases (by omega : s < 0 ∨ (0 ≤ s ∧ s < 8) ∨ 8 ≤ s) with h | ⟨h, h'⟩ | h
  · have hd : decide (0 ≤ s ∧ s < 8) = false := by simp; omega
    rw [hd]
    go_enter Try.func68, Try.ntmps68
    go_wp2
    go_ret
    exact ⟨rfl, rfl⟩
  · have hd : decide (0 ≤ s ∧ s < 8) = true := by simp; omega
    rw [hd]
    go_enter Try.func68, Try.ntmps68
    go_wp2
    go_ret
    exact ⟨rfl, rfl⟩
  · have hd : decide (0 ≤ s ∧ s < 8) = false := by simp; omega
    rw [hd]
    go_enter Try.func68, Try.ntmps68
    go_wp2
    go_ret
    exact ⟨rfl, rfl⟩
theorem ending_any (a b c : Bool) (w : World) : Calls Try.prog 70 #[regV a b c] w fun e w' => e = .returned (.int .i64 (ib (b ^^ c))) ∧ Below w.heap.size w w' := by
  have hx := xor_ib
  unfold regV
  go_enter Try.func70, Try.ntmps70
  go_wp2
  go_ret
  exact ⟨ret_int rfl, (Below.refl _ w).alloc (Nat.le_refl _) _⟩
theorem or3 (a b c : Bool) : bits .or .i64 (bits .or .i64 (ib a * 4) (ib b * 2)) (ib c) = stI a b c := by cases a <;> cases b <;> cases c <;> decide
theorem state_any (a b c : Bool) (w : World) : Calls Try.prog 67 #[regV a b c] w fun e w' => e = .returned (.int .i64 (stI a b c)) ∧ Below w.heap.size w w' := by
  unfold regV
  cases a <;> cases b <;> cases c <;> (
    simp only [ib, if_true, if_false, Bool.false_eq_true]
    go_enter Try.func67, Try.ntmps67
    go_wp2
    go_ret
    exact ⟨ret_int (by decide), (Below.refl _ w).alloc (Nat.le_refl _) _⟩)
end Go.Proofs.Ytmdjclfmhndjnaa
