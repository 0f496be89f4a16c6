/-
  Contracts of segment.Valid and of the reference's Valid: both tell the block sizes. Condition: none.
-/
import Derived.Test.YtkagdiejpcfggaaProg
import Derived.Test.YtkagdiejpcfggaaK
import Derived.Handy
namespace Go.Proofs.Ytkagdiejpcfggaa
open Go.RowKit
set_option linter.unusedVariables false
def inSpan (k f l s : Int) : Bool := decide (f ≤ k ∧ k ≤ l)
def validK (k : Int) : Bool := decide (40 ≤ k ∧ k ≤ 512 ∧ k % 8 = 0 ∨ 528 ≤ k ∧ k ≤ 1024 ∧ k % 16 = 0 ∨ 1056 ≤ k ∧ k ≤ 2048 ∧ k % 32 = 0 ∨ 2112 ≤ k ∧ k ≤ 6144 ∧ k % 64 = 0)
def spansV : Value := .agg #[.int .i64 40, .int .i64 512, .int .i64 8, .int .i64 528, .int .i64 1024, .int .i64 16, .int .i64 1056, .int .i64 2048, .int .i64 32, .int .i64 2112, .int .i64 6144, .int .i64 64]
theorem spans_any (w : World) : Calls Try.prog 46 #[] w fun e w' => e = .returned spansV ∧ Below w.heap.size w w' := by
  go_enter Try.func46, Try.ntmps46
  go_wp2
  refine bodyPost_ret (v := spansV) (by simp [results, Try.results46, go_sem]; rfl) rfl ?_
  exact ⟨rfl, (Below.refl _ w).alloc (Nat.le_refl _) _⟩
theorem span0 (W : World) : (Instr.index 83 spansV (.int .i64 0)).run Try.prog W = .ok (.agg #[.int .i64 40, .int .i64 512, .int .i64 8]) W := by kernel_rfl
theorem span1 (W : World) : (Instr.index 83 spansV (.int .i64 1)).run Try.prog W = .ok (.agg #[.int .i64 528, .int .i64 1024, .int .i64 16]) W := by kernel_rfl
theorem span2 (W : World) : (Instr.index 83 spansV (.int .i64 2)).run Try.prog W = .ok (.agg #[.int .i64 1056, .int .i64 2048, .int .i64 32]) W := by kernel_rfl
theorem span3 (W : World) : (Instr.index 83 spansV (.int .i64 3)).run Try.prog W = .ok (.agg #[.int .i64 2112, .int .i64 6144, .int .i64 64]) W := by kernel_rfl
def SpanInv (k : Int) (w : World) (i : Value) (wr : World) : Prop := ∃ j : Nat, j ≤ 4 ∧ i = .int .i64 j ∧ (0 < j → ¬ (40 ≤ k ∧ k ≤ 512)) ∧ (1 < j → ¬ (528 ≤ k ∧ k ≤ 1024)) ∧ (2 < j → ¬ (1056 ≤ k ∧ k ≤ 2048)) ∧ (3 < j → ¬ (2112 ≤ k ∧ k ≤ 6144)) ∧ Below w.heap.size w wr
theorem valid_any (k : Int) (w : World) : Calls Try.prog 27 #[.int .i64 k] w fun e w' => e = .returned (.bool (validK k)) ∧ Below w.heap.size w w' := by
  have hV : Hid (∀ b : Bool, (b = true ↔ (40 ≤ k ∧ k ≤ 512 ∧ k % 8 = 0 ∨ 528 ≤ k ∧ k ≤ 1024 ∧ k % 16 = 0 ∨ 1056 ≤ k ∧ k ≤ 2048 ∧ k % 32 = 0 ∨ 2112 ≤ k ∧ k ≤ 6144 ∧ k % 64 = 0)) → b = validK k) := Lib.hid (by
    intro b hb; unfold validK; rw [Bool.eq_iff_iff, hb, decide_eq_true_iff])
  generalize validK k = V at *
  go_enter Try.func27, Try.ntmps27
  go_wp2_with fail
  refine (spans_any _).mono ?_
  rintro e w1 ⟨rfl, hB1⟩
  have e0 := span0; have e1 := span1; have e2 := span2; have e3 := span3
  generalize spansV = SV at *
  go_wp2_with fail
  go_loopw [6] (fun i wr => SpanInv k w i wr) (fun i _ => 4 - (intOf i).toNat)
  case atStart => exact ⟨0, by omega, rfl, by omega, by omega, by omega, by omega, hB1⟩
  case round =>
    obtain ⟨j, hj, rfl, h1, h2, h3, h4, hB⟩ := hrel
    have H1 := Lib.hid h1; have H2 := Lib.hid h2; have H3 := Lib.hid h3; have H4 := Lib.hid h4
    clear h1 h2 h3 h4
    rcases (by omega : j = 0 ∨ j = 1 ∨ j = 2 ∨ j = 3 ∨ j = 4) with rfl | rfl | rfl | rfl | rfl
    all_goals try simp only [Int.ofNat_zero, Int.ofNat_one, Int.cast_ofNat_Int]
    all_goals go_wp2
    all_goals (have h1 := H1.out; have h2 := H2.out; have h3 := H3.out; have h4 := H4.out)
    all_goals first
      | exact ⟨⟨_, by omega, rfl, by omega, by omega, by omega, by omega, hB.alloc hB.size _⟩, by simp [intOf]⟩
      | exact ⟨⟨1, by omega, rfl, by omega, by omega, by omega, by omega, hB.alloc hB.size _⟩, by simp [intOf]⟩
      | exact ⟨⟨2, by omega, rfl, by omega, by omega, by omega, by omega, hB.alloc hB.size _⟩, by simp [intOf]⟩
      | exact ⟨⟨3, by omega, rfl, by omega, by omega, by omega, by omega, hB.alloc hB.size _⟩, by simp [intOf]⟩
      | exact ⟨⟨4, by omega, rfl, by omega, by omega, by omega, by omega, hB.alloc hB.size _⟩, by simp [intOf]⟩
      | (go_ret
         refine ⟨ret_bool (hV.out _ ?_), by first | exact hB.alloc hB.size _ | exact hB⟩
         first
          | (rw [beq_iff_eq]; omega)
          | (refine iff_of_false (by decide) ?_; omega))
end Go.Proofs.Ytkagdiejpcfggaa
