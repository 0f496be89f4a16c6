/-
  Plain facts on bytes that are bits. Condition: none.
-/
import Derived.Test.YtmdjclfmhndjnaaO
namespace Go.Proofs.Ytmdjclfmhndjnaa
open Go.RowKit
set_option linter.unusedVariables false
/-- bytes that are bits -/
def toB (xs : List Int) : List Bool := xs.map fun x => decide (x = 1)
theorem toB_ib (xs : List Int) (h0 : ∀ x ∈ xs, 0 ≤ x) (hv : ValidB xs = true) : (toB xs).map ib = xs := by
  unfold toB
  rw [List.map_map]
  have h1 : ∀ x ∈ xs, (ib ∘ fun x => decide (x = 1)) x = x := by
    intro x hx
    have h2 := List.all_eq_true.1 hv x hx
    have h3 := h0 x hx
    simp only [decide_eq_true_eq] at h2
    simp only [Function.comp, ib]
    by_cases e : x = 1
    · simp [e]
    · rw [if_neg (by simpa using e)]; omega
  rw [List.map_congr_left h1, List.map_id']
theorem ib_inj : ∀ {x y : List Bool}, x.map ib = y.map ib → x = y := by
  intro x y h
  refine (List.map_inj_right (f := ib) ?_).1 h
  intro a b; cases a <;> cases b <;> decide
end Go.Proofs.Ytmdjclfmhndjnaa
