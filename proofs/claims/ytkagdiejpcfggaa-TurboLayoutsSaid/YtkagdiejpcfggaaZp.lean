/-
  Plain facts on the chapter's examples: the words and the layouts of 40 bits, reckoned.
-/
import Derived.Test.YtkagdiejpcfggaaZf
namespace Go.Proofs.Ytkagdiejpcfggaa
open Go.RowKit
set_option linter.unusedVariables false
def bits0 : List Bool := List.replicate 40 false
def bits1 : List Bool := List.replicate 39 false ++ [true]
def onesL : List Int := [39, 42, 83, 84, 85, 87, 111, 112, 113, 114, 117, 119, 120, 121, 124, 126, 127, 128, 129, 130, 131]
def wantN : Nat → List Int
  | 0 => List.replicate 132 0
  | j + 1 => (wantN j).set (gi onesL j).toNat 1
theorem word0 : wordI bits0 = List.replicate 132 0 := by decide +kernel
theorem word1 : wordI bits1 = wantN 21 := by decide +kernel
theorem sys1 : (sysL 40 1).length = 43 ∧ (parI 40 1).length = 43 ∧ (sysL 40 2).length = 43 ∧ (parI 40 2).length = 43 := by decide +kernel
theorem lay1_ex : gi (sysL 40 1) 39 = 39 ∧ (sysL 40 1).drop 40 = [40, 128, 85] ∧ gi (parI 40 1) 0 = 44 ∧ (parI 40 1).drop 40 = [84, 41, 129] := by decide +kernel
theorem lay2_ex : (sysL 40 2).take 3 = [0, 13, 6] ∧ (sysL 40 2).drop 40 = [42, 130, 87] ∧ gi (parI 40 2) 0 = 88 ∧ (parI 40 2).drop 40 = [86, 43, 131] := by decide +kernel
theorem ones_bd : ∀ j, j < 21 → 0 ≤ gi onesL j ∧ gi onesL j < 132 := by decide
theorem valid40 : validK ((40 : Nat) : Int) = true := by decide
theorem valid41 : validK 41 = false := by decide
end Go.Proofs.Ytkagdiejpcfggaa
