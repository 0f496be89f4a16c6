import Derived.Test.YtcbbkflnenkpgaaGreatT4
namespace Go.Proofs.YtcbbkflnenkpgaaGreat
open Go.RowKit
set_option linter.unusedVariables false
def rChkErr (k : Int) (xs : List Int) : Int :=
  if polyN k = 0 then 2 else if ValidB xs = true then (if xs.length < polyN k - 1 then 5 else if refSum (polyL k) (xs.take (xs.length - (polyN k - 1))) = xs.drop (xs.length - (polyN k - 1)) then 0 else 11) else 3
def rChkRes (k : Int) (xs : List Int) : List Int := if rChkErr k xs = 0 then xs.take (xs.length - (polyN k - 1)) else []
theorem rLen_eq (k : Int) : rLen k = ((polyN k - 1 : Nat) : Int) := by
  unfold rLen; have := polyN_cases k; omega
theorem validB_take {xs : List Int} (m : Nat) (h : ValidB xs = true) : ValidB (xs.take m) = true := by
  unfold ValidB at *
  rw [List.all_eq_true] at *
  intro x hx; exact h x (List.mem_of_mem_take hx)
def addL (xs ys : List Int) : List Int := (List.range xs.length).map fun j => xor8 (gi xs j) (gi ys j)
def AddInv (w : World) (n : Nat) (xs ys : List Int) (out i : Value) (wr : World) : Prop := ∃ (j : Nat) (A : Option Addr) (c : Nat), j ≤ n ∧ out = .slice A j c ∧ i = .int .i64 j ∧
  Own .u8 5 wr w.heap.size A j c ((List.range j).map fun j => xor8 (gi xs j) (gi ys j)) ∧ Below w.heap.size w wr
end Go.Proofs.YtcbbkflnenkpgaaGreat
