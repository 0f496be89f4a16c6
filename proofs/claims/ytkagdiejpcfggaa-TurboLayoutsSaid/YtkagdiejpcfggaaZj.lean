/-
  Plain facts for the chapter's laws: block sizes of the statements, the word of an exclusive or. Condition: none.
-/
import Derived.Test.YtkagdiejpcfggaaZi
namespace Go.Proofs.Ytkagdiejpcfggaa
open Go.RowKit
set_option linter.unusedVariables false
theorem xor_ib8 (a b : Bool) : bits .xor .u8 (ib a) (ib b) = ib (a ^^ b) := by cases a <;> cases b <;> decide
theorem szK_valid (u : Nat) : validK (szK u : Int) = true := by
  unfold validK szK
  simp only [decide_eq_true_eq]
  left
  omega
theorem szK_bd (u : Nat) : 40 ≤ szK u ∧ szK u ≤ 512 := by unfold szK; omega
theorem xorL_get (x y : List Bool) (h : x.length = y.length) (q : Nat) (hq : q < x.length) : (xorL x y)[q]'(by rw [xorL_len _ _ h]; exact hq) = (x[q] ^^ y[q]'(by omega)) := by
  simp [xorL]
theorem mixB_xor (x y : List Bool) (h : x.length = y.length) : mixB (xorL x y) = xorL (mixB x) (mixB y) := by
  refine List.ext_getElem (by rw [mixB_len, xorL_len _ _ h, xorL_len _ _ (by rw [mixB_len, mixB_len, h]), mixB_len]) fun q h1 h2 => ?_
  rw [xorL_get _ _ (by rw [mixB_len, mixB_len, h]) q (by rw [mixB_len, xorL_len _ _ h] at h1; rw [mixB_len]; exact h1)]
  simp only [mixB, List.getElem_map, List.getElem_range]
  rw [xorL_len _ _ h, h]
  have a1 : ∀ l : List Bool, l.getD (piN y.length q) false = if hp : piN y.length q < l.length then l[piN y.length q]'hp else false := fun l => by
    by_cases hp : piN y.length q < l.length
    · rw [dif_pos hp, List.getD_eq_getElem?_getD, List.getElem?_eq_getElem hp]; rfl
    · rw [dif_neg hp, List.getD_eq_getElem?_getD, List.getElem?_eq_none (by omega)]; rfl
  rw [a1, a1, a1]
  by_cases hp : piN y.length q < y.length
  · rw [dif_pos hp, dif_pos (by rw [xorL_len _ _ h, h]; exact hp), dif_pos (by rw [h]; exact hp), xorL_get _ _ h _ (by rw [h]; exact hp)]
  · rw [dif_neg hp, dif_neg (by rw [xorL_len _ _ h, h]; exact hp), dif_neg (by rw [h]; exact hp)]
    rfl
theorem wordI_xor (x y : List Bool) (h : x.length = y.length) : wordI (xorL x y) = (xorL (wordB x (mixB x)) (wordB y (mixB y))).map ib := by
  unfold wordI
  rw [mixB_xor _ _ h, wordB_xor _ _ _ _ h (by rw [mixB_len, mixB_len, h])]
theorem gi_bits (x : List Bool) (q : Nat) (hq : q < x.length) : ∃ p, x[q]'hq = p ∧ gi (x.map ib) q = ib p := ⟨_, rfl, gi_ib _ _ hq⟩
theorem ib_ne (a b : Bool) : (ib a != ib b) = (a ^^ b) := by cases a <;> cases b <;> decide
def XorInv (w : World) (z : List Bool) (k : Nat) (M : Option Addr) (i : Value) (wr : World) : Prop :=
  ∃ (j : Nat) (vs : List Int), j ≤ k ∧ i = .int .i64 j ∧ Own .u8 5 wr w.heap.size M k k vs ∧ (∀ q, q < j → gi vs q = gi (z.map ib) q) ∧ Below w.heap.size w wr
end Go.Proofs.Ytkagdiejpcfggaa
