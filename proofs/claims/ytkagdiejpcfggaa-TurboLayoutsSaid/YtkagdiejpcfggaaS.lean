/-
  Plain facts about the permutation polynomials of the block sizes, no program in sight: the divisors, the two coefficients, and their bounds, reckoned for every block size.
-/
import Derived.Test.YtkagdiejpcfggaaA
namespace Go.Proofs.Ytkagdiejpcfggaa
open Go.RowKit
set_option linter.unusedVariables false
def strip : Nat → Nat → Nat → Option Nat
  | 0, _, _ => none
  | f + 1, p, k => if k % p = 0 then strip f p (k / p) else some k
def dvs : Nat → Nat → Nat → List Nat → Option (List Nat)
  | 0, _, _, _ => none
  | f + 1, p, k, acc => if k ≤ 1 then some acc else match strip 14 p k with
    | none => none
    | some k2 => dvs f (p + 1) k2 (if k % p = 0 then acc ++ [p] else acc)
def cop (f : Nat) (D : List Nat) : Bool := D.all fun p => decide (f % p ≠ 0)
def fnd : Nat → Nat → List Nat → Option Nat
  | 0, _, _ => none
  | n + 1, f, D => if cop f D = true then some f else fnd n (f + 2) D
def fndG : Nat → Nat → Nat → Option Nat
  | 0, _, _ => none
  | n + 1, f, k => if 1 < Nat.gcd f k then fndG n (f + 2) k else some f
def prodL (D : List Nat) : Nat := D.foldl (· * ·) 1
def validN (k : Nat) : Bool := validK (k : Int)
def chk (k : Nat) : Bool := match dvs 100 2 k [] with
  | none => false
  | some D => match fnd 50 3 D with
    | none => false
    | some F => decide (D.length ≤ 12 ∧ fndG 50 3 k = some F ∧ F ≤ 1000 ∧ prodL D ≤ 6144) && D.all (fun p => decide (1 ≤ p))
theorem chk_all : ((List.range 6145).all fun k => !validN k || chk k) = true := by decide +kernel
def dvL (k : Nat) : List Nat := (dvs 100 2 k []).getD []
def f1N (k : Nat) : Nat := (fnd 50 3 (dvL k)).getD 0
def f2N (k : Nat) : Nat := prodL (dvL k)
structure Prm (k : Nat) : Prop where
  k0 : 40 ≤ k
  k1 : k ≤ 6144
  d : dvs 100 2 k [] = some (dvL k)
  f : fnd 50 3 (dvL k) = some (f1N k)
  g : fndG 50 3 k = some (f1N k)
  l : (dvL k).length ≤ 12
  b1 : f1N k ≤ 1000
  b2 : f2N k ≤ 6144
  p : ∀ q ∈ dvL k, 1 ≤ q
theorem valid_bd {k : Int} (h : validK k = true) : 40 ≤ k ∧ k ≤ 6144 := by
  unfold validK at h
  rw [decide_eq_true_iff] at h
  omega
theorem prm {k : Nat} (h : validK (k : Int) = true) : Prm k := by
  obtain ⟨h0, h1⟩ := valid_bd h
  have hc := List.all_eq_true.1 chk_all k (List.mem_range.2 (by omega))
  have hv : validN k = true := h
  rw [hv] at hc
  have hc : chk k = true := by simpa using hc
  unfold chk at hc
  have e1 : dvs 100 2 k [] = some (dvL k) := by
    unfold dvL
    cases hd : dvs 100 2 k [] with
    | none => rw [hd] at hc; cases hc
    | some D => rfl
  rw [e1] at hc
  simp only at hc
  have e2 : fnd 50 3 (dvL k) = some (f1N k) := by
    unfold f1N
    cases hd : fnd 50 3 (dvL k) with
    | none => rw [hd] at hc; cases hc
    | some D => rfl
  rw [e2] at hc
  simp only [Bool.and_eq_true, decide_eq_true_iff] at hc
  obtain ⟨⟨c1, c2, c3, c4⟩, c5⟩ := hc
  exact ⟨by omega, by omega, e1, e2, c2, c1, c3, c4, fun q hq => by have := List.all_eq_true.1 c5 q hq; simpa using this⟩
theorem dvs_len : ∀ (f p k : Nat) (acc D : List Nat), dvs f p k acc = some D → acc.length ≤ D.length
  | 0, _, _, _, _, h => by cases h
  | f + 1, p, k, acc, D, h => by
    unfold dvs at h
    split at h
    · cases h; exact Nat.le_refl _
    · split at h
      · cases h
      · have := dvs_len f (p + 1) _ _ D h
        split at this
        · rw [List.length_append] at this; simp at this; omega
        · exact this
theorem dvs_pre : ∀ (f p k : Nat) (acc D : List Nat), dvs f p k acc = some D → ∃ t, D = acc ++ t
  | 0, _, _, _, _, h => by cases h
  | f + 1, p, k, acc, D, h => by
    unfold dvs at h
    split at h
    · cases h; exact ⟨[], by simp⟩
    · split at h
      · cases h
      · obtain ⟨t, ht⟩ := dvs_pre f (p + 1) _ _ D h
        split at ht
        · exact ⟨[p] ++ t, by rw [ht, List.append_assoc]⟩
        · exact ⟨t, ht⟩
/-- One step of the search for divisors. -/
theorem dvs_step {f p k : Nat} {acc D : List Nat} (h : dvs f p k acc = some D) (hk : 1 < k) : ∃ f' k2, f = f' + 1 ∧ strip 14 p k = some k2 ∧ dvs f' (p + 1) k2 (if k % p = 0 then acc ++ [p] else acc) = some D := by
  cases f with
  | zero => cases h
  | succ f =>
    unfold dvs at h
    rw [if_neg (by omega)] at h
    cases hs : strip 14 p k with
    | none => rw [hs] at h; cases h
    | some k2 => rw [hs] at h; exact ⟨f, k2, rfl, rfl, h⟩
theorem dvs_end {f p k : Nat} {acc D : List Nat} (h : dvs f p k acc = some D) (hk : k ≤ 1) : acc = D := by
  cases f with
  | zero => cases h
  | succ f => unfold dvs at h; rw [if_pos hk] at h; exact Option.some.inj h
theorem strip_step {f p k K : Nat} (h : strip f p k = some K) (hk : k % p = 0) : ∃ f', f = f' + 1 ∧ strip f' p (k / p) = some K := by
  cases f with
  | zero => cases h
  | succ f => unfold strip at h; rw [if_pos hk] at h; exact ⟨f, rfl, h⟩
theorem strip_end {f p k K : Nat} (h : strip f p k = some K) (hk : k % p ≠ 0) : k = K := by
  cases f with
  | zero => cases h
  | succ f => unfold strip at h; rw [if_neg hk] at h; exact Option.some.inj h
theorem fnd_le : ∀ (n f : Nat) (D : List Nat) (F : Nat), fnd n f D = some F → f ≤ F
  | 0, _, _, _, h => by cases h
  | n + 1, f, D, F, h => by
    unfold fnd at h
    split at h
    · cases h; exact Nat.le_refl _
    · have := fnd_le n (f + 2) D F h; omega
theorem fnd_step {n f : Nat} {D : List Nat} {F : Nat} (h : fnd n f D = some F) (hc : cop f D = false) : f + 2 ≤ F ∧ ∃ n', fnd n' (f + 2) D = some F := by
  cases n with
  | zero => cases h
  | succ n => unfold fnd at h; rw [if_neg (by rw [hc]; decide)] at h; exact ⟨fnd_le _ _ _ _ h, n, h⟩
theorem fnd_end {n f : Nat} {D : List Nat} {F : Nat} (h : fnd n f D = some F) (hc : cop f D = true) : f = F := by
  cases n with
  | zero => cases h
  | succ n => unfold fnd at h; rw [if_pos hc] at h; exact Option.some.inj h
theorem fndG_le : ∀ (n f k F : Nat), fndG n f k = some F → f ≤ F
  | 0, _, _, _, h => by cases h
  | n + 1, f, k, F, h => by
    unfold fndG at h
    split at h
    · have := fndG_le n (f + 2) k F h; omega
    · cases h; exact Nat.le_refl _
theorem fndG_step {n f k F : Nat} (h : fndG n f k = some F) (hc : 1 < Nat.gcd f k) : f + 2 ≤ F ∧ ∃ n', fndG n' (f + 2) k = some F := by
  cases n with
  | zero => cases h
  | succ n => unfold fndG at h; rw [if_pos hc] at h; exact ⟨fndG_le _ _ _ _ h, n, h⟩
theorem fndG_end {n f k F : Nat} (h : fndG n f k = some F) (hc : ¬ 1 < Nat.gcd f k) : f = F := by
  cases n with
  | zero => cases h
  | succ n => unfold fndG at h; rw [if_neg hc] at h; exact Option.some.inj h
theorem foldl_mul (D : List Nat) : ∀ a, D.foldl (· * ·) a = a * prodL D := by
  induction D with
  | nil => intro a; simp [prodL]
  | cons d D ih => intro a; simp only [prodL, List.foldl_cons]; rw [ih, ih (1 * d)]; rw [Nat.one_mul, Nat.mul_assoc]
theorem prodL_app (a b : List Nat) : prodL (a ++ b) = prodL a * prodL b := by
  unfold prodL; rw [List.foldl_append, foldl_mul]; rfl
theorem prodL_pos {D : List Nat} (h : ∀ q ∈ D, 1 ≤ q) : 1 ≤ prodL D := by
  induction D with
  | nil => simp [prodL]
  | cons d D ih =>
    rw [show d :: D = [d] ++ D from rfl, prodL_app]
    have h1 := h d (by simp)
    have h2 := ih fun q hq => h q (by simp [hq])
    have : prodL [d] = d := by simp [prodL]
    rw [this]
    exact Nat.mul_pos h1 h2
theorem prodL_le {a t : List Nat} (h : ∀ q ∈ a ++ t, 1 ≤ q) : prodL a ≤ prodL (a ++ t) := by
  rw [prodL_app]
  exact Nat.le_mul_of_pos_right _ (prodL_pos fun q hq => h q (List.mem_append_right _ hq))
/-- The permutation. -/
def piN (k i : Nat) : Nat := (f1N k * i + f2N k * i % k * i) % k
def ordL (k : Nat) : List Int := (List.range k).map fun i => (piN k i : Int)
end Go.Proofs.Ytkagdiejpcfggaa
