/-
  The theorem of the stage in plain Lean: equal magnitudes, at most two wrong signs. Condition: none.
-/
import Derived.Test.YtmdjclfmhndjnaaEd
namespace Go.Proofs.Ytmdjclfmhndjnaa
open Go.RowKit
set_option linter.unusedVariables false
/-- the magnitude with the sign of place q -/
def sgM (M : Int) (x y q : Nat) : Int := if q = x ∨ q = y then -M else M
def lossM (M : Int) (n e i : Nat) : Int := (if e < i then 2 * M else 0) + (if n ≤ e ∧ e < n + i then 2 * M else 0)
def oZ (M : Int) (k x y : Nat) : Ob := ⟨(List.range (k + 3)).map (sgM M x y), (List.range (k + 3)).map (fun j => sgM M x y (k + 3 + j)), List.replicate k 0⟩
theorem gi_zero (k j : Nat) : gi (List.replicate k (0 : Int)) j = 0 := by
  unfold gi
  rw [List.getD_eq_getElem?_getD, List.getElem?_replicate]
  split <;> rfl
theorem sgM_bd {M : Int} (hM : 1 ≤ M ∧ M ≤ 127) (x y q : Nat) : -M ≤ sgM M x y q ∧ sgM M x y q ≤ M := by unfold sgM; split <;> omega
theorem oZ_x (M : Int) (k x y i : Nat) (hi : i < k + 3) : (oZ M k x y).x i = sgM M x y i := by
  unfold Ob.x oZ
  dsimp only
  rw [gi_zero, gi_range _ hi, Int.add_zero, ite_self]
theorem oZ_p (M : Int) (k x y i : Nat) (hi : i < k + 3) : gi (oZ M k x y).p i = sgM M x y (k + 3 + i) := gi_range _ hi
theorem oZ_len (M : Int) (k x y : Nat) : (oZ M k x y).s.length = k + 3 := by simp [oZ]
theorem oZ_ok {M : Int} (hM : 1 ≤ M ∧ M ≤ 127) {k : Nat} (hk : 1 ≤ k ∧ k ≤ 200) (x y : Nat) : (oZ M k x y).ok := by
  refine ⟨by simp [oZ]; omega, by simp [oZ]; omega, by simp [oZ], by simp [oZ], ?_, ?_, ?_⟩ <;> intro v hv
  · obtain ⟨j, -, rfl⟩ := List.mem_map.1 hv
    have := sgM_bd hM x y j
    omega
  · obtain ⟨j, -, rfl⟩ := List.mem_map.1 hv
    have := sgM_bd hM x y (k + 3 + j)
    omega
  · have := List.eq_of_mem_replicate hv
    omega
theorem oZ_Z {M : Int} (hM : 1 ≤ M ∧ M ≤ 127) (k x y : Nat) : ∀ i, i ≤ k + 3 → 2 * (M * (i : Int)) - lossM M (k + 3) x i - lossM M (k + 3) y i ≤ (oZ M k x y).Z i
  | 0, _ => by
    have hx : lossM M (k + 3) x 0 = 0 := by unfold lossM; rw [if_neg (by omega), if_neg (by omega)]; rfl
    have hy : lossM M (k + 3) y 0 = 0 := by unfold lossM; rw [if_neg (by omega), if_neg (by omega)]; rfl
    rw [hx, hy]
    simp [Ob.Z]
  | i + 1, hi => by
    have ih := oZ_Z hM k x y i (by omega)
    have e1 : M * ((i + 1 : Nat) : Int) = M * (i : Int) + M := by push_cast; rw [Int.mul_add, Int.mul_one]
    have step : ∀ e, lossM M (k + 3) e (i + 1) = lossM M (k + 3) e i + (if e = i then 2 * M else 0) + (if e = k + 3 + i then 2 * M else 0) := fun e => by
      unfold lossM
      by_cases h1 : e < i <;> by_cases h2 : e = i <;> by_cases h3 : k + 3 ≤ e ∧ e < k + 3 + i <;> by_cases h4 : e = k + 3 + i
      all_goals first
        | omega
        | (simp only [h1, h2, h3, h4, if_true, if_false, show (e < i + 1) = (e < i ∨ e = i) from by apply propext; omega, show (k + 3 ≤ e ∧ e < k + 3 + (i + 1)) = ((k + 3 ≤ e ∧ e < k + 3 + i) ∨ e = k + 3 + i) from by apply propext; omega]; split <;> split <;> omega)
        | skip
    simp only [Ob.Z]
    rw [oZ_x M k x y i (by omega), oZ_p M k x y i (by omega), e1, step x, step y]
    unfold sgM
    generalize lossM M (k + 3) x i = lx at *
    generalize lossM M (k + 3) y i = ly at *
    generalize M * (i : Int) = mi at *
    by_cases h1 : x = i <;> by_cases h2 : y = i <;> by_cases h3 : x = k + 3 + i <;> by_cases h4 : y = k + 3 + i
    all_goals first
      | omega
      | (rw [if_pos (by omega), if_pos (by omega)]; simp only [h1, h2, h3, h4, if_true, if_false]; omega)
      | skip
theorem oZ_hol {M : Int} (hM : 1 ≤ M ∧ M ≤ 127) {k : Nat} (hk : 1 ≤ k ∧ k ≤ 200) (x y : Nat) : Hol (oZ M k x y) M := by
  refine ⟨oZ_ok hM hk x y, hM, fun i hi => ?_, fun i hi => ?_, ?_⟩
  · rw [oZ_len] at hi; rw [oZ_x M k x y i hi]; exact sgM_bd hM _ _ _
  · rw [oZ_len] at hi; rw [oZ_p M k x y i hi]; exact sgM_bd hM _ _ _
  · have h := oZ_Z hM k x y (k + 3) (Nat.le_refl _)
    rw [oZ_len, Int.mul_assoc]
    have l : ∀ e, lossM M (k + 3) e (k + 3) ≤ 2 * M := fun e => by
      unfold lossM
      split <;> split <;> omega
    have := l x
    have := l y
    omega
theorem holds_plain {M : Int} (hM : 1 ≤ M ∧ M ≤ 127) {k : Nat} (hk : 1 ≤ k ∧ k ≤ 200) (x y : Nat) {bs : List Bool} (hb : bs.length = k) (o : Ob) (hs : o.s.length = k + 3) (hp : o.p.length = k + 3) (ha : o.a = List.replicate k 0)
    (h1 : ∀ j, j < k + 3 → gi o.s j = sgM M x y j * (1 - 2 * (bq ((inW bs).getD j false) : Int)))
    (h2 : ∀ j, j < k + 3 → gi o.p j = sgM M x y (k + 3 + j) * (1 - 2 * (bq ((outW bs).getD j false) : Int))) : o.ok ∧ o.dB = bs.map ib := by
  have hok := oZ_ok hM hk x y
  have hk2 : bs.length = (oZ M k x y).a.length := by rw [hb]; simp [oZ]
  have e : o = (oZ M k x y).turn bs := by
    have q1 : o.s = flp (oZ M k x y).s (inW bs) := ext_gi (by rw [flp_len, oZ_len, hs]) fun j hj => by
      rw [hs] at hj
      rw [gi_flp, h1 j hj]
      congr 1
      exact (gi_range _ hj).symm
    have q2 : o.p = flp (oZ M k x y).p (outW bs) := ext_gi (by rw [flp_len, hp]; simp [oZ]) fun j hj => by
      rw [hp] at hj
      rw [gi_flp, h2 j hj, oZ_p M k x y j hj]
    have q3 : o.a = flp (oZ M k x y).a bs := ext_gi (by rw [flp_len, ha]; simp [oZ]) fun j hj => by
      rw [gi_flp, ha]
      show _ = gi (List.replicate k 0) j * _
      rw [gi_zero, Int.zero_mul]
    unfold Ob.turn
    rw [← q1, ← q2, ← q3]
  rw [e]
  refine ⟨turn_ok hok bs, ?_⟩
  have ht := turn_tn hok hk2
  have hh := oZ_hol hM hk x y
  have hal : ((oZ M k x y).turn bs).a.length = k := by show (flp _ _).length = k; rw [flp_len]; simp [oZ]
  unfold Ob.dB
  rw [if_pos (turn_ok hok bs), hal]
  refine ext_gi (by simp [hb]) fun j hj => ?_
  have hj : j < k := by simpa using hj
  rw [gi_range _ hj, gi_ib bs j (by omega)]
  unfold Ob.bT
  rw [ht.tot j (by rw [oZ_len]; omega)]
  have hpos := hh.tot j (by rw [oZ_len]; omega)
  have hbt : (cW bs j).bt = bq (bs[j]'(by omega)) := by
    show bq ((inW bs).getD j false) = _
    rw [inW_lo bs j (by omega)]
    simp [List.getD, show j < bs.length from by omega]
  rw [hbt]
  generalize bs[j]'_ = b
  cases b
  · show (if (oZ M k x y).tot j * (1 - 2 * 0) < 0 then (1 : Int) else 0) = 0
    rw [if_neg (by omega)]
  · show (if (oZ M k x y).tot j * (1 - 2 * 1) < 0 then (1 : Int) else 0) = 1
    rw [if_pos (by omega)]
end Go.Proofs.Ytmdjclfmhndjnaa
