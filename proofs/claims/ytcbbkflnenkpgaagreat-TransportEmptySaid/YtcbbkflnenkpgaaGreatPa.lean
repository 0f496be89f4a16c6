/-
  Block sizes and the layout of code blocks, in plain Lean. Condition: none.
-/
import Derived.WalkKit
namespace Go.Proofs.YtcbbkflnenkpgaaGreat
set_option linter.unusedVariables false
/-- block size number j -/
def SZ (j : Nat) : Nat := if j < 60 then 40 + 8 * j else if j < 92 then 528 + 16 * (j - 60) else if j < 124 then 1056 + 32 * (j - 92) else 2112 + 64 * (j - 124)
/-- k is a block size -/
def VK (k : Int) : Prop := (40 ≤ k ∧ k ≤ 512 ∧ k % 8 = 0) ∨ (528 ≤ k ∧ k ≤ 1024 ∧ k % 16 = 0) ∨ (1056 ≤ k ∧ k ≤ 2048 ∧ k % 32 = 0) ∨ (2112 ≤ k ∧ k ≤ 6144 ∧ k % 64 = 0)
instance (k : Int) : Decidable (VK k) := by unfold VK; infer_instance
theorem SZ_vk (j : Nat) (hj : j < 188) : VK (SZ j : Int) := by
  unfold VK SZ
  split
  · omega
  · split
    · omega
    · split <;> omega
theorem SZ_mono {i j : Nat} (h : i < j) : SZ i < SZ j := by
  unfold SZ
  repeat' split
  all_goals omega
theorem SZ_le {i j : Nat} (h : i ≤ j) : SZ i ≤ SZ j := by
  rcases Nat.lt_or_eq_of_le h with h | rfl
  · exact Nat.le_of_lt (SZ_mono h)
  · exact Nat.le_refl _
theorem SZ_gap {j : Nat} (hj : j + 1 < 188) : SZ (j + 1) ≤ SZ j + 64 := by
  unfold SZ
  repeat' split
  all_goals omega
theorem SZ_lo (j : Nat) : 40 ≤ SZ j := by
  unfold SZ
  repeat' split
  all_goals omega
theorem SZ_hi {j : Nat} (hj : j < 188) : SZ j ≤ 6144 := by
  unfold SZ
  repeat' split
  all_goals omega
/-- the number of sizes below n -/
def ix (n : Nat) : Nat := if n ≤ 40 then 0 else if n ≤ 512 then (n - 33) / 8 else if n ≤ 528 then 60 else if n ≤ 1024 then 60 + (n - 513) / 16 else if n ≤ 1056 then 92 else if n ≤ 2048 then 92 + (n - 1025) / 32 else if n ≤ 2112 then 124 else 124 + (n - 2049) / 64
theorem ix_lt {n : Nat} (h : n ≤ 6144) : ix n < 188 := by
  unfold ix
  repeat' split
  all_goals omega
theorem ix_ge {n : Nat} (h : n ≤ 6144) : n ≤ SZ (ix n) := by
  unfold ix
  repeat' split
  all_goals (unfold SZ; repeat' split)
  all_goals omega
theorem ix_below {n j : Nat} (hj : j < ix n) (h : n ≤ 6144) : SZ j < n := by
  have h1 : SZ (ix n - 1) < n := by
    have h0 : 0 < ix n := by omega
    revert h0
    unfold ix
    repeat' split
    all_goals intro h0
    all_goals (unfold SZ; repeat' split)
    all_goals omega
  exact Nat.lt_of_le_of_lt (SZ_le (by omega)) h1
theorem ix_pos {n : Nat} (h : 40 < n) : 0 < ix n := by
  unfold ix
  repeat' split
  all_goals omega
theorem vk_SZ {k : Int} (h : VK k) : ∃ j, j < 188 ∧ k = (SZ j : Int) := by
  unfold VK at h
  rcases h with ⟨h1, h2, h3⟩ | ⟨h1, h2, h3⟩ | ⟨h1, h2, h3⟩ | ⟨h1, h2, h3⟩
  · refine ⟨((k - 40) / 8).toNat, by omega, ?_⟩
    unfold SZ; repeat' split
    all_goals omega
  · refine ⟨60 + ((k - 528) / 16).toNat, by omega, ?_⟩
    unfold SZ; repeat' split
    all_goals omega
  · refine ⟨92 + ((k - 1056) / 32).toNat, by omega, ?_⟩
    unfold SZ; repeat' split
    all_goals omega
  · refine ⟨124 + ((k - 2112) / 64).toNat, by omega, ?_⟩
    unfold SZ; repeat' split
    all_goals omega
/-- the least block size that is at least n -/
def nx (n : Nat) : Nat := SZ (ix n)
theorem nx_not {n : Nat} {k : Int} (hn : n ≤ 6144) (h1 : (n : Int) ≤ k) (h2 : k < (nx n : Int)) : ¬ VK k := by
  intro h
  obtain ⟨j, hj, rfl⟩ := vk_SZ h
  rcases Nat.lt_or_ge j (ix n) with h3 | h3
  · have := ix_below h3 hn; omega
  · have := SZ_le h3; unfold nx at h2; omega
theorem nx_vk {n : Nat} (hn : n ≤ 6144) : VK (nx n : Int) := SZ_vk _ (ix_lt hn)
theorem nx_ge {n : Nat} (hn : n ≤ 6144) : n ≤ nx n := ix_ge hn
theorem nx_le {n : Nat} (hn : n ≤ 6144) : nx n ≤ 6144 := SZ_hi (ix_lt hn)
/-- the greatest block size below the least one that is at least n -/
def pv (n : Nat) : Nat := SZ (ix n - 1)
theorem pv_lt {n : Nat} (hn : n ≤ 6144) (h : 40 < n) : pv n < n := ix_below (by have := ix_pos h; omega) hn
theorem pv_vk {n : Nat} (hn : n ≤ 6144) : VK (pv n : Int) := SZ_vk _ (by have := ix_lt hn; omega)
theorem pv_gap {n : Nat} (hn : n ≤ 6144) (h : 40 < n) : nx n ≤ pv n + 64 := by
  have h1 := ix_pos h
  have h2 := ix_lt hn
  have := SZ_gap (j := ix n - 1) (by omega)
  rw [show ix n - 1 + 1 = ix n by omega] at this
  exact this
theorem pv_not {n : Nat} {k : Int} (hn : n ≤ 6144) (h : 40 < n) (h1 : (pv n : Int) < k) (h2 : k < (nx n : Int)) : ¬ VK k := by
  intro hk
  obtain ⟨j, hj, rfl⟩ := vk_SZ hk
  have h0 := ix_pos h
  rcases Nat.lt_or_ge j (ix n) with h3 | h3
  · have : SZ j ≤ pv n := SZ_le (by omega)
    omega
  · have := SZ_le h3; unfold nx at h2; omega

/-! ### The layout -/
def bC (b : Nat) : Nat := if b ≤ 6144 then 1 else (b + 6119) / 6120
def ck (b : Nat) : Nat := if b ≤ 6144 then 0 else 24
def tl (b : Nat) : Nat := b + bC b * ck b
def av (b : Nat) : Nat := (tl b + bC b - 1) / bC b
def lo (b : Nat) : Nat := nx (av b)
def sh (b : Nat) : Nat := if b ≤ 6144 then 0 else pv (av b)
def shs (b : Nat) : Nat := if b ≤ 6144 then 0 else (bC b * lo b - tl b) / (lo b - sh b)
def los (b : Nat) : Nat := bC b - shs b
def fi (b : Nat) : Nat := los b * lo b + shs b * sh b - tl b
/-- size of block i -/
def sz (b i : Nat) : Nat := if i < shs b then sh b else lo b
theorem bC_pos {b : Nat} : 1 ≤ bC b := by unfold bC; split <;> omega
theorem bC_le {b : Nat} (hb : b ≤ 79560) : bC b ≤ 13 := by unfold bC; split <;> omega
theorem bC_one {b : Nat} (h : b ≤ 6144) : bC b = 1 := by unfold bC; rw [if_pos h]
theorem bC_two {b : Nat} (h : ¬ b ≤ 6144) : 2 ≤ bC b := by unfold bC; rw [if_neg h]; omega
theorem av_one {b : Nat} (h : b ≤ 6144) : av b = b := by unfold av tl; rw [bC_one h]; unfold ck; rw [if_pos h]; omega
theorem av_le {b : Nat} : av b ≤ 6144 := by
  by_cases h : b ≤ 6144
  · rw [av_one h]; exact h
  · have h2 := bC_two h
    unfold av
    have h3 : b ≤ 6120 * bC b := by unfold bC; rw [if_neg h]; omega
    have h4 : tl b ≤ 6144 * bC b := by unfold tl ck; rw [if_neg h]; omega
    rw [← Nat.lt_succ_iff, Nat.div_lt_iff_lt_mul (by omega)]
    omega
theorem av_big {b : Nat} (h : ¬ b ≤ 6144) : 3000 < av b := by
  have h2 := bC_two h
  have h3 : 6120 * (bC b - 1) ≤ b + 6119 - 6120 := by unfold bC; rw [if_neg h]; omega
  have h4 : 3001 * bC b ≤ tl b := by unfold tl ck; rw [if_neg h]; omega
  unfold av
  have : 3001 ≤ (tl b + bC b - 1) / bC b := by rw [Nat.le_div_iff_mul_le (by omega)]; omega
  omega
theorem av_mul {b : Nat} : tl b ≤ av b * bC b ∧ (1 ≤ b → (av b - 1) * bC b < tl b) := by
  have h := @bC_pos b
  unfold av
  have h1 := Nat.div_add_mod (tl b + bC b - 1) (bC b)
  have h2 := Nat.mod_lt (tl b + bC b - 1) (show bC b > 0 by omega)
  have h3 : bC b * ((tl b + bC b - 1) / bC b) = (tl b + bC b - 1) / bC b * bC b := Nat.mul_comm _ _
  have h4 : 0 < tl b ∨ b = 0 := by unfold tl; omega
  constructor
  · omega
  · intro hb
    rw [Nat.sub_mul, Nat.one_mul]; omega
theorem lo_ge {b : Nat} : av b ≤ lo b := nx_ge av_le
theorem lo_le {b : Nat} : lo b ≤ 6144 := nx_le av_le
theorem sh_lt {b : Nat} (h : ¬ b ≤ 6144) : sh b < av b ∧ lo b ≤ sh b + 64 ∧ 2000 < sh b := by
  have h1 := av_big h
  have h2 := @av_le b
  unfold sh lo
  rw [if_neg h]
  have h3 := pv_lt h2 (by omega)
  have h4 := pv_gap h2 (by omega)
  have h5 := nx_ge h2
  omega
theorem sh_le {b : Nat} : sh b ≤ lo b := by
  by_cases h : b ≤ 6144
  · unfold sh; rw [if_pos h]; omega
  · have := sh_lt h; have := @lo_ge b; omega
theorem tl_le {b : Nat} : tl b ≤ bC b * lo b := by
  have h1 := (@av_mul b).1
  have h2 := Nat.mul_le_mul_right (bC b) (@lo_ge b)
  rw [Nat.mul_comm (bC b)]; omega
theorem shs_lt {b : Nat} (hb : 1 ≤ b) : shs b < bC b := by
  unfold shs
  split
  · exact bC_pos
  · rename_i h
    have h1 := sh_lt h
    have h2 := @lo_ge b
    rw [Nat.div_lt_iff_lt_mul (by omega)]
    have h3 := (@av_mul b).2 hb
    have h4 : sh b * bC b ≤ (av b - 1) * bC b := Nat.mul_le_mul_right _ (by omega)
    rw [Nat.mul_sub, Nat.mul_comm (bC b) (sh b)]
    have h5 : sh b * bC b ≤ bC b * lo b := by rw [Nat.mul_comm]; exact Nat.mul_le_mul_left _ sh_le
    have h6 := @tl_le b
    omega
theorem sum_eq {b : Nat} (hb : 1 ≤ b) : los b * lo b + shs b * sh b = bC b * lo b - shs b * (lo b - sh b) := by
  have h1 := shs_lt hb
  have h2 := @sh_le b
  unfold los
  have h3 : shs b * lo b ≤ bC b * lo b := Nat.mul_le_mul_right _ (by omega)
  have h4 : shs b * sh b ≤ shs b * lo b := Nat.mul_le_mul_left _ h2
  rw [Nat.sub_mul, Nat.mul_sub]; omega
theorem shs_mul {b : Nat} (hb : 1 ≤ b) : shs b * (lo b - sh b) + tl b ≤ bC b * lo b ∧ (¬ b ≤ 6144 → bC b * lo b < shs b * (lo b - sh b) + tl b + (lo b - sh b)) := by
  have h0 := @tl_le b
  by_cases h : b ≤ 6144
  · refine ⟨?_, fun h' => absurd h h'⟩
    have : shs b = 0 := by unfold shs; rw [if_pos h]
    rw [this]; omega
  · have h1 := sh_lt h
    have h2 := @lo_ge b
    have e : shs b = (bC b * lo b - tl b) / (lo b - sh b) := by unfold shs; rw [if_neg h]
    have h3 := Nat.div_add_mod (bC b * lo b - tl b) (lo b - sh b)
    have h4 := Nat.mod_lt (bC b * lo b - tl b) (show lo b - sh b > 0 by omega)
    rw [← e, Nat.mul_comm] at h3
    omega
theorem fi_eq {b : Nat} (hb : 1 ≤ b) : tl b + fi b = los b * lo b + shs b * sh b := by
  have h1 := shs_mul hb
  have h2 := sum_eq hb
  unfold fi; omega
theorem fi_lt {b : Nat} (hb : 1 ≤ b) (hb2 : b ≤ 79560) : fi b < 64 := by
  have h1 := shs_mul hb
  have h2 := sum_eq hb
  have h3 := fi_eq hb
  by_cases h : b ≤ 6144
  · have e1 : shs b = 0 := by unfold shs; rw [if_pos h]
    have e2 : bC b = 1 := bC_one h
    have e3 : tl b = b := by unfold tl ck; rw [if_pos h]; omega
    have e4 : lo b ≤ (if b ≤ 40 then 40 else b + 63) := by
      unfold lo; rw [av_one h]
      split
      · rename_i h9
        have : ix b = 0 := by unfold ix; rw [if_pos h9]
        unfold nx; rw [this]; decide
      · have := pv_gap h (by omega); have := pv_lt h (by omega); omega
    unfold los at h3
    rw [e1, e2, e3] at h3
    split at e4 <;> omega
  · have := sh_lt h
    have := h1.2 h
    omega
theorem sz_ge {b i : Nat} (hb : 1 ≤ b) : ck b + (if i = 0 then fi b else 0) < sz b i ∧ sz b i ≤ 6144 := by
  have h3 := @lo_le b
  have h4 := @sh_le b
  by_cases h : b ≤ 6144
  · have e1 : shs b = 0 := by unfold shs; rw [if_pos h]
    have e2 : bC b = 1 := bC_one h
    have e3 : tl b = b := by unfold tl ck; rw [if_pos h]; omega
    have h5 := fi_eq hb
    unfold los at h5
    rw [e1, e2, e3] at h5
    have h6 := @lo_ge b
    rw [av_one h] at h6
    unfold sz; rw [e1]
    have e4 : ck b = 0 := by unfold ck; rw [if_pos h]
    rw [e4]
    simp only [Nat.not_lt_zero, if_false]
    split <;> omega
  · have e4 : ck b = 24 := by unfold ck; rw [if_neg h]
    have := sh_lt h
    have h7 := (shs_mul hb).2 h
    have h8 := fi_eq hb
    have h9 := sum_eq hb
    unfold sz
    split <;> split <;> omega
end Go.Proofs.YtcbbkflnenkpgaaGreat
