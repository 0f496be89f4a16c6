/-
  The specification's remainder by long division is the checksum. Condition: none.
-/
import Derived.Test.YtcbbkflnenkpgaaGreatQ
namespace Go.Proofs.YtcbbkflnenkpgaaGreat
open Go.RowKit CM
set_option linter.unusedVariables false
/-- one bit into the remainder -/
def dv (L p r : Nat) (b : Bool) : Nat := if 2 ^ L ≤ 2 * r + b.toNat then (2 * r + b.toNat) ^^^ (2 ^ L + p) else 2 * r + b.toNat
def dvr (L p r : Nat) (bs : List Bool) : Nat := bs.foldl (dv L p) r
theorem dvr_snoc (L p r : Nat) (bs : List Bool) (b : Bool) : dvr L p r (bs ++ [b]) = dv L p (dvr L p r bs) b := by simp [dvr]
theorem dvr_app (L p r : Nat) (a b : List Bool) : dvr L p r (a ++ b) = dvr L p (dvr L p r a) b := by simp [dvr]
theorem two_bit (r : Nat) (b : Bool) (j : Nat) : (2 * r + b.toNat).testBit j = if j = 0 then b else r.testBit (j - 1) := by
  cases j with
  | zero => simp [Nat.testBit_zero]; cases b <;> simp <;> omega
  | succ j =>
    rw [if_neg (by omega), Nat.testBit_succ, Nat.add_sub_cancel]
    congr 1
    cases b <;> simp <;> omega
theorem tb_add {L p : Nat} (hp : p < 2 ^ L) (j : Nat) : (2 ^ L + p).testBit j = (decide (L = j) || p.testBit j) := by
  by_cases h : L = j
  · subst h
    rw [Nat.testBit_two_pow_add_eq, Nat.testBit_lt_two_pow hp]; simp
  · by_cases h2 : j < L
    · rw [Nat.testBit_two_pow_add_gt h2]; simp [h]
    · have h3 : p.testBit j = false := Nat.testBit_lt_two_pow (Nat.lt_of_lt_of_le hp (Nat.pow_le_pow_right (by decide) (by omega)))
      rw [Nat.testBit_lt_two_pow (Nat.lt_of_lt_of_le (show 2 ^ L + p < 2 ^ (L + 1) by rw [Nat.pow_succ]; omega) (Nat.pow_le_pow_right (by decide) (by omega))), h3]; simp [h]
theorem dv_st {L p r : Nat} (hL : 1 ≤ L) (hp : p < 2 ^ L) (hr : r < 2 ^ L) (b : Bool) : dv L p r b = st L p r false ^^^ b.toNat := by
  have hpw : 2 ^ L = 2 * 2 ^ (L - 1) := by rw [← Nat.pow_succ']; congr 1; omega
  have htop : r.testBit (L - 1) = decide (2 ^ L ≤ 2 * r + b.toNat) := by
    have h1 : b.toNat ≤ 1 := by cases b <;> simp
    by_cases h : 2 ^ (L - 1) ≤ r
    · have : r.testBit (L - 1) = true := by
        rw [Nat.testBit_eq_decide_div_mod_eq]
        have h2 : r / 2 ^ (L - 1) = 1 := by
          rw [Nat.div_eq_iff (Nat.two_pow_pos _)]; omega
        rw [h2]; rfl
      rw [this]; symm; rw [decide_eq_true_eq]; omega
    · rw [Nat.testBit_lt_two_pow (by omega)]; symm; rw [decide_eq_false_iff_not]; omega
  apply Nat.eq_of_testBit_eq
  intro j
  rw [Nat.testBit_xor, st_bit, htop]
  unfold dv
  have hb : b.toNat.testBit j = (decide (j = 0) && b) := by
    cases b
    · simp
    · cases j <;> simp [Nat.testBit_succ]
  rw [hb]
  by_cases h : 2 ^ L ≤ 2 * r + b.toNat
  · rw [if_pos h, decide_eq_true h, Nat.testBit_xor, two_bit, tb_add hp]
    by_cases hj : j = 0
    · subst hj
      have : ¬ (L = 0) := by omega
      simp [this]
      cases b <;> cases p.testBit 0 <;> simp <;> omega
    · rw [if_neg hj]
      by_cases hjL : j < L
      · simp [hj, hjL, show 1 ≤ j by omega, show ¬ (L = j) by omega]
      · have h3 : p.testBit j = false := Nat.testBit_lt_two_pow (Nat.lt_of_lt_of_le hp (Nat.pow_le_pow_right (by decide) (by omega)))
        by_cases hjL2 : j = L
        · subst hjL2
          rw [htop, decide_eq_true h, h3]; simp [hj]
        · have h4 : r.testBit (j - 1) = false := Nat.testBit_lt_two_pow (Nat.lt_of_lt_of_le hr (Nat.pow_le_pow_right (by decide) (by omega)))
          rw [h3, h4]; simp [hj, show ¬ (L = j) by omega]
  · rw [if_neg h, decide_eq_false h, two_bit]
    by_cases hj : j = 0
    · subst hj; simp
    · rw [if_neg hj]
      by_cases hjL : j < L
      · simp [hj, hjL, show 1 ≤ j by omega]
      · by_cases hjL2 : j = L
        · subst hjL2
          rw [htop, decide_eq_false h]; simp [hj]
        · have h4 : r.testBit (j - 1) = false := Nat.testBit_lt_two_pow (Nat.lt_of_lt_of_le hr (Nat.pow_le_pow_right (by decide) (by omega)))
          rw [h4]; simp [hj, hjL]
theorem dv_lt {L p r : Nat} (hL : 1 ≤ L) (hp : p < 2 ^ L) (hr : r < 2 ^ L) (b : Bool) : dv L p r b < 2 ^ L := by
  rw [dv_st hL hp hr]
  refine Nat.xor_lt_two_pow (st_lt hp _ _) ?_
  have : 2 ^ 1 ≤ 2 ^ L := Nat.pow_le_pow_right (by decide) hL
  cases b <;> simp <;> omega
theorem dvr_lt {L p : Nat} (hL : 1 ≤ L) (hp : p < 2 ^ L) : ∀ (bs : List Bool) (r : Nat), r < 2 ^ L → dvr L p r bs < 2 ^ L
  | [], _, h => h
  | x :: bs, r, h => dvr_lt hL hp bs _ (dv_lt hL hp h x)
theorem dvr_zeros {L p : Nat} (hL : 1 ≤ L) (hp : p < 2 ^ L) (m : Nat) : ∀ r, r < 2 ^ L → dvr L p r (List.replicate m false) = run L p r (List.replicate m false) := by
  induction m with
  | zero => intro r _; rfl
  | succ m ih =>
    intro r hr
    rw [List.replicate_succ, run_cons]
    show dvr L p (dv L p r false) _ = _
    have e : dv L p r false = st L p r false := by rw [dv_st hL hp hr]; simp
    rw [e]
    exact ih _ (st_lt hp _ _)
theorem run_dvr {L p : Nat} (hL : 1 ≤ L) (hp : p < 2 ^ L) (h1 : run L p 1 (List.replicate L false) = p) (m : List Bool) : ∀ n, n ≤ m.length → run L p 0 (m.take n) = run L p (dvr L p 0 (m.take n)) (List.replicate L false)
  | 0, _ => by simp only [List.take_zero]; show run L p 0 [] = run L p 0 _; rw [run_zero_zeros]; rfl
  | n + 1, hn => by
    have ih := run_dvr hL hp h1 m n (by omega)
    have hr : dvr L p 0 (m.take n) < 2 ^ L := dvr_lt hL hp _ _ (Nat.two_pow_pos L)
    rw [List.take_succ_eq_append_getElem (by omega), run_append, dvr_snoc, ih, dv_st hL hp hr]
    generalize dvr L p 0 (m.take n) = R at *
    generalize m[n] = b
    have e1 : run L p (st L p R false ^^^ b.toNat) (List.replicate L false) = run L p (st L p R false) (List.replicate L false) ^^^ run L p b.toNat (List.replicate L false) := by
      have := run_xor (L := L) (p := p) (List.replicate L false) (List.replicate L false) (st L p R false) b.toNat rfl
      rwa [zip_self, List.length_replicate] at this
    have e2 : run L p (st L p R false) (List.replicate L false) = st L p (run L p R (List.replicate L false)) false := by
      have : run L p R (false :: List.replicate L false) = run L p R (List.replicate L false ++ [false]) := by
        rw [← List.replicate_succ, ← List.replicate_succ']
      rw [run_cons, run_append] at this
      exact this
    have e3 : run L p b.toNat (List.replicate L false) = st L p 0 b := by
      cases b
      · show run L p 0 _ = _
        rw [run_zero_zeros]; simp [st]
      · show run L p 1 _ = _
        rw [h1]; simp [st]
    have e4 := st_xor (L := L) (p := p) (run L p R (List.replicate L false)) 0 false b
    rw [Nat.xor_zero, Bool.false_xor] at e4
    rw [e1, e2, e3, ← e4]
    rfl
theorem dvr_run (m : List Bool) : dvr 24 0x800063 0 (m ++ List.replicate 24 false) = run 24 0x800063 0 m := by
  have h := run_dvr (L := 24) (p := 0x800063) (by decide) (by decide) (by decide +kernel) m m.length (Nat.le_refl _)
  rw [List.take_length] at h
  rw [dvr_app, dvr_zeros (by decide) (by decide) _ _ (dvr_lt (by decide) (by decide) _ _ (by decide)), h]
/-- THE SPECIFICATION's remainder is the checksum. -/
theorem dvr_sum (bs : List Bool) : (bitsOf 24 (dvr 24 0x800063 0 (bs ++ List.replicate 24 false))).map ib = crcSum 2 (bs.map ib) := by
  rw [crcSum_bits (by decide), dvr_run]; rfl
end Go.Proofs.YtcbbkflnenkpgaaGreat
