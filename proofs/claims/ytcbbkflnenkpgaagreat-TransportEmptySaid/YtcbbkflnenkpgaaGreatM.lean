import Derived.Laws.BitsAllLaws
import Derived.Laws.BitsLemmas
namespace Go.Proofs.YtcbbkflnenkpgaaGreat.CM
/-! Plain arithmetic of the checksum: no program in sight. -/
/-- One bit into the register. -/
def st (L p r : Nat) (b : Bool) : Nat := ((2 * r) % 2 ^ L) ^^^ (if (r.testBit (L - 1)) ^^ b then p else 0)
def run (L p r : Nat) (bs : List Bool) : Nat := bs.foldl (st L p) r
theorem run_append (L p r : Nat) (a b : List Bool) : run L p r (a ++ b) = run L p (run L p r a) b := by simp [run]
theorem run_cons (L p r : Nat) (x : Bool) (b : List Bool) : run L p r (x :: b) = run L p (st L p r x) b := rfl
theorem tb_mul (x i j : Nat) : (x * 2 ^ i).testBit j = (decide (i ≤ j) && x.testBit (j - i)) := by rw [← Nat.shiftLeft_eq, Nat.testBit_shiftLeft]
section
variable {L p : Nat}
theorem st_bit (r : Nat) (b : Bool) (j : Nat) : (st L p r b).testBit j = ((decide (j < L) && decide (1 ≤ j) && r.testBit (j - 1)) ^^ (((r.testBit (L - 1)) ^^ b) && p.testBit j)) := by
  unfold st
  rw [Nat.testBit_xor, Nat.testBit_mod_two_pow]
  have h2 : (2 * r).testBit j = (decide (1 ≤ j) && r.testBit (j - 1)) := by
    have := tb_mul r 1 j
    rw [Nat.mul_comm]; simpa using this
  rw [h2]
  cases h : (r.testBit (L - 1) ^^ b) <;> simp [Bool.and_assoc]
theorem st_xor (r s : Nat) (b c : Bool) : st L p (r ^^^ s) (b ^^ c) = st L p r b ^^^ st L p s c := by
  apply Nat.eq_of_testBit_eq
  intro j
  rw [Nat.testBit_xor, st_bit, st_bit, st_bit, Nat.testBit_xor, Nat.testBit_xor]
  cases r.testBit (j - 1) <;> cases s.testBit (j - 1) <;> cases r.testBit (L - 1) <;> cases s.testBit (L - 1) <;> cases b <;> cases c <;> cases decide (j < L) <;> cases decide (1 ≤ j) <;> cases p.testBit j <;> rfl
theorem run_xor : ∀ (a b : List Bool) (r s : Nat), a.length = b.length → run L p (r ^^^ s) (List.zipWith Bool.xor a b) = run L p r a ^^^ run L p s b
  | [], [], _, _, _ => rfl
  | x :: a, y :: b, r, s, h => by
    simp only [List.zipWith_cons_cons, run_cons]
    have : st L p (r ^^^ s) (Bool.xor x y) = st L p r x ^^^ st L p s y := st_xor r s x y
    rw [this]
    exact run_xor a b _ _ (by simpa using h)
theorem st_lt (hp : p < 2 ^ L) (r : Nat) (b : Bool) : st L p r b < 2 ^ L := by
  unfold st
  refine Nat.xor_lt_two_pow (Nat.mod_lt _ (Nat.two_pow_pos L)) ?_
  split
  · exact hp
  · exact Nat.two_pow_pos L
theorem run_lt (hp : p < 2 ^ L) : ∀ (bs : List Bool) (r : Nat), r < 2 ^ L → run L p r bs < 2 ^ L
  | [], _, h => h
  | x :: bs, r, _ => run_lt hp bs _ (st_lt hp r x)
/-- The bits of a register, the most significant first. -/
def bitsOf (L r : Nat) : List Bool := (List.range L).map fun t => r.testBit (L - 1 - t)
theorem bitsOf_len (L r : Nat) : (bitsOf L r).length = L := by simp [bitsOf]
theorem bitsOf_inj {r s : Nat} (hr : r < 2 ^ L) (hs : s < 2 ^ L) (h : bitsOf L r = bitsOf L s) : r = s := by
  apply Nat.eq_of_testBit_eq
  intro j
  by_cases hj : j < L
  · have h1 : (bitsOf L r)[L - 1 - j]? = (bitsOf L s)[L - 1 - j]? := by rw [h]
    simp only [bitsOf, List.getElem?_map, List.getElem?_range (show L - 1 - j < L by omega), Option.map_some, Option.some.injEq] at h1
    rwa [show L - 1 - (L - 1 - j) = j by omega] at h1
  · rw [Nat.testBit_lt_two_pow (Nat.lt_of_lt_of_le hr (Nat.pow_le_pow_right (by decide) (by omega))), Nat.testBit_lt_two_pow (Nat.lt_of_lt_of_le hs (Nat.pow_le_pow_right (by decide) (by omega)))]
theorem bitsOf_xor (r s : Nat) : bitsOf L (r ^^^ s) = List.zipWith Bool.xor (bitsOf L r) (bitsOf L s) := by
  simp [bitsOf, List.zipWith_map, List.zipWith_self, Nat.testBit_xor]
/-- A list of L bits is the bits of a number. -/
def val : List Bool → Nat
  | [] => 0
  | b :: bs => (if b then 2 ^ bs.length else 0) + val bs
theorem val_lt : ∀ bs : List Bool, val bs < 2 ^ bs.length
  | [] => by simp [val]
  | b :: bs => by
    have := val_lt bs
    simp only [val, List.length_cons, Nat.pow_succ]
    split <;> omega
theorem bitsOf_val : ∀ bs : List Bool, bitsOf bs.length (val bs) = bs
  | [] => rfl
  | b :: bs => by
    have ih := bitsOf_val bs
    have hlt := val_lt bs
    unfold bitsOf at *
    rw [List.length_cons, List.range_succ_eq_map, List.map_cons, List.map_map]
    congr 1
    · simp only [val]
      rw [show bs.length + 1 - 1 - 0 = bs.length by omega]
      cases b
      · simp only [Bool.false_eq_true, if_false, Nat.zero_add]
        exact Nat.testBit_lt_two_pow hlt
      · simp only [if_true]
        rw [Nat.testBit_two_pow_add_eq, Nat.testBit_lt_two_pow hlt]; rfl
    · conv => rhs; rw [← ih]
      apply List.map_congr_left
      intro t ht
      have ht' : t < bs.length := by simpa using ht
      simp only [Function.comp, val]
      rw [show bs.length + 1 - 1 - (t + 1) = bs.length - 1 - t by omega]
      cases b
      · simp
      · simp only [if_true]
        rw [Nat.testBit_two_pow_add_gt (by omega)]
/-- The register's own bits shift it out. -/
theorem run_own (hL : 1 ≤ L) (r : Nat) (hr : r < 2 ^ L) : run L p r (bitsOf L r) = 0 := by
  have key : ∀ k, k ≤ L → run L p r ((bitsOf L r).take k) = (r * 2 ^ k) % 2 ^ L := by
    intro k
    induction k with
    | zero => intro _; simp [run, Nat.mod_eq_of_lt hr]
    | succ k ih =>
      intro hk
      have hg : (bitsOf L r)[k]? = some (r.testBit (L - 1 - k)) := by
        simp [bitsOf, List.getElem?_range (show k < L by omega)]
      rw [List.take_add_one, hg, Option.toList, run_append, ih (by omega), run_cons]
      show st L p (r * 2 ^ k % 2 ^ L) (r.testBit (L - 1 - k)) = _
      unfold st
      have ht : (r * 2 ^ k % 2 ^ L).testBit (L - 1) = r.testBit (L - 1 - k) := by
        rw [Nat.testBit_mod_two_pow, tb_mul]
        simp [show L - 1 < L by omega, show k ≤ L - 1 by omega]
      rw [ht]
      simp only [Bool.xor_self, Bool.false_eq_true, if_false, Nat.xor_zero]
      rw [Nat.mul_mod_mod, Nat.pow_succ]
      congr 1
      rw [Nat.mul_comm 2, Nat.mul_assoc]
  have h := key L (Nat.le_refl _)
  rw [List.take_of_length_le (by rw [bitsOf_len]; exact Nat.le_refl _)] at h
  rw [h, Nat.mul_mod_left]
/-- A zero bit turns no register but 0 into 0. -/
theorem st_zero (hL : 1 ≤ L) (hodd : p.testBit 0 = true) {r : Nat} (hr : r < 2 ^ L) (h : st L p r false = 0) : r = 0 := by
  have h0 : (st L p r false).testBit 0 = false := by rw [h]; simp
  rw [st_bit] at h0
  simp [hodd] at h0
  apply Nat.eq_of_testBit_eq
  intro j
  rw [Nat.zero_testBit]
  by_cases hj : j < L - 1
  · have h1 : (st L p r false).testBit (j + 1) = false := by rw [h]; simp
    rw [st_bit, h0] at h1
    simpa [show j + 1 < L by omega] using h1
  · by_cases hj2 : j = L - 1
    · rw [hj2]; exact h0
    · exact Nat.testBit_lt_two_pow (Nat.lt_of_lt_of_le hr (Nat.pow_le_pow_right (by decide) (by omega)))
theorem run_zeros (hL : 1 ≤ L) (hp : p < 2 ^ L) (hodd : p.testBit 0 = true) (m : Nat) : ∀ r, r < 2 ^ L → run L p r (List.replicate m false) = 0 → r = 0 := by
  induction m with
  | zero => intro r _ h; exact h
  | succ m ih =>
    intro r hr h
    rw [List.replicate_succ, run_cons] at h
    exact st_zero hL hodd hr (ih _ (st_lt hp r false) h)
theorem run_zero_zeros (m : Nat) : run L p 0 (List.replicate m false) = 0 := by
  induction m with
  | zero => rfl
  | succ m ih =>
    rw [List.replicate_succ, run_cons]
    have : st L p 0 false = 0 := by simp [st]
    rw [this, ih]
theorem zip_self (a : List Bool) : List.zipWith Bool.xor a a = List.replicate a.length false := by
  induction a with
  | nil => rfl
  | cons x a ih => rw [List.zipWith_cons_cons, ih]; cases x <;> rfl
/-- L more bits: what the register and they differ in, shifted through. -/
theorem run_full (hL : 1 ≤ L) (r : Nat) (ys : List Bool) (hy : ys.length = L) : run L p r ys = run L p (r ^^^ val ys) (List.replicate L false) := by
  have h1 := run_xor (L := L) (p := p) ys ys r (val ys) rfl
  rw [zip_self, hy] at h1
  have h2 : run L p (val ys) ys = 0 := by
    have h3 := run_own (p := p) hL (val ys) (by have := val_lt ys; rwa [hy] at this)
    have h4 := bitsOf_val ys
    rw [hy] at h4
    rwa [h4] at h3
  rw [h2, Nat.xor_zero] at h1
  exact h1.symm
theorem xor_eq_zero {a b : Nat} (h : a ^^^ b = 0) : a = b := by
  apply Nat.eq_of_testBit_eq
  intro j
  have : (a ^^^ b).testBit j = false := by rw [h]; simp
  rw [Nat.testBit_xor] at this
  simpa using this
/-- Bits followed by L more leave 0 just when those are the checksum. -/
theorem run_zero_iff (hL : 1 ≤ L) (hp : p < 2 ^ L) (hodd : p.testBit 0 = true) (xs ys : List Bool) (hy : ys.length = L) :
    run L p 0 (xs ++ ys) = 0 ↔ bitsOf L (run L p 0 xs) = ys := by
  have hr := run_lt hp xs 0 (Nat.two_pow_pos L)
  have hv : val ys < 2 ^ L := by have := val_lt ys; rwa [hy] at this
  have hb := bitsOf_val ys
  rw [hy] at hb
  rw [run_append, run_full hL _ _ hy]
  constructor
  · intro h
    have h1 := xor_eq_zero (run_zeros hL hp hodd L _ (Nat.xor_lt_two_pow hr hv) h)
    rw [h1, hb]
  · intro h
    have h1 : run L p 0 xs = val ys := bitsOf_inj hr hv (by rw [h, hb])
    rw [h1, Nat.xor_self, run_zero_zeros]
/-- An error of at most L bits, of which one is set, is never 0. -/
theorem run_burst (hL : 1 ≤ L) (hp : p < 2 ^ L) (hodd : p.testBit 0 = true) (e : List Bool) (he : e.length ≤ L) (hne : true ∈ e) : run L p 0 e ≠ 0 := by
  intro h
  have hy : (e ++ List.replicate (L - e.length) false).length = L := by simp; omega
  have h1 : run L p 0 (e ++ List.replicate (L - e.length) false) = 0 := by rw [run_append, h, run_zero_zeros]
  rw [run_full hL _ _ hy, Nat.zero_xor] at h1
  have hv : val (e ++ List.replicate (L - e.length) false) < 2 ^ L := by have := val_lt (e ++ List.replicate (L - e.length) false); rwa [hy] at this
  have h2 := run_zeros hL hp hodd L _ hv h1
  have h3 := bitsOf_val (e ++ List.replicate (L - e.length) false)
  rw [hy, h2] at h3
  have h4 : true ∈ bitsOf L 0 := by rw [h3]; exact List.mem_append_left _ hne
  simp [bitsOf] at h4
end
end Go.Proofs.YtcbbkflnenkpgaaGreat.CM
