/-
  Bundle of the texts CrM CrM2 CrP Ip Ir Is It. Conditions: none.
-/
import Derived.Laws.BitsAllLaws
import Derived.Laws.BitsLemmas
import Derived.Test.YtpdalbckmfadbaaBunaw
import Derived.Test.YtpdalbckmfadbaaBunay
namespace Go.Proofs.Ytpdalbckmfadbaa.CM
/-! Plain arithmetic of the checksum: no program in sight. -/
/-- One bit into the register. -/
def st (L p r : Nat) (b : Bool) : Nat := ((2 * r) % 2 ^ L) ^^^ (if (r.testBit (L - 1)) ^^ b then p else 0)
def run (L p r : Nat) (bs : List Bool) : Nat := bs.foldl (st L p) r
theorem run_append (L p r : Nat) (a b : List Bool) : run L p r (a ++ b) = run L p (run L p r a) b := by simp [run]
theorem run_cons (L p r : Nat) (x : Bool) (b : List Bool) : run L p r (x :: b) = run L p (st L p r x) b := rfl
theorem tb_mul (x i j : Nat) : (x * 2 ^ i).testBit j = (decide (i ≤ j) && x.testBit (j - i)) := by rw [← Nat.shiftLeft_eq, Nat.testBit_shiftLeft]
section
variable {L p : Nat}
theorem st_bit (r : Nat) (b : Bool) (j : Nat) : (st L p r b).testBit j = ((decide (j < L) && decide (1 ≤ j) && r.testBit (j - 1)) ^^ (((r.testBit (L - 1)) ^^ b) && p.testBit j)) := by
  unfold st
  rw [Nat.testBit_xor, Nat.testBit_mod_two_pow]
  have h2 : (2 * r).testBit j = (decide (1 ≤ j) && r.testBit (j - 1)) := by
    have := tb_mul r 1 j
    rw [Nat.mul_comm]; simpa using this
  rw [h2]
  cases h : (r.testBit (L - 1) ^^ b) <;> simp [Bool.and_assoc]
theorem st_xor (r s : Nat) (b c : Bool) : st L p (r ^^^ s) (b ^^ c) = st L p r b ^^^ st L p s c := by
  apply Nat.eq_of_testBit_eq
  intro j
  rw [Nat.testBit_xor, st_bit, st_bit, st_bit, Nat.testBit_xor, Nat.testBit_xor]
  cases r.testBit (j - 1) <;> cases s.testBit (j - 1) <;> cases r.testBit (L - 1) <;> cases s.testBit (L - 1) <;> cases b <;> cases c <;> cases decide (j < L) <;> cases decide (1 ≤ j) <;> cases p.testBit j <;> rfl
theorem run_xor : ∀ (a b : List Bool) (r s : Nat), a.length = b.length → run L p (r ^^^ s) (List.zipWith Bool.xor a b) = run L p r a ^^^ run L p s b
  | [], [], _, _, _ => rfl
  | x :: a, y :: b, r, s, h => by
    simp only [List.zipWith_cons_cons, run_cons]
    have : st L p (r ^^^ s) (Bool.xor x y) = st L p r x ^^^ st L p s y := st_xor r s x y
    rw [this]
    exact run_xor a b _ _ (by simpa using h)
theorem st_lt (hp : p < 2 ^ L) (r : Nat) (b : Bool) : st L p r b < 2 ^ L := by
  unfold st
  refine Nat.xor_lt_two_pow (Nat.mod_lt _ (Nat.two_pow_pos L)) ?_
  split
  · exact hp
  · exact Nat.two_pow_pos L
theorem run_lt (hp : p < 2 ^ L) : ∀ (bs : List Bool) (r : Nat), r < 2 ^ L → run L p r bs < 2 ^ L
  | [], _, h => h
  | x :: bs, r, _ => run_lt hp bs _ (st_lt hp r x)
/-- The bits of a register, the most significant first. -/
def bitsOf (L r : Nat) : List Bool := (List.range L).map fun t => r.testBit (L - 1 - t)
theorem bitsOf_len (L r : Nat) : (bitsOf L r).length = L := by simp [bitsOf]
theorem bitsOf_inj {r s : Nat} (hr : r < 2 ^ L) (hs : s < 2 ^ L) (h : bitsOf L r = bitsOf L s) : r = s := by
  apply Nat.eq_of_testBit_eq
  intro j
  by_cases hj : j < L
  · have h1 : (bitsOf L r)[L - 1 - j]? = (bitsOf L s)[L - 1 - j]? := by rw [h]
    simp only [bitsOf, List.getElem?_map, List.getElem?_range (show L - 1 - j < L by omega), Option.map_some, Option.some.injEq] at h1
    rwa [show L - 1 - (L - 1 - j) = j by omega] at h1
  · rw [Nat.testBit_lt_two_pow (Nat.lt_of_lt_of_le hr (Nat.pow_le_pow_right (by decide) (by omega))), Nat.testBit_lt_two_pow (Nat.lt_of_lt_of_le hs (Nat.pow_le_pow_right (by decide) (by omega)))]
theorem bitsOf_xor (r s : Nat) : bitsOf L (r ^^^ s) = List.zipWith Bool.xor (bitsOf L r) (bitsOf L s) := by
  simp [bitsOf, List.zipWith_map, List.zipWith_self, Nat.testBit_xor]
/-- A list of L bits is the bits of a number. -/
def val : List Bool → Nat
  | [] => 0
  | b :: bs => (if b then 2 ^ bs.length else 0) + val bs
theorem val_lt : ∀ bs : List Bool, val bs < 2 ^ bs.length
  | [] => by simp [val]
  | b :: bs => by
    have := val_lt bs
    simp only [val, List.length_cons, Nat.pow_succ]
    split <;> omega
theorem bitsOf_val : ∀ bs : List Bool, bitsOf bs.length (val bs) = bs
  | [] => rfl
  | b :: bs => by
    have ih := bitsOf_val bs
    have hlt := val_lt bs
    unfold bitsOf at *
    rw [List.length_cons, List.range_succ_eq_map, List.map_cons, List.map_map]
    congr 1
    · simp only [val]
      rw [show bs.length + 1 - 1 - 0 = bs.length by omega]
      cases b
      · simp only [Bool.false_eq_true, if_false, Nat.zero_add]
        exact Nat.testBit_lt_two_pow hlt
      · simp only [if_true]
        rw [Nat.testBit_two_pow_add_eq, Nat.testBit_lt_two_pow hlt]; rfl
    · conv => rhs; rw [← ih]
      apply List.map_congr_left
      intro t ht
      have ht' : t < bs.length := by simpa using ht
      simp only [Function.comp, val]
      rw [show bs.length + 1 - 1 - (t + 1) = bs.length - 1 - t by omega]
      cases b
      · simp
      · simp only [if_true]
        rw [Nat.testBit_two_pow_add_gt (by omega)]
/-- The register's own bits shift it out. -/
theorem run_own (hL : 1 ≤ L) (r : Nat) (hr : r < 2 ^ L) : run L p r (bitsOf L r) = 0 := by
  have key : ∀ k, k ≤ L → run L p r ((bitsOf L r).take k) = (r * 2 ^ k) % 2 ^ L := by
    intro k
    induction k with
    | zero => intro _; simp [run, Nat.mod_eq_of_lt hr]
    | succ k ih =>
      intro hk
      have hg : (bitsOf L r)[k]? = some (r.testBit (L - 1 - k)) := by
        simp [bitsOf, List.getElem?_range (show k < L by omega)]
      rw [List.take_add_one, hg, Option.toList, run_append, ih (by omega), run_cons]
      show st L p (r * 2 ^ k % 2 ^ L) (r.testBit (L - 1 - k)) = _
      unfold st
      have ht : (r * 2 ^ k % 2 ^ L).testBit (L - 1) = r.testBit (L - 1 - k) := by
        rw [Nat.testBit_mod_two_pow, tb_mul]
        simp [show L - 1 < L by omega, show k ≤ L - 1 by omega]
      rw [ht]
      simp only [Bool.xor_self, Bool.false_eq_true, if_false, Nat.xor_zero]
      rw [Nat.mul_mod_mod, Nat.pow_succ]
      congr 1
      rw [Nat.mul_comm 2, Nat.mul_assoc]
  have h := key L (Nat.le_refl _)
  rw [List.take_of_length_le (by rw [bitsOf_len]; exact Nat.le_refl _)] at h
  rw [h, Nat.mul_mod_left]
/-- A zero bit turns no register but 0 into 0. -/
theorem st_zero (hL : 1 ≤ L) (hodd : p.testBit 0 = true) {r : Nat} (hr : r < 2 ^ L) (h : st L p r false = 0) : r = 0 := by
  have h0 : (st L p r false).testBit 0 = false := by rw [h]; simp
  rw [st_bit] at h0
  simp [hodd] at h0
  apply Nat.eq_of_testBit_eq
  intro j
  rw [Nat.zero_testBit]
  by_cases hj : j < L - 1
  · have h1 : (st L p r false).testBit (j + 1) = false := by rw [h]; simp
    rw [st_bit, h0] at h1
    simpa [show j + 1 < L by omega] using h1
  · by_cases hj2 : j = L - 1
    · rw [hj2]; exact h0
    · exact Nat.testBit_lt_two_pow (Nat.lt_of_lt_of_le hr (Nat.pow_le_pow_right (by decide) (by omega)))
theorem run_zeros (hL : 1 ≤ L) (hp : p < 2 ^ L) (hodd : p.testBit 0 = true) (m : Nat) : ∀ r, r < 2 ^ L → run L p r (List.replicate m false) = 0 → r = 0 := by
  induction m with
  | zero => intro r _ h; exact h
  | succ m ih =>
    intro r hr h
    rw [List.replicate_succ, run_cons] at h
    exact st_zero hL hodd hr (ih _ (st_lt hp r false) h)
theorem run_zero_zeros (m : Nat) : run L p 0 (List.replicate m false) = 0 := by
  induction m with
  | zero => rfl
  | succ m ih =>
    rw [List.replicate_succ, run_cons]
    have : st L p 0 false = 0 := by simp [st]
    rw [this, ih]
theorem zip_self (a : List Bool) : List.zipWith Bool.xor a a = List.replicate a.length false := by
  induction a with
  | nil => rfl
  | cons x a ih => rw [List.zipWith_cons_cons, ih]; cases x <;> rfl
/-- L more bits: what the register and they differ in, shifted through. -/
theorem run_full (hL : 1 ≤ L) (r : Nat) (ys : List Bool) (hy : ys.length = L) : run L p r ys = run L p (r ^^^ val ys) (List.replicate L false) := by
  have h1 := run_xor (L := L) (p := p) ys ys r (val ys) rfl
  rw [zip_self, hy] at h1
  have h2 : run L p (val ys) ys = 0 := by
    have h3 := run_own (p := p) hL (val ys) (by have := val_lt ys; rwa [hy] at this)
    have h4 := bitsOf_val ys
    rw [hy] at h4
    rwa [h4] at h3
  rw [h2, Nat.xor_zero] at h1
  exact h1.symm
theorem xor_eq_zero {a b : Nat} (h : a ^^^ b = 0) : a = b := by
  apply Nat.eq_of_testBit_eq
  intro j
  have : (a ^^^ b).testBit j = false := by rw [h]; simp
  rw [Nat.testBit_xor] at this
  simpa using this
/-- Bits followed by L more leave 0 just when those are the checksum. -/
theorem run_zero_iff (hL : 1 ≤ L) (hp : p < 2 ^ L) (hodd : p.testBit 0 = true) (xs ys : List Bool) (hy : ys.length = L) :
    run L p 0 (xs ++ ys) = 0 ↔ bitsOf L (run L p 0 xs) = ys := by
  have hr := run_lt hp xs 0 (Nat.two_pow_pos L)
  have hv : val ys < 2 ^ L := by have := val_lt ys; rwa [hy] at this
  have hb := bitsOf_val ys
  rw [hy] at hb
  rw [run_append, run_full hL _ _ hy]
  constructor
  · intro h
    have h1 := xor_eq_zero (run_zeros hL hp hodd L _ (Nat.xor_lt_two_pow hr hv) h)
    rw [h1, hb]
  · intro h
    have h1 : run L p 0 xs = val ys := bitsOf_inj hr hv (by rw [h, hb])
    rw [h1, Nat.xor_self, run_zero_zeros]
/-- An error of at most L bits, of which one is set, is never 0. -/
theorem run_burst (hL : 1 ≤ L) (hp : p < 2 ^ L) (hodd : p.testBit 0 = true) (e : List Bool) (he : e.length ≤ L) (hne : true ∈ e) : run L p 0 e ≠ 0 := by
  intro h
  have hy : (e ++ List.replicate (L - e.length) false).length = L := by simp; omega
  have h1 : run L p 0 (e ++ List.replicate (L - e.length) false) = 0 := by rw [run_append, h, run_zero_zeros]
  rw [run_full hL _ _ hy, Nat.zero_xor] at h1
  have hv : val (e ++ List.replicate (L - e.length) false) < 2 ^ L := by have := val_lt (e ++ List.replicate (L - e.length) false); rwa [hy] at this
  have h2 := run_zeros hL hp hodd L _ hv h1
  have h3 := bitsOf_val (e ++ List.replicate (L - e.length) false)
  rw [hy, h2] at h3
  have h4 : true ∈ bitsOf L 0 := by rw [h3]; exact List.mem_append_left _ hne
  simp [bitsOf] at h4
end
end Go.Proofs.Ytpdalbckmfadbaa.CM

namespace Go.Proofs.Ytpdalbckmfadbaa.Cr
open Go.RowKit CM
def ib (b : Bool) : Int := if b then 1 else 0
def bl (xs : List Int) : List Bool := xs.map fun x => decide (x = 1)
def Bit (xs : List Int) : Prop := ∀ x ∈ xs, x = 0 ∨ x = 1
theorem bl_ib (bs : List Bool) : bl (bs.map ib) = bs := by
  unfold bl; rw [List.map_map]
  conv => rhs; rw [← List.map_id bs]
  apply List.map_congr_left
  intro b _; cases b <;> rfl
theorem ib_bl {xs : List Int} (h : Bit xs) : (bl xs).map ib = xs := by
  unfold bl; rw [List.map_map]
  conv => rhs; rw [← List.map_id xs]
  apply List.map_congr_left
  intro x hx
  rcases h x hx with rfl | rfl <;> rfl
theorem bit_ib (bs : List Bool) : Bit (bs.map ib) := by
  intro x hx
  obtain ⟨b, _, rfl⟩ := List.mem_map.1 hx
  cases b <;> simp [ib]
theorem ib_inj {a b : Bool} (h : ib a = ib b) : a = b := by cases a <;> cases b <;> simp [ib] at h <;> rfl
theorem map_ib_inj {a b : List Bool} (h : a.map ib = b.map ib) : a = b := by rw [← bl_ib a, ← bl_ib b, h]
theorem bit_valid {xs : List Int} (h : Bit xs) : ValidB xs = true := by
  unfold ValidB; rw [List.all_eq_true]; intro x hx
  rcases h x hx with rfl | rfl <;> rfl
theorem bit_of {xs : List Int} (h0 : ∀ x ∈ xs, 0 ≤ x) (h : ValidB xs = true) : Bit xs := by
  unfold ValidB at h; rw [List.all_eq_true] at h
  intro x hx
  have h1 := h0 x hx
  have h2 := h x hx
  simp at h2; omega
theorem bit_len (xs : List Int) : (bl xs).length = xs.length := by simp [bl]
theorem ofInt_u32 (a : Nat) (ha : a < 4294967296) : (BitVec.ofInt 32 (a : Int)).toNat = a := by
  rw [BitVec.ofInt_natCast, BitVec.toNat_ofNat]; exact Nat.mod_eq_of_lt (by omega)
theorem u32_and_nat (a b : Nat) (ha : a < 4294967296) (hb : b < 4294967296) : bits .and .u32 (a : Int) (b : Int) = ((a &&& b : Nat) : Int) := by
  have hx : a &&& b < 2 ^ 32 := Nat.and_lt_two_pow _ (by omega)
  show IntKind.u32.wrap ((BitVec.ofInt 32 (a : Int) &&& BitVec.ofInt 32 (b : Int)).toNat : Int) = _
  rw [BitVec.toNat_and, ofInt_u32 a ha, ofInt_u32 b hb, IntKind.wrap_u32]
  omega
theorem u32_xor_nat (a b : Nat) (ha : a < 4294967296) (hb : b < 4294967296) : bits .xor .u32 (a : Int) (b : Int) = ((a ^^^ b : Nat) : Int) := by
  have hx : a ^^^ b < 2 ^ 32 := Nat.xor_lt_two_pow (by omega) (by omega)
  show IntKind.u32.wrap ((BitVec.ofInt 32 (a : Int) ^^^ BitVec.ofInt 32 (b : Int)).toNat : Int) = _
  rw [BitVec.toNat_xor, ofInt_u32 a ha, ofInt_u32 b hb, IntKind.wrap_u32]
  omega
theorem xor8_ib (a b : Bool) : xor8 (ib a) (ib b) = ib (a ^^ b) := by cases a <;> cases b <;> decide
theorem u32_xor_ib (a b : Bool) : bits .xor .u32 (ib a) (ib b) = ib (a ^^ b) := by cases a <;> cases b <;> decide
theorem u32_and_one (x : Nat) (hx : x < 4294967296) : bits .and .u32 (x : Int) 1 = ib (x.testBit 0) := by
  have := u32_and_nat x 1 hx (by decide)
  rw [show ((1 : Nat) : Int) = 1 from rfl] at this
  rw [this, Nat.and_one_is_mod, Nat.testBit_zero]
  rcases Nat.mod_two_eq_zero_or_one x with h | h <;> rw [h] <;> rfl
theorem two_pow_le {L : Nat} (hL : L ≤ 31) : 2 ^ L ≤ 2147483648 := Nat.pow_le_pow_right (n := 2) (by decide) hL
theorem div_pow_bit (r j : Nat) : (r / 2 ^ j).testBit 0 = r.testBit j := by
  rw [← Nat.shiftRight_eq_div_pow, Nat.testBit_shiftRight, Nat.add_zero]
theorem crcStep_nat {L p r : Nat} (_ : 1 ≤ L) (hL2 : L ≤ 31) (hp : p < 2 ^ L) (hr : r < 2 ^ L) (b : Bool) : crcStep L (p : Int) (r : Int) (ib b) = (st L p r b : Int) := by
  have h2 := two_pow_le hL2
  have hpos := Nat.two_pow_pos L
  unfold crcStep
  have e1 : (r : Int) * 2 % 4294967296 = ((2 * r : Nat) : Int) := by omega
  have e2 : ((2 : Int) ^ L % 4294967296 - 1) % 4294967296 = ((2 ^ L - 1 : Nat) : Int) := by
    have : (2 : Int) ^ L = ((2 ^ L : Nat) : Int) := by simp
    rw [this]; omega
  have e3 : (r : Int) / 2 ^ (L - 1) = ((r / 2 ^ (L - 1) : Nat) : Int) := by simp
  have e4 : (ib b) % 4294967296 = ib b := by cases b <;> rfl
  have hq : r / 2 ^ (L - 1) < 4294967296 := Nat.lt_of_le_of_lt (Nat.div_le_self _ _) (by omega)
  rw [e1, e2, e3, e4, u32_and_nat _ _ (by omega) (by omega), Nat.and_two_pow_sub_one_eq_mod, u32_and_one _ hq, div_pow_bit, u32_xor_ib]
  have e5 : ib (r.testBit (L - 1) ^^ b) * (p : Int) % 4294967296 = (((if (r.testBit (L - 1) ^^ b) then p else 0) : Nat) : Int) := by
    cases (r.testBit (L - 1) ^^ b)
    · simp [ib]
    · simp only [ib, if_true]; omega
  rw [e5, u32_xor_nat _ _ (Nat.lt_of_lt_of_le (Nat.mod_lt _ hpos) (by omega)) (by split <;> omega)]
  rfl
theorem crcFold_nat {L p : Nat} (hL : 1 ≤ L) (hL2 : L ≤ 31) (hp : p < 2 ^ L) (bs : List Bool) : crcFold L (p : Int) (bs.map ib) = (run L p 0 bs : Int) := by
  have key : ∀ (bs : List Bool) (r : Nat), r < 2 ^ L → (bs.map ib).foldl (crcStep L (p : Int)) (r : Int) = (run L p r bs : Int) := by
    intro bs
    induction bs with
    | nil => intro r _; rfl
    | cons b bs ih =>
      intro r hr
      rw [List.map_cons, List.foldl_cons, crcStep_nat hL hL2 hp hr]
      exact ih _ (st_lt hp r b)
  exact key bs 0 (Nat.two_pow_pos L)
theorem splitL_nat {L r : Nat} (hr : r < 4294967296) : splitL (r : Int) L = (bitsOf L r).map ib := by
  unfold splitL bitsOf
  rw [List.map_map]
  apply List.map_congr_left
  intro j hj
  have e3 : (r : Int) / 2 ^ (L - 1 - j) = ((r / 2 ^ (L - 1 - j) : Nat) : Int) := by simp
  have hq : r / 2 ^ (L - 1 - j) < 4294967296 := Nat.lt_of_le_of_lt (Nat.div_le_self _ _) hr
  rw [e3, u32_and_one _ hq, div_pow_bit]
  simp only [Function.comp]
  cases r.testBit (L - 1 - j) <;> decide
def nPoly (k : Int) : Nat := if k = 1 then 0x864cfb else if k = 2 then 0x800063 else if k = 3 then 0x1021 else if k = 4 then 0x9b else 0
theorem sPoly_nat (k : Int) : sPoly k = (nPoly k : Int) := by unfold sPoly nPoly; repeat (split <;> try rfl)
theorem nPoly_ok {k : Int} (h : sLen k ≠ 0) : 1 ≤ sLen k ∧ sLen k ≤ 31 ∧ nPoly k < 2 ^ sLen k ∧ (nPoly k).testBit 0 = true := by
  unfold sLen at h
  by_cases h1 : k = 1
  · subst h1; decide
  by_cases h2 : k = 2
  · subst h2; decide
  by_cases h3 : k = 3
  · subst h3; decide
  by_cases h4 : k = 4
  · subst h4; decide
  · exfalso; apply h; simp [h1, h2, h3, h4]
theorem crcSum_bits {k : Int} (h : sLen k ≠ 0) (bs : List Bool) : crcSum k (bs.map ib) = (bitsOf (sLen k) (run (sLen k) (nPoly k) 0 bs)).map ib := by
  obtain ⟨h1, h2, h3, h4⟩ := nPoly_ok h
  unfold crcSum
  rw [sPoly_nat, crcFold_nat h1 h2 h3, splitL_nat]
  have := run_lt h3 bs 0 (Nat.two_pow_pos _)
  have := two_pow_le h2
  omega
/-! ### the reference's long division -/
theorem gi_set (m : List Int) (i t : Nat) (v : Int) (hi : i < m.length) : gi (m.set i v) t = if i = t then v else gi m t := by
  unfold gi
  simp only [List.getD_eq_getElem?_getD, List.getElem?_set]
  split
  · rename_i h; subst h; simp
  · rfl
theorem gi_inner (g m : List Int) (i : Nat) : ∀ q, i + q ≤ m.length → ∀ t, gi (innerTo g m i q) t = if i ≤ t ∧ t < i + q then xor8 (gi m t) (gi g (t - i)) else gi m t
  | 0, _, t => by rw [if_neg (by omega)]; rfl
  | q + 1, hq, t => by
    unfold innerTo xorStep
    rw [gi_set _ _ _ _ (by rw [len_innerTo]; omega), gi_inner g m i q (by omega), gi_inner g m i q (by omega)]
    by_cases ht : i + q = t
    · subst ht
      rw [if_pos rfl, if_neg (by omega), if_pos (by omega), show i + q - i = q by omega]
    · rw [if_neg ht]
      by_cases h2 : i ≤ t ∧ t < i + q
      · rw [if_pos h2, if_pos (by omega)]
      · rw [if_neg h2, if_neg (by omega)]
theorem gi_map_ib (bs : List Bool) (t : Nat) : gi (bs.map ib) t = ib (bs.getD t false) := by
  unfold gi
  simp only [List.getD_eq_getElem?_getD, List.getElem?_map]
  cases bs[t]? <;> rfl
theorem gi_app_zeros (xs : List Int) (L t : Nat) : gi (xs ++ List.replicate L 0) t = gi xs t := by
  unfold gi
  simp only [List.getD_eq_getElem?_getD, List.getElem?_append]
  split
  · rfl
  · rename_i h
    rw [List.getElem?_eq_none (l := xs) (by omega), List.getElem?_replicate]
    split <;> rfl
theorem bitsOf_getD (L r t : Nat) : (bitsOf L r).getD t false = (decide (t < L) && r.testBit (L - 1 - t)) := by
  unfold bitsOf
  simp only [List.getD_eq_getElem?_getD, List.getElem?_map]
  by_cases h : t < L
  · rw [List.getElem?_range h]; simp [h]
  · rw [List.getElem?_eq_none (by simp; omega)]; simp [h]
/-- After i rounds the division's row holds, from i on, the bits and the register. -/
theorem outTo_bits {L p : Nat} (hL : 1 ≤ L) (hp : p < 2 ^ L) (bs : List Bool) : ∀ i, i ≤ bs.length → ∀ t, i ≤ t →
    gi (outTo ((true :: bitsOf L p).map ib) (bs.map ib ++ List.replicate L 0) i) t = ib (bs.getD t false ^^ (decide (t < i + L) && (run L p 0 (bs.take i)).testBit (L - 1 - (t - i))))
  | 0, _, t, _ => by
    unfold outTo
    rw [gi_app_zeros, gi_map_ib]
    simp [run]
  | i + 1, hi, t, ht => by
    have hlen : (outTo ((true :: bitsOf L p).map ib) (bs.map ib ++ List.replicate L 0) i).length = bs.length + L := by rw [len_outTo]; simp
    have h0 := outTo_bits hL hp bs i (by omega) i (Nat.le_refl _)
    have h1 := outTo_bits hL hp bs i (by omega) t (by omega)
    have hget : bs[i]? = some (bs.getD i false) := by simp [List.getD, show i < bs.length by omega]
    have hrun : run L p 0 (bs.take (i + 1)) = st L p (run L p 0 (bs.take i)) (bs.getD i false) := by
      rw [List.take_add_one, hget, Option.toList, run_append]; rfl
    rw [hrun]
    unfold outTo
    generalize outTo ((true :: bitsOf L p).map ib) (bs.map ib ++ List.replicate L 0) i = m at *
    generalize run L p 0 (bs.take i) = r at *
    rw [Nat.sub_self, Nat.sub_zero] at h0
    simp only [show i < i + L by omega, decide_true, Bool.true_and] at h0
    unfold outStep
    rw [h0]
    have hgl : ((true :: bitsOf L p).map ib).length = L + 1 := by simp [bitsOf_len]
    rw [hgl]
    rw [st_bit]
    have htop : (bs.getD i false ^^ r.testBit (L - 1)) = (r.testBit (L - 1) ^^ bs.getD i false) := Bool.xor_comm _ _
    by_cases hb : (r.testBit (L - 1) ^^ bs.getD i false) = true
    · rw [if_pos (by rw [htop, hb]; rfl), gi_inner _ _ _ _ (by rw [hlen]; omega), hb]
      by_cases hin : t < i + (L + 1)
      · rw [if_pos ⟨by omega, hin⟩, h1, gi_map_ib, xor8_ib]
        congr 1
        obtain ⟨d, rfl⟩ : ∃ d, t = i + 1 + d := ⟨t - (i + 1), by omega⟩
        have hd : d < L := by omega
        rw [show i + 1 + d - i = d + 1 by omega, show i + 1 + d - (i + 1) = d by omega, List.getD_cons_succ, bitsOf_getD]
        simp only [hd, show i + 1 + d < i + 1 + L by omega, decide_true, Bool.true_and, show L - 1 - d < L by omega]
        by_cases hdL : d + 1 < L
        · simp only [show i + 1 + d < i + L by omega, show 1 ≤ L - 1 - d by omega, decide_true, Bool.true_and]
          rw [show L - 1 - (d + 1) = L - 1 - d - 1 by omega, Bool.xor_assoc]
        · simp only [show ¬ (i + 1 + d < i + L) by omega, show ¬ (1 ≤ L - 1 - d) by omega, decide_false, Bool.false_and, Bool.xor_false, Bool.false_xor]
      · rw [if_neg (by omega), h1]
        simp only [show ¬ (t < i + L) by omega, show ¬ (t < i + 1 + L) by omega, decide_false, Bool.false_and]
    · rw [if_neg (by rw [htop]; intro e; apply hb; cases hx : (r.testBit (L - 1) ^^ bs.getD i false) <;> rw [hx] at e <;> first | rfl | (exact absurd e (by decide))), h1]
      have hb' : (r.testBit (L - 1) ^^ bs.getD i false) = false := by simpa using hb
      rw [hb']
      congr 1
      obtain ⟨d, rfl⟩ : ∃ d, t = i + 1 + d := ⟨t - (i + 1), by omega⟩
      rw [show i + 1 + d - i = d + 1 by omega, show i + 1 + d - (i + 1) = d by omega]
      simp only [Bool.false_and, Bool.xor_false]
      by_cases hdL : d + 1 < L
      · simp only [show i + 1 + d < i + L by omega, show i + 1 + d < i + 1 + L by omega, show L - 1 - d < L by omega, show 1 ≤ L - 1 - d by omega, decide_true, Bool.true_and]
        rw [show L - 1 - (d + 1) = L - 1 - d - 1 by omega]
      · simp only [show ¬ (i + 1 + d < i + L) by omega, decide_false, Bool.false_and]
        by_cases hd2 : d < L
        · simp only [show ¬ (1 ≤ L - 1 - d) by omega, decide_false, Bool.and_false, Bool.false_and]
        · simp only [show ¬ (i + 1 + d < i + 1 + L) by omega, decide_false, Bool.false_and]
theorem refSum_bits {L p : Nat} (hL : 1 ≤ L) (hp : p < 2 ^ L) (bs : List Bool) : refSum ((true :: bitsOf L p).map ib) (bs.map ib) = (bitsOf L (run L p 0 bs)).map ib := by
  have hgl : ((true :: bitsOf L p).map ib).length - 1 = L := by simp [bitsOf_len]
  refine ext_gi ?_ fun j hj => ?_
  · rw [refSum_len (by simp), hgl, List.length_map, bitsOf_len]
  · rw [refSum_len (by simp), hgl] at hj
    unfold refSum
    rw [hgl, List.length_map]
    have h := outTo_bits hL hp bs bs.length (Nat.le_refl _) (bs.length + j) (by omega)
    have e : gi ((outTo ((true :: bitsOf L p).map ib) (bs.map ib ++ List.replicate L 0) bs.length).drop bs.length) j = gi (outTo ((true :: bitsOf L p).map ib) (bs.map ib ++ List.replicate L 0) bs.length) (bs.length + j) := by
      unfold gi; simp only [List.getD_eq_getElem?_getD, List.getElem?_drop]
    rw [e, h, gi_map_ib, bitsOf_getD, List.take_of_length_le (Nat.le_refl _), show bs.length + j - bs.length = j by omega]
    congr 1
    have : bs.getD (bs.length + j) false = false := by simp [List.getD]
    rw [this]
    simp [hj]
theorem polyL_bits {k : Int} (h : sLen k ≠ 0) : polyL k = (true :: bitsOf (sLen k) (nPoly k)).map ib := by
  unfold sLen at h
  by_cases h1 : k = 1
  · subst h1; decide +kernel
  by_cases h2 : k = 2
  · subst h2; decide +kernel
  by_cases h3 : k = 3
  · subst h3; decide +kernel
  by_cases h4 : k = 4
  · subst h4; decide +kernel
  · exfalso; apply h; simp [h1, h2, h3, h4]
theorem polyN_sLen (k : Int) : polyN k = if sLen k = 0 then 0 else sLen k + 1 := by
  unfold polyN sLen
  by_cases h1 : k = 1
  · simp [h1]
  by_cases h2 : k = 2
  · simp [h2]
  by_cases h3 : k = 3
  · simp [h3]
  by_cases h4 : k = 4
  · simp [h4]
  · simp [h1, h2, h3, h4]
/-- THE TWO TEXTS AGREE. -/
theorem sum_agree {k : Int} (h : sLen k ≠ 0) {xs : List Int} (hx : Bit xs) : refSum (polyL k) xs = crcSum k xs := by
  obtain ⟨h1, h2, h3, h4⟩ := nPoly_ok h
  rw [← ib_bl hx, polyL_bits h, refSum_bits h1 h3, crcSum_bits h]
end Go.Proofs.Ytpdalbckmfadbaa.Cr

namespace Go.Proofs.Ytpdalbckmfadbaa.Cr
open Go.RowKit CM
set_option linter.unusedVariables false
theorem cErr_zero {k : Int} {xs : List Int} (h : cErr k xs = 0) : sLen k ≠ 0 ∧ ValidB xs = true := by
  unfold cErr at h
  by_cases h1 : sLen k = 0
  · rw [if_pos h1] at h; cases h
  · by_cases hv : ValidB xs = true
    · exact ⟨h1, hv⟩
    · rw [if_neg h1, if_neg hv] at h; cases h
theorem cErr_of {k : Int} {xs : List Int} (h : sLen k ≠ 0) (hv : ValidB xs = true) : cErr k xs = 0 := by unfold cErr; rw [if_neg h, if_pos hv]
theorem cRes_of {k : Int} {xs : List Int} (h : sLen k ≠ 0) (hv : ValidB xs = true) : cRes k xs = crcSum k xs := by unfold cRes; rw [if_neg h, if_pos hv]
theorem crcSum_len (k : Int) (xs : List Int) : (crcSum k xs).length = sLen k := by unfold crcSum; rw [splitL_len]
theorem bit_sum {k : Int} (h : sLen k ≠ 0) {xs : List Int} (hx : Bit xs) : Bit (crcSum k xs) := by
  rw [← ib_bl hx, crcSum_bits h]; exact bit_ib _
theorem bit_app {xs ys : List Int} (hx : Bit xs) (hy : Bit ys) : Bit (xs ++ ys) := by
  intro x h; rcases List.mem_append.1 h with h | h
  · exact hx x h
  · exact hy x h
theorem bit_take {xs : List Int} (n : Nat) (hx : Bit xs) : Bit (xs.take n) := fun x h => hx x (List.mem_of_mem_take h)
theorem bit_zeros (n : Nat) : Bit (List.replicate n 0) := by
  intro x h; rw [List.mem_replicate] at h; exact .inl h.2
theorem bl_app (xs ys : List Int) : bl (xs ++ ys) = bl xs ++ bl ys := by simp [bl]
theorem bl_zeros (n : Nat) : bl (List.replicate n 0) = List.replicate n false := by simp [bl]
theorem gi_ib (bs : List Bool) (j : Nat) (h : j < bs.length) : gi (bs.map ib) j = ib bs[j] := by
  rw [gi_eq _ _ (by simpa using h)]; simp
theorem addL_ib (us bs : List Bool) (h : us.length = bs.length) : addL (us.map ib) (bs.map ib) = (List.zipWith Bool.xor us bs).map ib := by
  refine ext_gi (by simp [addL, h]) fun j hj => ?_
  have hj' : j < us.length := by simpa [addL] using hj
  have e1 : gi (addL (us.map ib) (bs.map ib)) j = xor8 (gi (us.map ib) j) (gi (bs.map ib) j) := by
    rw [gi_eq _ _ hj]; simp [addL]
  rw [e1, gi_ib _ _ hj', gi_ib _ _ (by omega), xor8_ib, gi_ib _ _ (by simp; omega)]
  simp
theorem bit_add {xs ys : List Int} (hx : Bit xs) (hy : Bit ys) (h : xs.length = ys.length) : Bit (addL xs ys) := by
  rw [← ib_bl hx, ← ib_bl hy, addL_ib _ _ (by rw [bit_len, bit_len, h])]; exact bit_ib _
theorem sum_add {k : Int} (h : sLen k ≠ 0) {xs ys : List Int} (hx : Bit xs) (hy : Bit ys) (hl : xs.length = ys.length) : crcSum k (addL xs ys) = addL (crcSum k xs) (crcSum k ys) := by
  have hb : (bl xs).length = (bl ys).length := by rw [bit_len, bit_len, hl]
  rw [← ib_bl hx, ← ib_bl hy, addL_ib _ _ hb, crcSum_bits h, crcSum_bits h, crcSum_bits h, addL_ib _ _ (by rw [bitsOf_len, bitsOf_len]), ← bitsOf_xor, ← run_xor _ _ _ _ hb, Nat.xor_zero]
theorem back {k : Int} (h : sLen k ≠ 0) {xs : List Int} (hx : Bit xs) : chkErr k (xs ++ crcSum k xs) = 0 ∧ chkRes k (xs ++ crcSum k xs) = xs := by
  have hl := crcSum_len k xs
  have e1 : (xs ++ crcSum k xs).length - sLen k = xs.length := by rw [List.length_append, hl]; omega
  have e : chkErr k (xs ++ crcSum k xs) = 0 := by
    unfold chkErr
    rw [if_neg h, if_pos (bit_valid (bit_app hx (bit_sum h hx))), if_neg (by rw [List.length_append, hl]; omega), e1, List.take_left, List.drop_left, if_pos rfl]
  refine ⟨e, ?_⟩
  unfold chkRes
  rw [if_pos e, e1, List.take_left]
theorem run_zero_bits {k : Int} (h : sLen k ≠ 0) (bs : List Bool) (hr : run (sLen k) (nPoly k) 0 bs = 0) : crcSum k (bs.map ib) = List.replicate (sLen k) 0 := by
  rw [crcSum_bits h, hr]
  refine ext_gi (by simp [bitsOf_len]) fun j hj => ?_
  have hj' : j < sLen k := by simpa [bitsOf_len] using hj
  rw [gi_ib _ _ (by rw [bitsOf_len]; exact hj'), gi_eq _ _ (by simpa using hj')]
  simp [bitsOf, ib]
theorem residue {k : Int} (h : sLen k ≠ 0) {xs : List Int} (hx : Bit xs) : crcSum k (xs ++ crcSum k xs) = List.replicate (sLen k) 0 := by
  obtain ⟨h1, h2, h3, h4⟩ := nPoly_ok h
  rw [← ib_bl hx, crcSum_bits h, ← List.map_append]
  exact run_zero_bits h _ ((run_zero_iff h1 h3 h4 _ _ (bitsOf_len _ _)).2 rfl)
theorem leading {k : Int} (h : sLen k ≠ 0) {xs : List Int} (hx : Bit xs) (z : Nat) : crcSum k (List.replicate z 0 ++ xs) = crcSum k xs := by
  have e : List.replicate z 0 ++ xs = (List.replicate z false ++ bl xs).map ib := by
    rw [List.map_append, ib_bl hx]; congr 1; simp [ib]
  rw [e, crcSum_bits h, run_append, run_zero_zeros, ← crcSum_bits h, ib_bl hx]
end Go.Proofs.Ytpdalbckmfadbaa.Cr

namespace Go.Proofs.Ytpdalbckmfadbaa
open Go.RowKit
set_option linter.unusedVariables false
attribute [local go_sem] Oper.semAt_some
/-- the magnitude of value q -/
def mgL (ms : List Int) (q : Nat) : Int := if ms.length = 0 then 1 else 1 + gi ms (q % ms.length) % 127
def sgV (bs ms : List Int) (q : Nat) : Int := mgL ms q * (1 - 2 * gi bs q)
def SgI (w : World) (n : Nat) (Am : Option Addr) (bs ms : List Int) (i : Value) (wr : World) : Prop := ∃ (j : Nat) (cur : List Int), j ≤ n ∧ i = .int .i64 (j : Int) ∧ Own .i64 3 wr w.heap.size Am n n cur ∧ (∀ q, q < j → gi cur q = sgV bs ms q) ∧ Below w.heap.size w wr
set_option maxRecDepth 100000 in
set_option maxHeartbeats 1000000 in
theorem signed_any (A : Option Addr) (n c : Nat) (bs : List Int) (B : Option Addr) (m d : Nat) (ms : List Int) (w : World) (hx : Rd .u8 w A n c bs) (hy : Rd .u8 w B m d ms) (hb : ∀ x ∈ bs, x = 0 ∨ x = 1) (hm : ∀ x ∈ ms, 0 ≤ x ∧ x < 256) (hn : n ≤ 100000) (hmn : m ≤ 100000) :
    Calls Try.prog 12 #[.slice A n c, .slice B m d] w fun e w' => ∃ A' ys, e = .returned (.slice A' n n) ∧ Own .i64 3 w' w.heap.size A' n n ys ∧ (∀ q, q < n → gi ys q = sgV bs ms q) ∧ Below w.heap.size w w' := by
  have hlx := Rd.len hx
  have hly := Rd.len hy
  have HX := Lib.hid hx
  have HY := Lib.hid hy
  have HBS := Lib.hid (fun j (hj : j < n) => hb (gi bs j) (by rw [gi_eq bs j (by omega)]; exact List.getElem_mem _))
  have HMS := Lib.hid (fun j (hj : j < m) => hm (gi ms j) (by rw [gi_eq ms j (by omega)]; exact List.getElem_mem _))
  have HLY := Lib.hid hly
  clear hx hy hb hm hlx hly
  go_enter Try.func12, Try.ntmps12
  go_wp2_with (at_make; refine list_of rfl fun K hK => wp_mk (n := n) _ _ 22 rfl el22 rfl rfl (by omega) (by unfold maxLen; omega) ?_
               intro Am w3 hO3 hB3 hA
               have HO3 := Lib.hid hO3
               have HB3 := Lib.hid hB3
               clear hO3 hB3 hA
               refine hK _ _ ?_
               clear hK K)
  go_loopw [6] (fun i wr => SgI w n Am bs ms i wr) (fun i _ => n - (intOf i).toNat)
  case atStart => exact ⟨0, List.replicate n 0, Nat.zero_le _, rfl, by have := HO3.out; unfold Own; simpa using this, fun q hq => by omega, HB3.out⟩
  case round =>
    obtain ⟨j, cur, hj, rfl, hO, hsame, hB⟩ := hrel
    have HB := Lib.hid hB
    have HS := Lib.hid hsame
    by_cases hlt : j < n
    · have hcu := Rd.cell (Own.rd hO) hlt
      have hfu := Ownv.frozen hO (by omega) j
      have hiu := fun W => Rdv.ix (Own.rd hO) el22 hlt .i64 W
      have hxr := Rdv.below HX.out hB
      have hcx := Rd.cell hxr hlt
      have hix := fun W => Rdv.ix hxr el26 hlt .i64 W
      have HST := Lib.hid (fun V => Own.set_ hO hlt V)
      have hbA := (Ownv.blk_ge hO (by omega)).1
      have HB2 := Lib.hid (fun V => hB.grown (Own.set_ hO hlt V).2 hB.size (fun k e => by cases e; exact hbA))
      have hcl := Rd.len (Own.rd hO)
      have hbit := HBS.out j hlt
      obtain ⟨x, hxe⟩ : ∃ x, x = gi bs j := ⟨_, rfl⟩
      rw [← hxe] at hcx hbit
      have HV := Lib.hid hxe.symm
      by_cases hm0 : m = 0
      · subst hm0
        have HM : Hid (mgL ms j = 1) := Lib.hid (by unfold mgL; rw [if_pos HLY.out])
        clear hO hB hsame hxr hxe hbA
        rcases hbit with rfl | rfl
        · go_wp2
          go_roundw
          case rel => exact ⟨j + 1, cur.set j _, by omega, by go_num, (HST.out _).1, lt_succ_cases (fun q hq => by rw [gi_set' _ _ _ _ (by omega), if_neg (by omega)]; exact HS.out q hq) (by rw [gi_set' _ _ _ _ (by omega), if_pos rfl]; have h1 := HV.out; have h2 := HM.out; unfold sgV; rw [h1, h2]; first | rfl | omega), HB2.out _⟩
          case measure => simp [intOf]; omega
        · go_wp2
          go_roundw
          case rel => exact ⟨j + 1, cur.set j _, by omega, by go_num, (HST.out _).1, lt_succ_cases (fun q hq => by rw [gi_set' _ _ _ _ (by omega), if_neg (by omega)]; exact HS.out q hq) (by rw [gi_set' _ _ _ _ (by omega), if_pos rfl]; have h1 := HV.out; have h2 := HM.out; unfold sgV; rw [h1, h2]; first | rfl | omega), HB2.out _⟩
          case measure => simp [intOf]; omega
      · have hyr := Rdv.below HY.out hB
        obtain ⟨p, hp⟩ : ∃ p, p = j % m := ⟨_, rfl⟩
        have hpm : p < m := by rw [hp]; exact Nat.mod_lt _ (by omega)
        have hcy := Rd.cell hyr hpm
        have hiy := fun W => Rdv.ix hyr el26 hpm .i64 W
        have hyb := HMS.out p hpm
        obtain ⟨y, hye⟩ : ∃ y, y = gi ms p := ⟨_, rfl⟩
        rw [← hye] at hcy hyb
        have hrm : (j : Int).tmod (m : Int) = (p : Int) := by rw [Int.tmod_eq_emod_of_nonneg (by omega), hp]; rfl
        have hre : (j : Int) % (m : Int) = (p : Int) := by rw [hp]; rfl
        obtain ⟨M, hM⟩ : ∃ M, M = 1 + y % 127 := ⟨_, rfl⟩
        have hMb : 1 ≤ M ∧ M ≤ 127 := by omega
        have ht1 : y.tmod 127 = y % 127 := Int.tmod_eq_emod_of_nonneg (by omega)
        have hw1 : 1 + y % 127 = M := hM.symm
        have hw2 : IntKind.i64.wrap y = y := IntWalk.i64_in _ (by omega)
        have hw3 : IntKind.i64.wrap (y % 127) = y % 127 := IntWalk.i64_in _ (by omega)
        have hw4 : IntKind.i64.wrap (p : Int) = (p : Int) := IntWalk.i64_in _ (by omega)
        have hz0 : ¬ m = 0 := hm0
        have HM : Hid (mgL ms j = M) := Lib.hid (by unfold mgL; rw [HLY.out, if_neg hm0, ← hp, ← hye, hM])
        clear hO hB hsame hxr hxe hbA hyr hp hye hM
        rcases hbit with rfl | rfl
        · go_wp2
          go_roundw
          case rel => exact ⟨j + 1, cur.set j _, by omega, by go_num, (HST.out _).1, lt_succ_cases (fun q hq => by rw [gi_set' _ _ _ _ (by omega), if_neg (by omega)]; exact HS.out q hq) (by rw [gi_set' _ _ _ _ (by omega), if_pos rfl]; have h1 := HV.out; have h2 := HM.out; unfold sgV; rw [h1, h2]; first | rfl | omega), HB2.out _⟩
          case measure => simp [intOf]; omega
        · go_wp2
          go_roundw
          case rel => exact ⟨j + 1, cur.set j _, by omega, by go_num, (HST.out _).1, lt_succ_cases (fun q hq => by rw [gi_set' _ _ _ _ (by omega), if_neg (by omega)]; exact HS.out q hq) (by rw [gi_set' _ _ _ _ (by omega), if_pos rfl]; have h1 := HV.out; have h2 := HM.out; unfold sgV; rw [h1, h2]; first | rfl | omega), HB2.out _⟩
          case measure => simp [intOf]; omega
    · obtain rfl : j = n := by omega
      have HO9 := Lib.hid hO
      clear hO hsame hB
      go_wp2
      go_ret
      exact ⟨Am, cur, rfl, HO9.out, HS.out, HB.out⟩
end Go.Proofs.Ytpdalbckmfadbaa

namespace Go.Proofs.Ytpdalbckmfadbaa
open Go.RowKit
set_option linter.unusedVariables false
attribute [local go_sem] Oper.semAt_some
theorem bit_nn {xs : List Int} (h : Cr.Bit xs) : ∀ x ∈ xs, 0 ≤ x := fun x hx => by rcases h x hx with h | h <;> omega
theorem bit_vb {xs : List Int} (h : Cr.Bit xs) : ValidB xs = true := by
  unfold ValidB
  rw [List.all_eq_true]
  intro x hx
  rcases h x hx with h | h <;> rw [h] <;> rfl
theorem Tu_toB_len (xs : List Int) : (Tu.toB xs).length = xs.length := by unfold Tu.toB; rw [List.length_map]
theorem bit_ib {xs : List Int} (h : Cr.Bit xs) : (Tu.toB xs).map ib = xs := Tu.toB_ib xs (bit_nn h) (bit_vb h)
theorem word_enc {xs : List Int} {k r : Nat} (hk : k = Tu.szK r) (h : Cr.Bit xs) (hl : xs.length = k) : Tu.encE xs = 0 ∧ Tu.encW xs = Tu.wordI (Tu.toB xs) := by
  have hv : Tu.validK (xs.length : Int) = true := by rw [hl, hk]; exact Tu.szK_valid r
  have hb := bit_vb h
  unfold Tu.encE Tu.encW
  rw [if_pos hv, if_pos hv]
  exact ⟨if_pos hb, if_pos hb⟩
def WoI (w : World) (s : Nat) (Am : Option Addr) (i : Value) (wr : World) : Prop := ∃ (j : Nat) (cur : List Int), j ≤ s ∧ i = .int .i64 (j : Int) ∧ Own .u8 5 wr w.heap.size Am s s cur ∧ Cr.Bit cur ∧ Below w.heap.size w wr
/-- what word gives: bits and their code word -/
def WoP (k : Nat) (kind : Int) (w : World) (e : Ending) (w' : World) : Prop :=
  ∃ (x : List Bool) (R : Option Addr) (rc : Nat) (Q : Option Addr) (qc : Nat), e = .returned (.tuple #[.slice R k rc, .slice Q (3 * (k + 4)) qc, .bool true]) ∧ x.length = k ∧ Rd .u8 w' R k rc (x.map ib) ∧ Rd .u8 w' Q (3 * (k + 4)) qc ((Tu.wrd x).map ib) ∧ (kind ≠ 0 → Cr.chkErr kind (x.map ib) = 0) ∧ Below w.heap.size w w'
set_option maxRecDepth 100000 in
set_option maxHeartbeats 1000000 in
theorem word_any (A : Option Addr) (n c : Nat) (bs : List Int) (u kind : Int) (w : World) (hx : Rd .u8 w A n c bs) (hm : ∀ x ∈ bs, 0 ≤ x ∧ x < 256) (hn : n ≤ 100000) (hu : 0 ≤ u ∧ u < 256) (hkd : 0 ≤ kind ∧ kind ≤ 4) (r : Nat) (hr : u % 12 = (r : Int)) (k : Nat) (hk : k = 40 + 8 * r) :
    Calls Try.prog 11 #[.slice A n c, .int .u8 u, .int .i64 kind] w (WoP k kind w) := by
  have hlx := Rd.len hx
  have HX := Lib.hid hx
  have HMS := Lib.hid (fun j (hj : j < n) => hm (gi bs j) (by rw [gi_eq bs j (by omega)]; exact List.getElem_mem _))
  have hr12 : r < 12 := by omega
  have HK : Hid (k = Tu.szK r) := Lib.hid (by unfold Tu.szK; omega)
  obtain ⟨M, hM⟩ : ∃ M, M = 3 * (k + 4) := ⟨_, rfl⟩
  have HM := Lib.hid hM
  unfold WoP
  rw [← hM]
  have hMb : M ≤ 600 := by omega
  have hkb : 40 ≤ k ∧ k ≤ 128 := by omega
  have a1 : u.tmod 12 = (r : Int) := by rw [Int.tmod_eq_emod_of_nonneg (by omega), hr]
  have a2 : 40 + 8 * (r : Int) = (k : Int) := by omega
  have a3 : 3 * ((k : Int) + 4) = (M : Int) := by omega
  have a4 : IntKind.i64.wrap (r : Int) = (r : Int) := IntWalk.i64_in _ (by omega)
  have a5 : IntKind.i64.wrap (k : Int) = (k : Int) := IntWalk.i64_in _ (by omega)
  have a6 : IntKind.i64.wrap (M : Int) = (M : Int) := IntWalk.i64_in _ (by omega)
  have a7 : IntKind.i64.wrap u = u := IntWalk.i64_in _ (by omega)
  have a8 : IntKind.i64.wrap (8 * (r : Int)) = 8 * (r : Int) := IntWalk.i64_in _ (by omega)
  clear hx hm hlx hM hk hu
  by_cases hk0 : kind = 0
  · subst hk0
    have hB0 := Below.refl w.heap.size w
    go_enter Try.func11, Try.ntmps11
    go_wp2_with (at_make; refine list_of rfl fun K hK => wp_mk (n := k) _ _ 24 rfl el26 rfl rfl (by omega) (by unfold maxLen; omega) ?_
                 intro Am w3 hO3 hB3 hA
                 have HO3 := Lib.hid (Ownv.mono hO3 hB0.size)
                 have HB3 := Lib.hid (hB0.trans (hB3.mono hB0.size))
                 clear hO3 hB3 hA hB0
                 refine hK _ _ ?_
                 clear hK K)
    go_loopw [12] (fun i wr => WoI w k Am i wr) (fun i _ => k - (intOf i).toNat)
    case atStart => exact ⟨0, List.replicate k 0, Nat.zero_le _, rfl, by have := HO3.out; unfold Own; simpa using this, fun x hx => .inl (List.eq_of_mem_replicate hx), HB3.out⟩
    case round =>
      obtain ⟨j, cur, hj, rfl, hO, hbit, hB⟩ := hrel
      have HB := Lib.hid hB
      have HC := Lib.hid hbit
      by_cases hlt : j < k
      · by_cases hn0 : n = 0
        · subst hn0
          clear hB hbit hj
          have hcl := Rd.len (Own.rd hO)
          have HE := Lib.hid (Tu.enc_all Am k k cur _ (Own.rd hO) (bit_nn HC.out))
          rw [(word_enc HK.out HC.out hcl).1, (word_enc HK.out HC.out hcl).2] at HE
          have HR := Lib.hid (Own.rd hO)
          have HCL := Lib.hid hcl
          clear hO hcl
          go_wp2_with fail
          refine HE.out.mono ?_
          rintro e w6 ⟨A6, n6, c6, rfl, hO6, hB6⟩
          obtain rfl : n6 = M := by rw [← Rd.len (Own.rd hO6), Tu.wordI_len, Tu_toB_len, HCL.out, HM.out]
          have HR6 := Lib.hid (Own.rd hO6)
          have HRR := Lib.hid (Rdv.below HR.out hB6)
          have HB6 := Lib.hid (HB.out.trans (hB6.mono HB.out.size))
          clear hO6 hB6
          go_wp2_with (go_at_call 8; refine (num_any _ _).mono ?_; rintro e wx ⟨rfl, rfl⟩)
          go_ret3
          exact ⟨_, Am, _, A6, _, rfl, (Tu_toB_len _).trans HCL.out, by rw [bit_ib HC.out]; exact HRR.out, HR6.out, fun h => absurd rfl h, HB6.out⟩
        · have hcu := Rd.cell (Own.rd hO) hlt
          have hfu := Ownv.frozen hO (by omega) j
          have hiu := fun W => Rdv.ix (Own.rd hO) el26 hlt .i64 W
          have hxr := Rdv.below HX.out (hB)
          have HST := Lib.hid (fun V => Own.set_ hO hlt V)
          have hbA := (Ownv.blk_ge hO (by omega)).1
          have HB2 := Lib.hid (fun V => hB.grown (Own.set_ hO hlt V).2 hB.size (fun k e => by cases e; exact hbA))
          obtain ⟨p, hp⟩ : ∃ p, p = j % n := ⟨_, rfl⟩
          have hpm : p < n := by rw [hp]; exact Nat.mod_lt _ (by omega)
          have hcy := Rd.cell hxr hpm
          have hiy := fun W => Rdv.ix hxr el26 hpm .i64 W
          have hyb := HMS.out p hpm
          obtain ⟨y, hye⟩ : ∃ y, y = gi bs p := ⟨_, rfl⟩
          rw [← hye] at hcy hyb
          have hrm : (j : Int).tmod (n : Int) = (p : Int) := by rw [Int.tmod_eq_emod_of_nonneg (by omega), hp]; rfl
          have hre : (j : Int) % (n : Int) = (p : Int) := by rw [hp]; rfl
          obtain ⟨b, hb⟩ : ∃ b, b = y % 2 := ⟨_, rfl⟩
          have hb01 : b = 0 ∨ b = 1 := by omega
          have ht1 : y.tmod 2 = b := by rw [Int.tmod_eq_emod_of_nonneg (by omega), hb]
          have hw1 : y % 2 = b := hb.symm
          have hw2 : IntKind.u8.wrap b = b := by rcases hb01 with h | h <;> rw [h] <;> rfl
          have hw4 : IntKind.i64.wrap (p : Int) = (p : Int) := IntWalk.i64_in _ (by omega)
          have hz0 : ¬ n = 0 := hn0
          have HBI := Lib.hid hb01
          clear hO hB hbit hxr hye hbA hp hb hb01
          go_wp2
          go_roundw
          case rel => exact ⟨j + 1, cur.set j _, by omega, by go_num, (HST.out _).1, fun x hx => by
            rcases List.mem_or_eq_of_mem_set hx with h | h
            · exact HC.out x h
            · rw [h]; exact HBI.out, HB2.out _⟩
          case measure => simp [intOf]; omega
      · obtain rfl : k = j := by omega
        clear hB hbit hlt hj
        have hcl := Rd.len (Own.rd hO)
        have HE := Lib.hid (Tu.enc_all Am k k cur _ (Own.rd hO) (bit_nn HC.out))
        rw [(word_enc HK.out HC.out hcl).1, (word_enc HK.out HC.out hcl).2] at HE
        have HR := Lib.hid (Own.rd hO)
        have HCL := Lib.hid hcl
        clear hO hcl
        go_wp2_with fail
        refine HE.out.mono ?_
        rintro e w6 ⟨A6, n6, c6, rfl, hO6, hB6⟩
        obtain rfl : n6 = M := by rw [← Rd.len (Own.rd hO6), Tu.wordI_len, Tu_toB_len, HCL.out, HM.out]
        have HR6 := Lib.hid (Own.rd hO6)
        have HRR := Lib.hid (Rdv.below HR.out hB6)
        have HB6 := Lib.hid (HB.out.trans (hB6.mono HB.out.size))
        clear hO6 hB6
        go_wp2_with (go_at_call 8; refine (num_any _ _).mono ?_; rintro e wx ⟨rfl, rfl⟩)
        go_ret3
        exact ⟨_, Am, _, A6, _, rfl, (Tu_toB_len _).trans HCL.out, by rw [bit_ib HC.out]; exact HRR.out, HR6.out, fun h => absurd rfl h, HB6.out⟩
  · have q0 := bne_t hk0
    have hsl := Cr.sLen_cases kind
    have hsn : Cr.sLen kind ≠ 0 := by unfold Cr.sLen; repeat (split <;> try omega)
    obtain ⟨l, hl⟩ : ∃ l, l = Cr.sLen kind := ⟨_, rfl⟩
    have HLN := Lib.hid (Cr.len_any kind w)
    rw [← hl] at HLN hsl hsn
    obtain ⟨s, hs⟩ : ∃ s, s = k - l := ⟨_, rfl⟩
    have HS0 : Hid (Cr.sLen kind ≠ 0) := Lib.hid (by rw [← hl]; exact hsn)
    have HKS : Hid (s + Cr.sLen kind = k) := Lib.hid (by rw [← hl]; omega)
    have b1 : (k : Int) - (l : Int) = (s : Int) := by omega
    have hsb : s ≤ 128 := by omega
    have b2 : IntKind.i64.wrap (s : Int) = (s : Int) := IntWalk.i64_in _ (by omega)
    clear hl hs hsl hsn hk0 hkd
    go_enter Try.func11, Try.ntmps11
    go_wp2_with fail
    refine HLN.out.mono ?_
    rintro e w2 ⟨rfl, hB0⟩
    go_wp2_with (at_make; refine list_of rfl fun K hK => wp_mk (n := s) _ _ 24 rfl el26 rfl rfl (by omega) (by unfold maxLen; omega) ?_
                 intro Am w3 hO3 hB3 hA
                 have HO3 := Lib.hid (Ownv.mono hO3 hB0.size)
                 have HB3 := Lib.hid (hB0.trans (hB3.mono hB0.size))
                 clear hO3 hB3 hA hB0
                 refine hK _ _ ?_
                 clear hK K)
    go_loopw [12] (fun i wr => WoI w s Am i wr) (fun i _ => s - (intOf i).toNat)
    case atStart => exact ⟨0, List.replicate s 0, Nat.zero_le _, rfl, by have := HO3.out; unfold Own; simpa using this, fun x hx => .inl (List.eq_of_mem_replicate hx), HB3.out⟩
    case round =>
      obtain ⟨j, cur, hj, rfl, hO, hbit, hB⟩ := hrel
      have HB := Lib.hid hB
      have HC := Lib.hid hbit
      by_cases hlt : j < s
      · by_cases hn0 : n = 0
        · subst hn0
          clear hB hbit hj
          have hcl := Rd.len (Own.rd hO)
          have hs0 : Cr.sLen kind ≠ 0 := HS0.out
          have hvb : Cr.ValidB cur = true := Cr.bit_valid HC.out
          have CA := Lib.hid (Cr.attach_any kind Am s s cur _ (Own.rd hO) (by omega))
          rw [show Cr.cErr kind cur = 0 by unfold Cr.cErr; rw [if_neg hs0, if_pos hvb], show Cr.aRes kind cur = cur ++ Cr.crcSum kind cur by unfold Cr.aRes; rw [if_neg hs0, if_pos hvb]] at CA
          have HY := Lib.hid (Cr.bit_app HC.out (Cr.bit_sum hs0 HC.out))
          have HL : Hid ((cur ++ Cr.crcSum kind cur).length = k) := Lib.hid (by rw [List.length_append, Cr.crcSum_len, hcl]; exact HKS.out)
          have HCK := Lib.hid (Cr.back hs0 HC.out).1
          generalize cur ++ Cr.crcSum kind cur = ys at *
          clear hO hcl hvb hs0
          go_wp2_with fail
          refine CA.out.mono ?_
          rintro e w5 ⟨A5, n5, c5, rfl, hO5, hB5⟩
          obtain rfl : n5 = k := by rw [← Rd.len (Own.rd hO5), HL.out]
          have HE := Lib.hid (Tu.enc_all A5 n5 c5 ys _ (Own.rd hO5) (bit_nn HY.out))
          rw [(word_enc HK.out HY.out HL.out).1, (word_enc HK.out HY.out HL.out).2] at HE
          have HR := Lib.hid (Own.rd hO5)
          have HB5 := Lib.hid (HB.out.trans (hB5.mono HB.out.size))
          clear hO5 hB5
          go_wp2_with (go_at_call 8; refine (num_any _ _).mono ?_; rintro e wx ⟨rfl, rfl⟩)
          refine HE.out.mono ?_
          rintro e w6 ⟨A6, n6, c6, rfl, hO6, hB6⟩
          obtain rfl : n6 = M := by rw [← Rd.len (Own.rd hO6), Tu.wordI_len, Tu_toB_len, HL.out, HM.out]
          have HR6 := Lib.hid (Own.rd hO6)
          have HRR := Lib.hid (Rdv.below HR.out hB6)
          have HB6 := Lib.hid (HB5.out.trans (hB6.mono HB5.out.size))
          clear hO6 hB6
          go_wp2_with (go_at_call 8; refine (num_any _ _).mono ?_; rintro e wx ⟨rfl, rfl⟩)
          go_ret3
          exact ⟨_, A5, _, A6, _, rfl, (Tu_toB_len _).trans HL.out, by rw [bit_ib HY.out]; exact HRR.out, HR6.out, fun _ => by rw [bit_ib HY.out]; exact HCK.out, HB6.out⟩
        · have hcu := Rd.cell (Own.rd hO) hlt
          have hfu := Ownv.frozen hO (by omega) j
          have hiu := fun W => Rdv.ix (Own.rd hO) el26 hlt .i64 W
          have hxr := Rdv.below HX.out (hB)
          have HST := Lib.hid (fun V => Own.set_ hO hlt V)
          have hbA := (Ownv.blk_ge hO (by omega)).1
          have HB2 := Lib.hid (fun V => hB.grown (Own.set_ hO hlt V).2 hB.size (fun k e => by cases e; exact hbA))
          obtain ⟨p, hp⟩ : ∃ p, p = j % n := ⟨_, rfl⟩
          have hpm : p < n := by rw [hp]; exact Nat.mod_lt _ (by omega)
          have hcy := Rd.cell hxr hpm
          have hiy := fun W => Rdv.ix hxr el26 hpm .i64 W
          have hyb := HMS.out p hpm
          obtain ⟨y, hye⟩ : ∃ y, y = gi bs p := ⟨_, rfl⟩
          rw [← hye] at hcy hyb
          have hrm : (j : Int).tmod (n : Int) = (p : Int) := by rw [Int.tmod_eq_emod_of_nonneg (by omega), hp]; rfl
          have hre : (j : Int) % (n : Int) = (p : Int) := by rw [hp]; rfl
          obtain ⟨b, hb⟩ : ∃ b, b = y % 2 := ⟨_, rfl⟩
          have hb01 : b = 0 ∨ b = 1 := by omega
          have ht1 : y.tmod 2 = b := by rw [Int.tmod_eq_emod_of_nonneg (by omega), hb]
          have hw1 : y % 2 = b := hb.symm
          have hw2 : IntKind.u8.wrap b = b := by rcases hb01 with h | h <;> rw [h] <;> rfl
          have hw4 : IntKind.i64.wrap (p : Int) = (p : Int) := IntWalk.i64_in _ (by omega)
          have hz0 : ¬ n = 0 := hn0
          have HBI := Lib.hid hb01
          clear hO hB hbit hxr hye hbA hp hb hb01
          go_wp2
          go_roundw
          case rel => exact ⟨j + 1, cur.set j _, by omega, by go_num, (HST.out _).1, fun x hx => by
            rcases List.mem_or_eq_of_mem_set hx with h | h
            · exact HC.out x h
            · rw [h]; exact HBI.out, HB2.out _⟩
          case measure => simp [intOf]; omega
      · obtain rfl : s = j := by omega
        clear hB hbit hlt hj
        have hcl := Rd.len (Own.rd hO)
        have hs0 : Cr.sLen kind ≠ 0 := HS0.out
        have hvb : Cr.ValidB cur = true := Cr.bit_valid HC.out
        have CA := Lib.hid (Cr.attach_any kind Am s s cur _ (Own.rd hO) (by omega))
        rw [show Cr.cErr kind cur = 0 by unfold Cr.cErr; rw [if_neg hs0, if_pos hvb], show Cr.aRes kind cur = cur ++ Cr.crcSum kind cur by unfold Cr.aRes; rw [if_neg hs0, if_pos hvb]] at CA
        have HY := Lib.hid (Cr.bit_app HC.out (Cr.bit_sum hs0 HC.out))
        have HL : Hid ((cur ++ Cr.crcSum kind cur).length = k) := Lib.hid (by rw [List.length_append, Cr.crcSum_len, hcl]; exact HKS.out)
        have HCK := Lib.hid (Cr.back hs0 HC.out).1
        generalize cur ++ Cr.crcSum kind cur = ys at *
        clear hO hcl hvb hs0
        go_wp2_with fail
        refine CA.out.mono ?_
        rintro e w5 ⟨A5, n5, c5, rfl, hO5, hB5⟩
        obtain rfl : n5 = k := by rw [← Rd.len (Own.rd hO5), HL.out]
        have HE := Lib.hid (Tu.enc_all A5 n5 c5 ys _ (Own.rd hO5) (bit_nn HY.out))
        rw [(word_enc HK.out HY.out HL.out).1, (word_enc HK.out HY.out HL.out).2] at HE
        have HR := Lib.hid (Own.rd hO5)
        have HB5 := Lib.hid (HB.out.trans (hB5.mono HB.out.size))
        clear hO5 hB5
        go_wp2_with (go_at_call 8; refine (num_any _ _).mono ?_; rintro e wx ⟨rfl, rfl⟩)
        refine HE.out.mono ?_
        rintro e w6 ⟨A6, n6, c6, rfl, hO6, hB6⟩
        obtain rfl : n6 = M := by rw [← Rd.len (Own.rd hO6), Tu.wordI_len, Tu_toB_len, HL.out, HM.out]
        have HR6 := Lib.hid (Own.rd hO6)
        have HRR := Lib.hid (Rdv.below HR.out hB6)
        have HB6 := Lib.hid (HB5.out.trans (hB6.mono HB5.out.size))
        clear hO6 hB6
        go_wp2_with (go_at_call 8; refine (num_any _ _).mono ?_; rintro e wx ⟨rfl, rfl⟩)
        go_ret3
        exact ⟨_, A5, _, A6, _, rfl, (Tu_toB_len _).trans HL.out, by rw [bit_ib HY.out]; exact HRR.out, HR6.out, fun _ => by rw [bit_ib HY.out]; exact HCK.out, HB6.out⟩
end Go.Proofs.Ytpdalbckmfadbaa

namespace Go.Proofs.Ytpdalbckmfadbaa
open Go.RowKit
set_option linter.unusedVariables false
attribute [local go_sem] Oper.semAt_some
theorem gi_ibs (l : List Bool) (q : Nat) (h : q < l.length) : gi (l.map ib) q = (bq (Tu.gB l q) : Int) := by
  unfold gi Tu.gB
  rw [List.getD_eq_getElem?_getD, List.getD_eq_getElem?_getD, List.getElem?_map, List.getElem?_eq_getElem h]
  show ib l[q] = (bq l[q] : Int)
  cases l[q] <;> rfl
theorem ibs01 (l : List Bool) : ∀ x ∈ l.map ib, x = 0 ∨ x = 1 := fun x hx => by
  obtain ⟨b, -, rfl⟩ := List.mem_map.1 hx
  cases b
  · exact .inl rfl
  · exact .inr rfl
theorem mgL_bd (ms : List Int) (q : Nat) : 1 ≤ mgL ms q ∧ mgL ms q ≤ 127 := by unfold mgL; split <;> omega
theorem sg_pm {m b : Int} (h : 1 ≤ m ∧ m ≤ 127) (hb : b = 0 ∨ b = 1) : -127 ≤ m * (1 - 2 * b) ∧ m * (1 - 2 * b) ≤ 127 := by
  rcases hb with rfl | rfl
  · omega
  · omega
theorem bq01 (b : Bool) : (bq b : Int) = 0 ∨ (bq b : Int) = 1 := by cases b <;> simp [bq]
theorem wr_ok {ys : List Int} {K most : Int} {k r : Nat} (hk : k = Tu.szK r) (hl : ys.length = 3 * (k + 4)) (hs : ∀ q, q < 3 * (k + 4) → -127 ≤ gi ys q ∧ gi ys q ≤ 127) (hK : 0 ≤ K ∧ K ≤ 4) (hm : 1 ≤ most ∧ most ≤ 64) : wrE ys K most = 0 ∧ kOf ys = k := by
  have hko : kOf ys = k := by unfold kOf; omega
  refine ⟨?_, hko⟩
  have hsb : SoftB ys = true := all_gi.2 fun j hj => by simpa using hs j (by omega)
  have hv : Tu.validK ((ys.length : Int) / 3 - 4) = true := by
    rw [show (ys.length : Int) / 3 - 4 = ((k : Nat) : Int) by omega, hk]; exact Tu.szK_valid r
  unfold wrE
  rw [if_neg ?_, if_pos hsb]
  rintro (q | q | q | q | q | q)
  · omega
  · rw [hv] at q; cases q
  all_goals omega
theorem sg_of {ys ms : List Int} {x : List Bool} {k : Nat} (hx : x.length = k) (hv : ∀ q, q < 3 * (k + 4) → gi ys q = sgV ((Tu.wrd x).map ib) ms q) : Sgn ys k x (mgL ms) := fun q hq => by
  refine ⟨?_, mgL_bd ms q⟩
  rw [hv q hq]
  unfold sgV
  rw [gi_ibs _ _ (by rw [Tu.wrd_len, hx]; exact hq)]
theorem clean_it {ys ms : List Int} {x : List Bool} {k r : Nat} {K : Int} (hk : k = Tu.szK r) (hx : x.length = k) (hl : ys.length = 3 * (k + 4)) (hv : ∀ q, q < 3 * (k + 4) → gi ys q = sgV ((Tu.wrd x).map ib) ms q) (hK : 0 ≤ K ∧ K ≤ 4) (hc : K ≠ 0 → Cr.chkErr K (x.map ib) = 0) :
    itE ys K 3 = 0 ∧ itH ys K 3 = (if K = 0 then 2 else 1) ∧ itD ys K 3 = x.map ib := by
  have hS := sg_of hx hv
  obtain ⟨hE, hko⟩ := wr_ok (K := K) (most := 3) hk hl (fun q hq => by rw [(hS q hq).1]; exact sg_pm (hS q hq).2 (bq01 _)) hK (by omega)
  obtain ⟨d0, d1⟩ := clean_two hk hx hS
  by_cases h0 : K = 0
  · subst h0
    have hf : fdN ys 0 ((3 : Nat) : Int) = some 1 := fd_of hko (by omega) (by unfold okN; rw [if_pos rfl]; show (_ && decide (decN ys k 1 = decN ys k 0)) = true; rw [d1, d0]; simp) (fun q hq => by
      obtain rfl : q = 0 := by omega
      exact ok0_0 ys k)
    obtain ⟨i1, i2, i3⟩ := it_of hko hE hf
    exact ⟨i1, i2.trans (by rfl), i3.trans d1⟩
  · have hf : fdN ys K ((3 : Nat) : Int) = some 0 := fd_of hko (by omega) (by unfold okN; rw [if_neg h0, d0, hc h0]; rfl) (fun q hq => by omega)
    obtain ⟨i1, i2, i3⟩ := it_of hko hE hf
    exact ⟨i1, i2.trans (by rw [if_neg h0]; rfl), i3.trans d0⟩
set_option maxRecDepth 100000 in
set_option maxHeartbeats 1000000 in
theorem clean_any (A : Option Addr) (n c : Nat) (bs : List Int) (u kd : Int) (B : Option Addr) (m d : Nat) (ms : List Int) (w : World) (hx : Rd .u8 w A n c bs) (hbs : ∀ x ∈ bs, 0 ≤ x ∧ x < 256) (hu : 0 ≤ u ∧ u < 256) (hd : 0 ≤ kd ∧ kd < 256) (hy : Rd .u8 w B m d ms) (hms : ∀ x ∈ ms, 0 ≤ x ∧ x < 256) :
    Calls Try.prog 4 #[.slice A n c, .int .u8 u, .int .u8 kd, .slice B m d] w fun e w' => e = .returned (.bool true) ∧ Below w.heap.size w w' := by
  have hbd1 := hx.bd.1
  have hbd2 := hy.bd.1
  by_cases h1 : 500 < n
  · clear hx hy hbs hms
    go_enter Try.func4, Try.ntmps4
    go_wp2_with (go_at_call 6; refine (works_any _).mono ?_; rintro e w9 ⟨rfl, hB9⟩)
    go_ret
    exact ⟨rfl, hB9⟩
  by_cases h2 : 500 < m
  · clear hx hy hbs hms
    go_enter Try.func4, Try.ntmps4
    go_wp2_with (go_at_call 6; refine (works_any _).mono ?_; rintro e w9 ⟨rfl, hB9⟩)
    go_ret
    exact ⟨rfl, hB9⟩
  obtain ⟨K, hK⟩ : ∃ K, K = kd % 5 := ⟨_, rfl⟩
  obtain ⟨r, hr⟩ : ∃ r : Nat, u % 12 = (r : Int) := ⟨(u % 12).toNat, by omega⟩
  obtain ⟨k, hk⟩ : ∃ k, k = 40 + 8 * r := ⟨_, rfl⟩
  have hr12 : r < 12 := by omega
  have HK : Hid (k = Tu.szK r) := Lib.hid (by unfold Tu.szK; omega)
  have hKb : 0 ≤ K ∧ K ≤ 4 := by omega
  have HKB := Lib.hid hKb
  have HW := Lib.hid (word_any A n c bs u K w hx hbs (by omega) hu hKb r hr k hk)
  have HY := Lib.hid hy
  have HMS := Lib.hid hms
  have a1 : kd.tmod 5 = K := by rw [Int.tmod_eq_emod_of_nonneg (by omega), hK]
  have a2 : IntKind.i64.wrap kd = kd := IntWalk.i64_in _ (by omega)
  have a3 : IntKind.i64.wrap K = K := IntWalk.i64_in _ (by omega)
  have HM := Lib.hid (show m ≤ 100000 by omega)
  have HKK := Lib.hid (show k ≤ 128 by omega)
  clear hx hy hbs hms hr hk hK hu
  go_enter Try.func4, Try.ntmps4
  go_wp2_with fail
  refine HW.out.mono ?_
  rintro e w1 ⟨x, R, rc, Q, qc, rfl, hxl, hR, hQ, hck, hB⟩
  have HXL := Lib.hid hxl
  have HX1 := Lib.hid hR
  have HCK := Lib.hid hck
  have HB1 := Lib.hid hB
  have HS := Lib.hid (signed_any Q (3 * (k + 4)) qc _ B m d ms w1 hQ (Rdv.below HY.out hB) (ibs01 _) HMS.out (by have := HKK.out; omega) HM.out)
  clear hxl hR hQ hck hB
  go_wp2_with fail
  refine HS.out.mono ?_
  rintro e w2 ⟨A2, ys, rfl, hO, hv, hB⟩
  have HX2 := Lib.hid (Rdv.below HX1.out hB)
  have HB2 := Lib.hid (HB1.out.trans (hB.mono HB1.out.size))
  have HIT := Lib.hid (clean_it HK.out HXL.out (Rd.len (Own.rd hO)) hv HKB.out HCK.out)
  have HD := dec_any A2 (3 * (k + 4)) (3 * (k + 4)) ys K 3 w2 (Own.rd hO) (by have := HKK.out; omega)
  unfold DcA at HD
  rw [HIT.out.1, HIT.out.2.1, HIT.out.2.2] at HD
  have HD := Lib.hid HD
  clear hO hv hB HIT HS
  go_wp2_with fail
  refine HD.out.mono ?_
  rintro e w3 ⟨R2, nr, rc2, rfl, hR, -, hB⟩
  have HR3 := Lib.hid hR
  have HX3 := Lib.hid (Rdv.below HX2.out hB)
  have HB3 := Lib.hid (HB2.out.trans (hB.mono HB2.out.size))
  clear hR hB
  by_cases h0 : K = 0
  · subst h0
    · rw [if_pos rfl]
      go_wp2_with (first
        | (go_at_call 8; refine (num_any _ _).mono ?_; rintro e wx ⟨rfl, rfl⟩)
        | (go_at_call 9; refine (same_self R2 R nr rc2 k rc (x.map ib) w3 HR3.out HX3.out).mono ?_; rintro e wx ⟨rfl, rfl⟩)
        | (go_at_call 6; refine (works_any _).mono ?_; rintro e w9 ⟨rfl, hB9⟩))
      go_ret
      exact ⟨rfl, HB3.out.trans (hB9.mono HB3.out.size)⟩
  · have q0 := bne_t h0
    have q1 : (K == 0) = false := beq_f h0
    · rw [if_neg h0]
      go_wp2_with (first
        | (go_at_call 8; refine (num_any _ _).mono ?_; rintro e wx ⟨rfl, rfl⟩)
        | (go_at_call 9; refine (same_self R2 R nr rc2 k rc (x.map ib) w3 HR3.out HX3.out).mono ?_; rintro e wx ⟨rfl, rfl⟩)
        | (go_at_call 6; refine (works_any _).mono ?_; rintro e w9 ⟨rfl, hB9⟩))
      go_ret
      exact ⟨rfl, HB3.out.trans (hB9.mono HB3.out.size)⟩
end Go.Proofs.Ytpdalbckmfadbaa

namespace Go.Proofs.Ytpdalbckmfadbaa
open Go.RowKit
set_option linter.unusedVariables false
attribute [local go_sem] Oper.semAt_some
theorem sgM_pm {M : Int} (h : 1 ≤ M ∧ M ≤ 127) (x y q : Nat) {b : Int} (hb : b = 0 ∨ b = 1) : -127 ≤ sgM M x y q * (1 - 2 * b) ∧ sgM M x y q * (1 - 2 * b) ≤ 127 := by
  unfold sgM
  rcases hb with rfl | rfl <;> split <;> omega
theorem hold_it {ys : List Int} {x : List Bool} {k r X Y N : Nat} {K M : Int} (hN : N = 3 * (k + 4)) (hk : k = Tu.szK r) (hk2 : k ≤ 200) (hx : x.length = k) (hl : ys.length = N) (hM : 1 ≤ M ∧ M ≤ 127) (hv : ∀ q, q < N → gi ys q = sgM M X Y q * (1 - 2 * gi ((Tu.wrd x).map ib) q)) (hK : 1 ≤ K ∧ K ≤ 4) (hc : Cr.chkErr K (x.map ib) = 0) :
    itE ys K 1 = 0 ∧ itH ys K 1 = 1 ∧ itD ys K 1 = x.map ib := by
  subst hN
  have hv2 : ∀ q, q < 3 * (k + 4) → gi ys q = sgM M X Y q * (1 - 2 * (bq (Tu.gB (Tu.wrd x) q) : Int)) := fun q hq => by rw [hv q hq, gi_ibs _ _ (by rw [Tu.wrd_len, hx]; exact hq)]
  obtain ⟨hE, hko⟩ := wr_ok (K := K) (most := 1) hk hl (fun q hq => by rw [hv2 q hq]; exact sgM_pm hM X Y q (bq01 _)) (by omega) (by omega)
  have d0 := hold_one hk hk2 hM hx X Y hv2
  have h0 : K ≠ 0 := by omega
  have hf : fdN ys K ((1 : Nat) : Int) = some 0 := fd_of hko (by omega) (by unfold okN; rw [if_neg h0, d0, hc]; rfl) (fun q hq => by omega)
  obtain ⟨i1, i2, i3⟩ := it_of hko hE hf
  exact ⟨i1, i2.trans (by rfl), i3.trans d0⟩
theorem sg_one {bs : List Int} {g M : Int} (hM : M = 1 + g % 127) (q : Nat) : sgV bs [g] q = M * (1 - 2 * gi bs q) := by
  unfold sgV mgL
  rw [if_neg (by simp), show q % ([g] : List Int).length = 0 by simp [Nat.mod_one], hM]
  rfl
theorem tm_of (a : Int) (M : Nat) (h : 0 ≤ a) (h1 : 1 ≤ M) : ∃ x : Nat, x < M ∧ a.tmod (M : Int) = (x : Int) := by
  have e : a.tmod (M : Int) = a % (M : Int) := Int.tmod_eq_emod_of_nonneg h
  have h3 := Int.emod_nonneg a (show (M : Int) ≠ 0 by omega)
  have h4 := Int.emod_lt_of_pos a (show 0 < (M : Int) by omega)
  rw [e]
  generalize a % (M : Int) = r at *
  exact ⟨r.toNat, by omega, by omega⟩
set_option maxRecDepth 100000 in
set_option maxHeartbeats 2000000 in
theorem hold_any (A : Option Addr) (n c : Nat) (bs : List Int) (u kd mg one two : Int) (w : World) (hx : Rd .u8 w A n c bs) (hbs : ∀ x ∈ bs, 0 ≤ x ∧ x < 256) (hu : 0 ≤ u ∧ u < 256) (hd : 0 ≤ kd ∧ kd < 256) (hg : 0 ≤ mg ∧ mg < 256) (ho : 0 ≤ one ∧ one < 65536) (ht : 0 ≤ two ∧ two < 65536) :
    Calls Try.prog 5 #[.slice A n c, .int .u8 u, .int .u8 kd, .int .u8 mg, .int .u16 one, .int .u16 two] w fun e w' => e = .returned (.bool true) ∧ Below w.heap.size w w' := by
  have hbd1 := hx.bd.1
  by_cases h1 : 500 < n
  · clear hx hbs
    go_enter Try.func5, Try.ntmps5
    go_wp2_with (go_at_call 6; refine (works_any _).mono ?_; rintro e w9 ⟨rfl, hB9⟩)
    go_ret
    exact ⟨rfl, hB9⟩
  obtain ⟨K', hK'⟩ : ∃ K', K' = kd % 4 := ⟨_, rfl⟩
  obtain ⟨K, hK⟩ : ∃ K, K = 1 + K' := ⟨_, rfl⟩
  obtain ⟨r, hr⟩ : ∃ r : Nat, u % 12 = (r : Int) := ⟨(u % 12).toNat, by omega⟩
  obtain ⟨k, hk⟩ : ∃ k, k = 40 + 8 * r := ⟨_, rfl⟩
  obtain ⟨M, hM⟩ : ∃ M, M = 1 + mg % 127 := ⟨_, rfl⟩
  have hMb : 1 ≤ M ∧ M ≤ 127 := by omega
  have hr12 : r < 12 := by omega
  have HK : Hid (k = Tu.szK r) := Lib.hid (by unfold Tu.szK; omega)
  have hKb : 1 ≤ K ∧ K ≤ 4 := by omega
  have HKB := Lib.hid hKb
  have HMB := Lib.hid hMb
  have HMM := Lib.hid hM
  have HW := Lib.hid (word_any A n c bs u K w hx hbs (by omega) hu (by omega) r hr k hk)
  have a1 : kd.tmod 4 = K' := by rw [Int.tmod_eq_emod_of_nonneg (by omega), hK']
  have a2 : IntKind.i64.wrap kd = kd := IntWalk.i64_in _ (by omega)
  have a3 : IntKind.i64.wrap K' = K' := IntWalk.i64_in _ (by omega)
  have a4 : 1 + K' = K := hK.symm
  have a5 : IntKind.i64.wrap K = K := IntWalk.i64_in _ (by omega)
  have HKK := Lib.hid (show 40 ≤ k ∧ k ≤ 128 by omega)
  have HOT := Lib.hid (And.intro ho ht)
  have HG := Lib.hid hg
  clear hx hbs hr hk hK hu hM hK' hd hr12 ho ht hg
  go_enter Try.func5, Try.ntmps5
  go_wp2_with fail
  refine HW.out.mono ?_
  rintro e w1 ⟨x, R, rc, Q, qc, rfl, hxl, hR, hQ, hck, hB⟩
  obtain ⟨N, hN⟩ : ∃ N, N = 3 * (k + 4) := ⟨_, rfl⟩
  rw [← hN] at hQ ⊢
  have HN := Lib.hid hN
  have hNb : 8 ≤ N ∧ N ≤ 500 := by have := HKK.out; omega
  have HXL := Lib.hid hxl
  have HCK := Lib.hid (hck (by omega))
  have hba : Below w1.heap.size w1 (w1.alloc (.cells #[.int .u8 mg] 5)) := (Below.refl _ _).alloc (Nat.le_refl _) _
  have hlit : Rd .u8 (w1.alloc (.cells #[.int .u8 mg] 5)) (some ⟨w1.heap.size, 0, none⟩) 1 1 [mg] := by
    have h := (Ownv.lit (base := 0) w1 #[.int .u8 mg] 5 rfl (Nat.zero_le _) (by show 1 ≤ maxLen; unfold maxLen; omega)).rd
    unfold Rd; simpa using h
  have HX1 := Lib.hid (Rdv.below hR hba)
  have HB1 := Lib.hid (hB.trans (hba.mono hB.size))
  have HS := Lib.hid (signed_any Q N qc _ (some ⟨w1.heap.size, 0, none⟩) 1 1 [mg] (w1.alloc (.cells #[.int .u8 mg] 5)) (Rdv.below hQ hba) hlit (ibs01 _) (fun v hv => by rw [List.mem_singleton] at hv; rw [hv]; exact HG.out) (by omega) (by omega))
  clear hN hxl hR hQ hck hB hba hlit
  go_wp2_with fail
  refine HS.out.mono ?_
  rintro e w2 ⟨G, ys, rfl, hO, hv, hB⟩
  have HX2 := Lib.hid (Rdv.below HX1.out hB)
  have HB2 := Lib.hid (HB1.out.trans (hB.mono HB1.out.size))
  have HYL := Lib.hid (Rd.len (Own.rd hO))
  have hG : w.heap.size ≤ blk G := Nat.le_trans HB1.out.size (Ownv.blk_ge hO (by omega)).1
  have hGR : blk R ≠ blk G := by
    have h1 := rd_lt HX1.out (by have := HKK.out; omega)
    have h2 := (Ownv.blk_ge hO (by omega)).1
    omega
  have HV : Hid (∀ q, q < N → gi ys q = M * (1 - 2 * gi ((Tu.wrd x).map ib) q)) := Lib.hid (fun q hq => by rw [hv q hq, sg_one HMM.out])
  have HVB : Hid (∀ q, q < N → -127 ≤ gi ys q ∧ gi ys q ≤ 127) := Lib.hid (fun q hq => by rw [HV.out q hq, gi_ibs _ _ (by rw [Tu.wrd_len, HXL.out, ← HN.out]; exact hq)]; exact sg_pm HMB.out (bq01 _))
  have HO := Lib.hid hO
  obtain ⟨X, hX1, hX2⟩ := tm_of one N HOT.out.1.1 (by omega)
  obtain ⟨Y, hY1, hY2⟩ := tm_of two N HOT.out.2.1 (by omega)
  have fa2 : IntKind.i64.wrap one = one := IntWalk.i64_in _ (by have := HOT.out.1; omega)
  have fa3 : IntKind.i64.wrap two = two := IntWalk.i64_in _ (by have := HOT.out.2; omega)
  have hv1 := HVB.out X hX1
  have hv2 := HVB.out Y hY1
  clear hO hv hB HS
  go_wp2_with fail
  go_quiet (fail)
  have hO7 := Ownv.drewN HO.out nq
  have hX7 := Rdv.below HX2.out (Qt.below ⟨nq, rfl⟩ _)
  have hB7 := HB2.out.trans (Qt.below ⟨nq, rfl⟩ _)
  clear fa2 fa3 hX2 hY2
  generalize w2.drewN nq = wq at *
  have hiG := fun W => Rdv.ix (Own.rd hO7) el22 hX1 .i64 W
  have hiH := fun W => Rdv.ix (Own.rd hO7) el22 hY1 .i64 W
  have cz1 := Rd.cell (Own.rd hO7) hX1
  have fz1 := Ownv.frozen hO7 (by omega) X
  have fz2 := Ownv.frozen hO7 (by omega) Y
  have hs1 := Own.set_ hO7 hX1 (-gi ys X)
  have hb1 := hB7.grown hs1.2 hB7.size (fun k hk => by cases hk; exact hG)
  have hx1 := Rdv.grown hX7 hs1.2 (fun _ e => hGR (Option.some.inj e))
  by_cases hxy : Y = X
  · subst hxy
    have hbe : ((Y : Int) != (Y : Int)) = false := bne_f rfl
    have hIT := hold_it (ys := ys.set Y (-gi ys Y)) (X := Y) (Y := Y) HN.out HK.out (by have := HKK.out; omega) HXL.out (by rw [List.length_set]; exact HYL.out) HMB.out (fun q hq => by
      rw [gi_set' _ _ _ _ (by have := HYL.out; omega)]
      unfold sgM
      by_cases h : q = Y
      · rw [if_pos h.symm, if_pos (.inl h), ← h, HV.out q hq, Int.neg_mul]
      · rw [if_neg (fun e => h e.symm), if_neg (by omega), HV.out q hq]) HKB.out HCK.out
    go_wp2_with fail
    clear cz1 fz1 fz2 hbe hiG hiH hO7 hX7 hB7
    obtain ⟨hO3, -⟩ := hs1
    have hX3 := hx1
    have hB3 := hb1
    clear hx1 hb1
    generalize hwz : wq.setCell (adr G Y) (.int .i64 (-gi ys Y)) = wz at *
    have HX3 := Lib.hid hX3
    have HB3 := Lib.hid hB3
    have HD := dec_any G N N _ K 1 wz (Own.rd hO3) (by have := HKK.out; have := HN.out; omega)
    unfold DcA at HD
    rw [hIT.1, hIT.2.1, hIT.2.2] at HD
    have HD := Lib.hid HD
    clear hO3 hX3 hB3 hIT
    go_wp2_with fail
    refine HD.out.mono ?_
    rintro e w4 ⟨R2, nr, rc2, rfl, hR, -, hB⟩
    have HR4 := Lib.hid hR
    have HX4 := Lib.hid (Rdv.below HX3.out hB)
    have HB4 := Lib.hid (HB3.out.trans (hB.mono HB3.out.size))
    clear hR hB
    go_wp2_with (first
      | (go_at_call 8; refine (num_any _ _).mono ?_; rintro e wx ⟨rfl, rfl⟩)
      | (go_at_call 9; refine (same_self R2 R nr rc2 k rc (x.map ib) w4 HR4.out HX4.out).mono ?_; rintro e wx ⟨rfl, rfl⟩)
      | (go_at_call 6; refine (works_any _).mono ?_; rintro e w9 ⟨rfl, hB9⟩))
    go_ret
    exact ⟨rfl, HB4.out.trans (hB9.mono HB4.out.size)⟩
  · have hbe : ((Y : Int) != (X : Int)) = true := bne_t (by omega)
    have cz2 : (wq.setCell (adr G X) (.int .i64 (-gi ys X))).cell? (adr G Y) = some (.int .i64 (gi ys Y)) := by
      have h := Rd.cell (Own.rd hs1.1) hY1
      rw [gi_set' _ _ _ _ (by have := HYL.out; omega), if_neg (fun e => hxy e.symm)] at h
      exact h
    have fz3 := Ownv.frozen hs1.1 (by omega) Y
    have hs2 := Own.set_ hs1.1 hY1 (-gi ys Y)
    have hb2 := hb1.grown hs2.2 hb1.size (fun k hk => by cases hk; exact hG)
    have hx2 := Rdv.grown hx1 hs2.2 (fun _ e => hGR (Option.some.inj e))
    have hIT := hold_it (ys := (ys.set X (-gi ys X)).set Y (-gi ys Y)) (X := X) (Y := Y) HN.out HK.out (by have := HKK.out; omega) HXL.out (by rw [List.length_set, List.length_set]; exact HYL.out) HMB.out (fun q hq => by
      rw [gi_set' _ _ _ _ (by rw [List.length_set]; have := HYL.out; omega)]
      unfold sgM
      by_cases h : q = Y
      · rw [if_pos h.symm, if_pos (.inr h), ← h, HV.out q hq, Int.neg_mul]
      · rw [if_neg (fun e => h e.symm), gi_set' _ _ _ _ (by have := HYL.out; omega)]
        by_cases h' : q = X
        · rw [if_pos h'.symm, if_pos (.inl h'), ← h', HV.out q hq, Int.neg_mul]
        · rw [if_neg (fun e => h' e.symm), if_neg (by omega), HV.out q hq]) HKB.out HCK.out
    go_wp2_with fail
    clear cz1 cz2 fz1 fz2 fz3 hbe hiG hiH hO7 hX7 hB7 hs1 hx1 hb1
    obtain ⟨hO3, -⟩ := hs2
    have hX3 := hx2
    have hB3 := hb2
    clear hx2 hb2
    generalize hwz : (wq.setCell (adr G X) (.int .i64 (-gi ys X))).setCell (adr G Y) (.int .i64 (-gi ys Y)) = wz at *
    have HX3 := Lib.hid hX3
    have HB3 := Lib.hid hB3
    have HD := dec_any G N N _ K 1 wz (Own.rd hO3) (by have := HKK.out; have := HN.out; omega)
    unfold DcA at HD
    rw [hIT.1, hIT.2.1, hIT.2.2] at HD
    have HD := Lib.hid HD
    clear hO3 hX3 hB3 hIT
    go_wp2_with fail
    refine HD.out.mono ?_
    rintro e w4 ⟨R2, nr, rc2, rfl, hR, -, hB⟩
    have HR4 := Lib.hid hR
    have HX4 := Lib.hid (Rdv.below HX3.out hB)
    have HB4 := Lib.hid (HB3.out.trans (hB.mono HB3.out.size))
    clear hR hB
    go_wp2_with (first
      | (go_at_call 8; refine (num_any _ _).mono ?_; rintro e wx ⟨rfl, rfl⟩)
      | (go_at_call 9; refine (same_self R2 R nr rc2 k rc (x.map ib) w4 HR4.out HX4.out).mono ?_; rintro e wx ⟨rfl, rfl⟩)
      | (go_at_call 6; refine (works_any _).mono ?_; rintro e w9 ⟨rfl, hB9⟩))
    go_ret
    exact ⟨rfl, HB4.out.trans (hB9.mono HB4.out.size)⟩
end Go.Proofs.Ytpdalbckmfadbaa

